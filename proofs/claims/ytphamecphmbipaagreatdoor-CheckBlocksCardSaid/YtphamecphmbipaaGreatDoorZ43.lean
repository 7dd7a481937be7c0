/- Texts of this claim, merged. -/
import Derived.Test.YtphamecphmbipaaGreatDoorZ42
set_option linter.unusedVariables false
namespace Go.Proofs.YtphamecphmbipaaGreatDoor
open Go.RowKit
variable {off B k:Nat}
theorem kA.wide{w w3:World}{la:Option Addr}{N lc:Nat}{W:World}(h:kA w3 la N lc W)(hb:Below w.heap.size w w3):kA w la N lc W:=by
 obtain⟨⟨xs,h1,h2⟩,h3⟩:=h;refine⟨⟨xs,⟨h1.1,?_⟩,h2⟩,hb.trans (h3.mono hb.size)⟩;rcases h1.2 with h'|⟨g',cap',cur,hv,hbb,hr⟩
 ·exact .inl h'
 exact .inr ⟨g',cap',cur,hv,by have:=hb.size;omega,hr⟩
theorem MR{W:World}{b n:Nat}{rb rf:Nat->Int}{rm:Nat->Bool}(h:fN B W (some ⟨b,off,none⟩) 3 n (Ic rb rf rm))(hk:k<n):W.cell? ⟨b,off+k*3,none⟩=some (.int .i64 (rb k))/\W.rangeAt b (off+k*3) (Ic rb rf rm k):=by
 rcases h.1 with h0|⟨b',off',e,hs⟩
 ·omega
 injection e with e;injection e with e1 e2;subst e1 e2
 exact⟨hs k hk 0 _ rfl,hs.range k hk⟩
theorem Gc{W:World}{b n:Nat}{m:Nat->Int}(h:fN B W (some ⟨b,off,none⟩) 1 n (Tw m))(hk:k<n):W.cell? ⟨b,off+k*1,none⟩=some (.int .i64 (m k)):=by
 rcases h.1 with h0|⟨b',off',e,hs⟩
 ·omega
 injection e with e;injection e with e1 e2;subst e1 e2
 exact hs k hk 0 _ rfl
def kR8(g lc n b off cc cn k kb:Nat)(x f:Int)(m:Bool)(z:Nat->Int):Nat->Option Value
 |0=>some (.slice (some ⟨g,0,none⟩) n lc)
 |1=>some (.slice (some ⟨b,off,none⟩) cn cc)
 |2=>some (.int .i64 (k:Int))
 |3=>some (.pointer (some ⟨b,off+k*3,none⟩))
 |4=>some (.pointer (some ⟨b,off+k*3,none⟩))
 |5=>some (.int .i64 (kb:Int))
 |6=>some (.slice (some ⟨b,off,none⟩) cn cc)
 |7=>some (.int .i64 (k:Int))
 |8=>some (.pointer (some ⟨b,off+k*3,none⟩))
 |9=>some (.agg (xQ x f m))
 |10=>some (aR z)
 |11=>some (.pointer (some ⟨g,0+kb*256,none⟩))
 |_=>none
def Vd(b off cc cn k:Nat)(x y:Int):Nat->Option Value
 |0=>some (.slice (some ⟨b,off,none⟩) cn cc)
 |1=>some (.int .i64 (k:Int))
 |2=>some (.pointer (some ⟨b,off+k*1,none⟩))
 |3=>some (.int .i64 x)
 |4=>some (.slice (some ⟨b,off,none⟩) cn cc)
 |5=>some (.int .i64 (k:Int))
 |6=>some (.int .i64 ((k+1:Nat):Int))
 |7=>some (.pointer (some ⟨b,off+(k+1)*1,none⟩))
 |8=>some (.int .i64 y)
 |9=>some (.int .i64 x)
 |10=>some (.int .i64 y)
 |_=>none
def Vc(g lc n x y:Nat):Nat->Option Value
 |0=>some (.slice (some ⟨g,0,none⟩) n lc)
 |1=>some (.int .i64 (x:Int))
 |2=>some (.slice (some ⟨g,0,none⟩) n lc)
 |3=>some (.int .i64 (y:Int))
 |4=>some (.slice (some ⟨g,0,none⟩) n lc)
 |5=>some (.int .i64 (y:Int))
 |6=>some (.pointer (some ⟨g,0+y*256,none⟩))
 |8=>some (.slice (some ⟨g,0,none⟩) n lc)
 |9=>some (.int .i64 (x:Int))
 |10=>some (.pointer (some ⟨g,0+x*256,none⟩))
 |12=>some (.pointer (some ⟨g,0+x*256,none⟩))
 |14=>some (.pointer (some ⟨g,0+y*256,none⟩))
 |_=>none
def UB(i:Nat):Bool:=i==7||i==11
set_option maxRecDepth 100000 in
set_option maxHeartbeats 8000000 in
theorem checkBlocks_walk(G S I J:Int)(d:dL)(P:PlanD)(hB:P.Bd)(ca:Option Addr)(cn cc:Nat)(cb:Nat->Int)(cd:Nat->Nat->Int)(hcb:∀i,-9223372036854775808<=cb i/\cb i<=9223372036854775807)(nV:∀i,bu (cd i))(hcn:(cn:Int)<=9223372036854775807)
  (ra:Option Addr) (rn rc:Nat) (rb rf:Nat->Int) (rm:Nat->Bool) (DH:∀i,-9223372036854775808<=rb i/\rb i<=9223372036854775807) (hrf:∀i,0<=rf i/\rf i<256) (NB:(rn:Int)<=9223372036854775807)
  (sa:Option Addr) (sn sc:Nat) (m:Nat->Int) (hm:∀i,-9223372036854775808<=m i/\m i<=9223372036854775807) (Vv:(sn:Int)<=9223372036854775807)
  (w:World) (hT:Tab w) (hP:iX w.heap.size d P w) (hc:fN w.heap.size w ca 257 cn (L7 cb cd)) (hr:fN w.heap.size w ra 3 rn (Ic rb rf rm)) (hs:fN w.heap.size w sa 1 sn (Tw m)):
  Calls Tryz.prog 4 #[tZ G S I J d P,.slice ca cn cc,.slice ra rn rc,.slice sa sn sc] w λe w'=>e= .returned (.bool true)/\Below w.heap.size w w':=by
 have hb0:Below w.heap.size w (w.alloc (.cells (dK G S I J d P) 27)):=ag.alloc af _;have N5:=At.plan (w:=w) G S I J d P;obtain⟨w1,hw1⟩:=aa (w.alloc (.cells (dK G S I J d P) 27));have jS:Hd (Below w.heap.size w w1):=by rw[hw1];exact hb0
 have xu:=ah hB;have Mm:=ah hP;have HT:=ah hT;have HTA:Hd (∀W,Below w.heap.size w W->Tab W):=λW h=>HT.Z.below h af
 have HC:Hd (∀W,Below w.heap.size w W->fN w.heap.size W ca 257 cn (L7 cb cd)):=λW h=>hc.below h
 have HR:Hd (∀W,Below w.heap.size w W->fN w.heap.size W ra 3 rn (Ic rb rf rm)):=λW h=>hr.below h
 have HS:Hd (∀W,Below w.heap.size w W->fN w.heap.size W sa 1 sn (Tw m)):=λW h=>hs.below h
 have IH:=ah hcb;have P3:=ah nV;have K4:=ah DH;have K2:=ah hrf;have HM:=ah hm;have HW1:=ah hw1;clear hb0 hB hP hT hw1 hc hr hs hcb nV DH hrf hm;have zI:=N5;go_enter Tryz.func4,Tryz.ntmps4;go_wp2_with (first|(refine aB rfl 27 (.tmp 4) rfl _ _ _ rfl zI Tryz.underlying27 rfl (lP _ _ _ _ _ _) ?_))
 rw[<-HW1.Z] at N5 ⊢;have X1:=ah N5;have Q2:iX w1.heap.size d P w1:=(Mm.Z.below jS.Z).wide jS.Z.size;refine(yQ G S I J d P xu.Z w1 Q2).mono ?_;rintro e w2 ⟨⟨bg,rfl,hsm⟩,hb2⟩;have Mk:=ah (X1.Z.below hb2 X1.Z.lt);have jQ:Hd (Below w.heap.size w w2):=jS.Z.trans (hb2.mono jS.Z.size);have xr:=ah hsm;clear X1 jS hb2 zI hsm Q2 N5 HW1;cases bg with
 |true=>
  go_wp2_with fail;go_ret;exact⟨rfl,jQ.Z⟩
 |false=>
  have SH:=ah (xr.Z rfl);clear xr
  by_cases q1:200<(cn:Int)
  ·go_wp2_with fail
   go_ret;exact⟨rfl,jQ.Z⟩
  by_cases q2:200<(rn:Int)
  ·go_wp2_with fail
   go_ret;exact⟨rfl,jQ.Z⟩
  by_cases q3:200<(sn:Int)
  ·go_wp2_with fail
   go_ret;exact⟨rfl,jQ.Z⟩
  have zI:=Mk.Z;go_wp2_with (first|(refine aB rfl 27 (.tmp 4) rfl _ _ _ rfl zI Tryz.underlying27 rfl (lP _ _ _ _ _ _) ?_))
  refine((yE G S I J d P xu.Z SH.Z w2 ((Mm.Z.below jQ.Z).wide jQ.Z.size)).mono λe w' h=>QH h).mono ?_;rintro e w3 ⟨hb3,a,n,c,L,rfl,Zg,hy,gi,hnone⟩;have EH:Hd (Below w.heap.size w w3):=jQ.Z.trans (hb3.mono jQ.Z.size);have Un:=ah (iM Zg);have HY:=ah hy;have cY:=ah hnone;clear hy Mk jQ hb3 zI SH Zg hnone Mm xu;go_wp2_with fail;refine(FH a n c L HY.Z (by omega) cY.Z ca cn cc cb cd (by omega) IH.Z P3.Z w3 Un.Z.row ?_).mono ?_
  ·have h1:=HC.Z _ EH.Z
   exact⟨h1.1,λb off e h0=>Nat.lt_of_lt_of_le (h1.2 b off e h0) EH.Z.size⟩
  rintro e w4 ⟨la,lc,rfl,Of⟩;have ey:Hd (kA w la n lc w4):=Of.wide EH.Z;clear Of EH Un HY cY HC IH P3 q1;go_wp2_with fail;go_loopw [10] (λi wr=>∃k:Nat,i= .int .i64 (k:Int)/\k<=rn/\kA w la n lc wr) (λi _=>rn-(intOf i).toNat)
  case atStart=>exact⟨0,rfl,Nat.zero_le _,ey.Z⟩
  clear ey;obtain⟨k,rfl,hk,st⟩:=hrel
  by_cases hlt:k<rn
  ·have hlt':(k:Int)<(rn:Int):=by omega
   have k0:(0:Int)<=(k:Int):=by omega
   obtain⟨b,off,rfl⟩:=oM (HR.Z _ st.bel) (by omega);have YZ:=K4.Z k;obtain⟨X,hX⟩:=aa (rb k);have qA:Hd (∀W,kA w la n lc W->W.cell? ⟨b,off+k*3,none⟩=some (.int .i64 X)/\W.rangeAt b (off+k*3) (Ic rb rf rm k)):=λW h=>by rw[hX];exact MR (HR.Z _ h.bel) hlt
   have PU:Hd ((Ic rb rf rm k).toArray=xQ X (rf k) (rm k)):=by rw[hX];rfl
   rw[<-hX] at YZ;have hat:=(qA.Z _ st).1;have ST:=ah st;have Eg:=ah hlt;clear st hX
   by_cases c0:X<0
   ·go_wp2_with fail
    go_roundw
    case rel=>(try((repeat apply Exists.intro);refine⟨?_,rfl⟩));exact⟨k+1,by first|rfl|go_num,by omega,ST.Z⟩
    simp[intOf];omega
   by_cases c1:(n:Int)<=X
   ·have c2:(0:Int)<=X:=by omega
    go_wp2_with fail;go_roundw
    case rel=>(try((repeat apply Exists.intro);refine⟨?_,rfl⟩));exact⟨k+1,by first|rfl|go_num,by omega,ST.Z⟩
    simp[intOf];omega
   obtain⟨kb,rfl⟩:∃kb:Nat,X=(kb:Int):=⟨X.toNat,by omega⟩;have hkb:kb<n:=by omega
   have hkb':(kb:Int)<(n:Int):=by omega
   have YR:(0:Int)<=(kb:Int):=by omega
   obtain⟨g,BV,hgl⟩:=ST.Z.vk (by omega);subst BV;have SW:=ah hkb;clear c0 c1 YZ;go_wp2_with fail;apply Vl.cZ (λi v W=>Iy (kR8 g lc n b off rc rn k kb (kb:Int) (rf k) (rm k) (xW (rf k) (rm k))) (λ_=>false) i v) (λ_ W=>kA w (some ⟨g,0,none⟩) n lc W)
   case hm=>kernel_rfl
   case hd=>kernel_rfl
   case hS=>exactλl l' W he h=>h
   case h0=>exact ST.Z.drew
   case hB=>kernel_rfl
   case hst=>
     intro hB;refine⟨?_,?_,?_,?_,?_,?_,?_,?_,?_,?_,?_,?_,?_,trivial⟩
     ·exactλl a1 W hl hu h=>Vl.aJ h hB rfl rfl rfl hl _ (Vl.br (.tmp 9) rfl (h.old 9 (by kernel_rfl))) (.c rfl rfl) (λs=>s)
     ·exactλl a1 W hl hu h=>Vl.aJ h hB rfl rfl rfl hl _ (Vl.br (.tmp 2) rfl (h.old 2 (by kernel_rfl))) (.c rfl rfl) (λs=>s)
     ·exactλl a1 W hl hu h=>Vl.aJ h hB rfl rfl rfl hl _ (Vl.br (.tmp 10) rfl (h.old 10 (by kernel_rfl))) (.c rfl rfl) (λs=>s)
     ·exactλl a1 W hl hu h=>Vl.aJ h hB rfl rfl rfl hl _ (Vl.gK 36 40 (.tmp 58) (.tmp 59) rfl Tryz.underlying36 3 (by kernel_rfl) b off rn rc k ((h.vals 1 58 (aq hu 1) rfl).k _ rfl) ((h.vals 2 59 (aq hu 2) rfl).k _ rfl) Eg.Z) (.c rfl rfl) (λs=>s)
     ·exactλl a1 W hl hu h=>Vl.aJ h hB rfl rfl rfl hl _ (Vl.gB 40 (.tmp 60) 0 rfl ((h.vals 3 60 (aq hu 3) rfl).k _ rfl) (by kernel_rfl)) (.c rfl rfl) (λs=>s)
     ·exactλl a1 W hl hu h=>Vl.aJ h hB rfl rfl rfl hl _ (Vl.tY 3 (.tmp 61) rfl b (off+k*3) ((h.vals 4 61 (aq hu 4) rfl).k _ rfl) (qA.Z _ h.st).1 (by kernel_rfl)) (.c rfl rfl) (λs=>s)
     ·exactλl a1 W hl hu h=>Vl.aJ h hB rfl rfl rfl hl _ (Vl.br (.tmp 2) rfl (h.old 2 (by kernel_rfl))) (.c rfl rfl) (λs=>s)
     ·exactλl a1 W hl hu h=>Vl.aJ h hB rfl rfl rfl hl _ (Vl.br (.tmp 10) rfl (h.old 10 (by kernel_rfl))) (.c rfl rfl) (λs=>s)
     ·exactλl a1 W hl hu h=>Vl.aJ h hB rfl rfl rfl hl _ (Vl.gK 36 40 (.tmp 63) (.tmp 64) rfl Tryz.underlying36 3 (by kernel_rfl) b off rn rc k ((h.vals 6 63 (aq hu 6) rfl).k _ rfl) ((h.vals 7 64 (aq hu 7) rfl).k _ rfl) Eg.Z) (.c rfl rfl) (λs=>s)
     ·exactλl a1 W hl hu h=>Vl.aJ h hB rfl rfl rfl hl _ (Vl.jc 40 (.tmp 65) rfl b (off+k*3) (Ic rb rf rm k) _ ((h.vals 8 65 (aq hu 8) rfl).k _ rfl) (qA.Z _ h.st).2 Tryz.underlying40 rfl (by kernel_rfl)) (.c (show some (Value.agg (xQ (kb:Int) (rf k) (rm k)))=some (Value.agg (Ic rb rf rm k).toArray) by rw[PU.Z]) rfl) (λs=>s)
     ·intro l a1 W hl hu h
      refine Vl.step h hB rfl rfl rfl hl (Vl.il 12 _ (Vl.x9 12 (.tmp 66) _ _ rfl ((h.vals 9 66 (aq hu 9) rfl).k _ rfl) (by kernel_rfl)) ?_);refine(wS (kb:Int) (rf k) (K2.Z k) (rm k) W).mono ?_;rintro e W' ⟨rfl,hb⟩;exact⟨_,rfl,_,rfl,λ_ _ _ h=>h,.c rfl rfl,h.st.below hb⟩
     ·exactλl a1 W hl hu h=>Vl.aJ h hB rfl rfl rfl hl _ (Vl.gK 29 32 (.tmp 57) (.tmp 62) rfl Tryz.underlying29 256 (by kernel_rfl) g 0 n lc kb ((h.vals 0 57 (aq hu 0) rfl).k _ rfl) ((h.vals 5 62 (aq hu 5) rfl).k _ rfl) SW.Z) (.c rfl rfl) (λs=>s)
     intro l a1 W hl hu h;refine Vl.step h hB rfl rfl rfl hl (Vl.ef 32 (.tmp 68) (.tmp 67) rfl g (0+kb*256) (Ks .u8 256 _).toArray ((h.vals 11 68 (aq hu 11) rfl).k _ rfl) ((h.vals 10 67 (aq hu 10) rfl).k _ rfl) (by rw[bE];exact h.st.there SW.Z) (aW _) (fF _ _ _) ?_);exact⟨_,rfl,λ_ _ _ h=>h,.n rfl rfl,h.st.put _ (Fk (K2.Z k) (rm k))⟩
   intro a' w2 h;obtain⟨v,-,hall⟩:=wW h [57,58,59,60,61,62,63,64,65,66,67,68] (by kernel_rfl);have bW:=ah h.st;simp only[List.foldl_cons,List.foldl_nil,Act.put,List.setIfInBounds_toArray,List.set_cons_succ,List.set_cons_zero] at hall;subst hall;clear h ST;clear hat hkb hkb' YR qA PU;go_wp2_with fail;go_roundw
   case rel=>(try((repeat apply Exists.intro);refine⟨?_,rfl⟩));exact⟨k+1,by first|rfl|go_num,by omega,bW.Z⟩
   simp[intOf];omega
  obtain rfl:k=rn:=by omega
  have ey:=ah st;clear st hk hlt q2 HR K4 K2;go_wp2_with fail;go_loopw [11,12,13] (λi _ _ wr=>∃k:Nat,i= .int .i64 (k:Int)/\k<=sn/\kA w la n lc wr) (λi _ _ _=>sn-(intOf i).toNat)
  case atStart=>exact⟨0,rfl,Nat.zero_le _,ey.Z⟩
  clear ey;obtain⟨k,rfl,hk,st⟩:=hrel;have k0:(0:Int)<=(k:Int):=by omega
  have ST:=ah st
  by_cases hlt:k+1<sn
  ·have hlt':(k:Int)+1<(sn:Int):=by omega
   obtain⟨b,off,rfl⟩:=oM (HS.Z _ st.bel) (by omega);obtain⟨X,hX⟩:=aa (m k);obtain⟨Y,hY⟩:=aa (m (k+1));have qA:Hd (∀W,kA w la n lc W->W.cell? ⟨b,off+k*1,none⟩=some (.int .i64 X)/\W.cell? ⟨b,off+(k+1)*1,none⟩=some (.int .i64 Y)):=λW h=>by rw[hX,hY];exact⟨Gc (HS.Z _ h.bel) (by omega),Gc (HS.Z _ h.bel) hlt⟩
   have Eg:=ah hlt;have Yg:Hd (k<sn):=Nat.lt_of_succ_lt hlt;have Tl:Hd (∀W,((do eqGuard .add 3 (.tmp 81) (.const (.int .i64 1)) (.int .i64 (k:Int)) (.int .i64 1);binOp .add 3 (.int .i64 (k:Int)) (.int .i64 1)):Sem Value).run Tryz.prog W= .ok (.int .i64 ((k+1:Nat):Int)) W):=λW=>by
    have hw:IntKind.i64.wrap ((k:Int)+1)=((k+1:Nat):Int):=by rw[Int.natCast_add];exact IntWalk.i64_in _ (by omega)
    rw[<-hw];simp[go_sem]
   clear st hX hY;go_wp2_with fail;apply Vl.cZ (λi v W=>Iy (Vd b off sc sn k X Y) (λ_=>false) i v) (λ_ W=>kA w la n lc W)
   case hm=>kernel_rfl
   case hd=>kernel_rfl
   case hS=>exactλl l' W he h=>h
   case h0=>exact ST.Z.drew
   case hB=>kernel_rfl
   case hst=>
     intro hB;refine⟨?_,?_,?_,?_,?_,?_,?_,?_,?_,?_,?_,trivial⟩
     ·exactλl a1 W hl hu h=>Vl.aJ h hB rfl rfl rfl hl _ (Vl.br (.tmp 3) rfl (h.old 3 (by kernel_rfl))) (.c rfl rfl) (λs=>s)
     ·exactλl a1 W hl hu h=>Vl.aJ h hB rfl rfl rfl hl _ (Vl.br (.tmp 11) rfl (h.old 11 (by kernel_rfl))) (.c rfl rfl) (λs=>s)
     ·exactλl a1 W hl hu h=>Vl.aJ h hB rfl rfl rfl hl _ (Vl.gK 37 3 (.tmp 76) (.tmp 77) rfl Tryz.underlying37 1 (by kernel_rfl) b off sn sc k ((h.vals 0 76 (aq hu 0) rfl).k _ rfl) ((h.vals 1 77 (aq hu 1) rfl).k _ rfl) Yg.Z) (.c rfl rfl) (λs=>s)
     ·exactλl a1 W hl hu h=>Vl.aJ h hB rfl rfl rfl hl _ (Vl.tY 3 (.tmp 78) rfl b (off+k*1) ((h.vals 2 78 (aq hu 2) rfl).k _ rfl) (qA.Z _ h.st).1 (by kernel_rfl)) (.c rfl rfl) (λs=>s)
     ·exactλl a1 W hl hu h=>Vl.aJ h hB rfl rfl rfl hl _ (Vl.br (.tmp 3) rfl (h.old 3 (by kernel_rfl))) (.c rfl rfl) (λs=>s)
     ·exactλl a1 W hl hu h=>Vl.aJ h hB rfl rfl rfl hl _ (Vl.br (.tmp 11) rfl (h.old 11 (by kernel_rfl))) (.c rfl rfl) (λs=>s)
     ·intro l a1 W hl hu h
      have e1:a1.eval (.tmp 81)= .int .i64 (k:Int):=((h.vals 5 81 (aq hu 5) rfl).k _ rfl);refine Vl.aJ h hB rfl rfl rfl hl _ (Vl.Fv .add 3 3 (.tmp 81) (.const (.int .i64 1)) rfl ?_) (.c rfl rfl) (λs=>s);rw[e1];exact Tl.Z W
     ·exactλl a1 W hl hu h=>Vl.aJ h hB rfl rfl rfl hl _ (Vl.gK 37 3 (.tmp 80) (.tmp 82) rfl Tryz.underlying37 1 (by kernel_rfl) b off sn sc (k+1) ((h.vals 4 80 (aq hu 4) rfl).k _ rfl) ((h.vals 6 82 (aq hu 6) rfl).k _ rfl) Eg.Z) (.c rfl rfl) (λs=>s)
     ·exactλl a1 W hl hu h=>Vl.aJ h hB rfl rfl rfl hl _ (Vl.tY 3 (.tmp 83) rfl b (off+(k+1)*1) ((h.vals 7 83 (aq hu 7) rfl).k _ rfl) (qA.Z _ h.st).2 (by kernel_rfl)) (.c rfl rfl) (λs=>s)
     ·exactλl a1 W hl hu h=>Vl.aJ h hB rfl rfl rfl hl _ (Vl.kV (.tmp 79) rfl ((h.vals 3 79 (aq hu 3) rfl).k _ rfl)) (.c rfl rfl) (λs=>s)
     exactλl a1 W hl hu h=>Vl.aJ h hB rfl rfl rfl hl _ (Vl.kV (.tmp 84) rfl ((h.vals 8 84 (aq hu 8) rfl).k _ rfl)) (.c rfl rfl) (λs=>s)
   intro a' w2 h;obtain⟨v,hv,hall⟩:=wW h [12,13,76,77,78,79,80,81,82,83,84] (by kernel_rfl);have e12:=(hv 12).trans ((h.vals 9 12 rfl rfl).k _ rfl);have TX:=(hv 13).trans ((h.vals 10 13 rfl rfl).k _ rfl);have bW:=ah h.st;simp only[List.foldl_cons,List.foldl_nil,Act.put,List.setIfInBounds_toArray,List.set_cons_succ,List.set_cons_zero,e12,TX] at hall;subst hall;clear h ST hv e12 TX;clear qA Tl;have ST:=bW;clear bW
   by_cases c0:X<0
   ·go_wp2_with fail
    go_roundw
    case rel=>(try((repeat apply Exists.intro);refine⟨?_,rfl⟩));exact⟨k+2,by first|rfl|go_num,by omega,ST.Z⟩
    simp[intOf];omega
   by_cases d0:Y<0
   ·have c2:(0:Int)<=X:=by omega
    go_wp2_with fail;go_roundw
    case rel=>(try((repeat apply Exists.intro);refine⟨?_,rfl⟩));exact⟨k+2,by first|rfl|go_num,by omega,ST.Z⟩
    simp[intOf];omega
   have c2:(0:Int)<=X:=by omega
   have d2:(0:Int)<=Y:=by omega
   by_cases c1:(n:Int)<=X
   ·go_wp2_with fail
    go_roundw
    case rel=>(try((repeat apply Exists.intro);refine⟨?_,rfl⟩));exact⟨k+2,by first|rfl|go_num,by omega,ST.Z⟩
    simp[intOf];omega
   by_cases d1:(n:Int)<=Y
   ·have c3:X<(n:Int):=by omega
    go_wp2_with fail;go_roundw
    case rel=>(try((repeat apply Exists.intro);refine⟨?_,rfl⟩));exact⟨k+2,by first|rfl|go_num,by omega,ST.Z⟩
    simp[intOf];omega
   obtain⟨x,rfl⟩:∃x:Nat,X=(x:Int):=⟨X.toNat,by omega⟩;obtain⟨y,rfl⟩:∃y:Nat,Y=(y:Int):=⟨Y.toNat,by omega⟩;have hxn:x<n:=by omega
   have Vg:y<n:=by omega
   have acL:(x:Int)<(n:Int):=by omega
   have Vf:(y:Int)<(n:Int):=by omega
   obtain⟨g,BV,hgl⟩:=ST.Z.vk (by omega);subst BV;have K1:=ah hxn;have PQ:=ah Vg;clear c0 d0 c1 d1;go_wp2_with fail;apply Vl.cZ (λi v W=>Iy (Vc g lc n x y) UB i v) (λ_ W=>kA w (some ⟨g,0,none⟩) n lc W)
   case hm=>kernel_rfl
   case hd=>kernel_rfl
   case hS=>exactλl l' W he h=>h
   case h0=>exact ST.Z.drew
   case hB=>kernel_rfl
   case hst=>
     intro hB;refine⟨?_,?_,?_,?_,?_,?_,?_,?_,?_,?_,?_,?_,?_,?_,?_,?_,trivial⟩
     ·exactλl a1 W hl hu h=>Vl.aJ h hB rfl rfl rfl hl _ (Vl.br (.tmp 9) rfl (h.old 9 (by kernel_rfl))) (.c rfl rfl) (λs=>s)
     ·exactλl a1 W hl hu h=>Vl.aJ h hB rfl rfl rfl hl _ (Vl.br (.tmp 12) rfl (h.old 12 (by kernel_rfl))) (.c rfl rfl) (λs=>s)
     ·exactλl a1 W hl hu h=>Vl.aJ h hB rfl rfl rfl hl _ (Vl.br (.tmp 9) rfl (h.old 9 (by kernel_rfl))) (.c rfl rfl) (λs=>s)
     ·exactλl a1 W hl hu h=>Vl.aJ h hB rfl rfl rfl hl _ (Vl.br (.tmp 13) rfl (h.old 13 (by kernel_rfl))) (.c rfl rfl) (λs=>s)
     ·exactλl a1 W hl hu h=>Vl.aJ h hB rfl rfl rfl hl _ (Vl.br (.tmp 9) rfl (h.old 9 (by kernel_rfl))) (.c rfl rfl) (λs=>s)
     ·exactλl a1 W hl hu h=>Vl.aJ h hB rfl rfl rfl hl _ (Vl.br (.tmp 13) rfl (h.old 13 (by kernel_rfl))) (.c rfl rfl) (λs=>s)
     ·exactλl a1 W hl hu h=>Vl.aJ h hB rfl rfl rfl hl _ (Vl.gK 29 32 (.tmp 107) (.tmp 108) rfl Tryz.underlying29 256 (by kernel_rfl) g 0 n lc y ((h.vals 4 107 (aq hu 4) rfl).k _ rfl) ((h.vals 5 108 (aq hu 5) rfl).k _ rfl) PQ.Z) (.c rfl rfl) (λs=>s)
     ·intro l a1 W hl hu h
      obtain⟨z,hz,hr⟩:=h.st.range PQ.Z;exact Vl.aJ h hB rfl rfl rfl hl _ (Vl.jc 32 (.tmp 109) rfl g (0+y*256) (Ks .u8 256 z) _ ((h.vals 6 109 (aq hu 6) rfl).k _ rfl) hr Tryz.underlying32 rfl (by rw[bD];exact aA)) (.b rfl hz) (λs=>s)
     ·exactλl a1 W hl hu h=>Vl.aJ h hB rfl rfl rfl hl _ (Vl.br (.tmp 9) rfl (h.old 9 (by kernel_rfl))) (.c rfl rfl) (λs=>s)
     ·exactλl a1 W hl hu h=>Vl.aJ h hB rfl rfl rfl hl _ (Vl.br (.tmp 12) rfl (h.old 12 (by kernel_rfl))) (.c rfl rfl) (λs=>s)
     ·exactλl a1 W hl hu h=>Vl.aJ h hB rfl rfl rfl hl _ (Vl.gK 29 32 (.tmp 111) (.tmp 112) rfl Tryz.underlying29 256 (by kernel_rfl) g 0 n lc x ((h.vals 8 111 (aq hu 8) rfl).k _ rfl) ((h.vals 9 112 (aq hu 9) rfl).k _ rfl) K1.Z) (.c rfl rfl) (λs=>s)
     ·intro l a1 W hl hu h
      obtain⟨z,hz,hr⟩:=h.st.range K1.Z;exact Vl.aJ h hB rfl rfl rfl hl _ (Vl.jc 32 (.tmp 113) rfl g (0+x*256) (Ks .u8 256 z) _ ((h.vals 10 113 (aq hu 10) rfl).k _ rfl) hr Tryz.underlying32 rfl (by rw[bD];exact aA)) (.b rfl hz) (λs=>s)
     ·exactλl a1 W hl hu h=>Vl.aJ h hB rfl rfl rfl hl _ (Vl.gK 29 32 (.tmp 103) (.tmp 104) rfl Tryz.underlying29 256 (by kernel_rfl) g 0 n lc x ((h.vals 0 103 (aq hu 0) rfl).k _ rfl) ((h.vals 1 104 (aq hu 1) rfl).k _ rfl) K1.Z) (.c rfl rfl) (λs=>s)
     ·intro l a1 W hl hu h
      obtain⟨z,ez,hz⟩:=(h.vals 7 110 (aq hu 7) rfl).z rfl;refine Vl.step h hB rfl rfl rfl hl (Vl.ef 32 (.tmp 115) (.tmp 110) rfl g (0+x*256) (Ks .u8 256 z).toArray ((h.vals 12 115 (aq hu 12) rfl).k _ rfl) ez (by rw[bE];exact h.st.there K1.Z) (aW _) (fF _ _ _) ?_);exact⟨_,rfl,λ_ _ _ h=>h,.n rfl rfl,h.st.put _ hz⟩
     ·exactλl a1 W hl hu h=>Vl.aJ h hB rfl rfl rfl hl _ (Vl.gK 29 32 (.tmp 105) (.tmp 106) rfl Tryz.underlying29 256 (by kernel_rfl) g 0 n lc y ((h.vals 2 105 (aq hu 2) rfl).k _ rfl) ((h.vals 3 106 (aq hu 3) rfl).k _ rfl) PQ.Z) (.c rfl rfl) (λs=>s)
     intro l a1 W hl hu h;obtain⟨z,ez,hz⟩:=(h.vals 11 114 (aq hu 11) rfl).z rfl;refine Vl.step h hB rfl rfl rfl hl (Vl.ef 32 (.tmp 116) (.tmp 114) rfl g (0+y*256) (Ks .u8 256 z).toArray ((h.vals 14 116 (aq hu 14) rfl).k _ rfl) ez (by rw[bE];exact h.st.there PQ.Z) (aW _) (fF _ _ _) ?_);exact⟨_,rfl,λ_ _ _ h=>h,.n rfl rfl,h.st.put _ hz⟩
   intro a' w2 h;obtain⟨v,-,hall⟩:=wW h [103,104,105,106,107,108,109,110,111,112,113,114,115,116] (by kernel_rfl);have bW:=ah h.st;simp only[List.foldl_cons,List.foldl_nil,Act.put,List.setIfInBounds_toArray,List.set_cons_succ,List.set_cons_zero] at hall;subst hall;clear h ST;go_wp2_with fail;go_roundw
   case rel=>(try((repeat apply Exists.intro);refine⟨?_,rfl⟩));exact⟨k+2,by first|rfl|go_num,by omega,bW.Z⟩
   simp[intOf];omega
  have hge:(sn:Int)<=(k:Int)+1:=by omega
  obtain⟨L1,fW,hy1⟩:=ST.Z.Z;have kB:=ah fW;have tG:=ah hy1;clear st fW hy1;go_wp2_with fail;refine(Ea la n lc L1 tG.Z (by omega) ST.Z.nil wr (HTA.Z _ ST.Z.bel) (iM kB.Z)).mono ?_;rintro e w6 ⟨rfl,m4⟩;have Mt:Hd (Below w.heap.size w w6):=ST.Z.bel.trans (m4.mono ST.Z.bel.size);clear m4 kB tG ST;go_wp2_with fail;go_ret;exact⟨rfl,Mt.Z⟩
end Go.Proofs.YtphamecphmbipaaGreatDoor
