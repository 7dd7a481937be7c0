/- Texts of this claim, merged. -/
import Derived.Test.YtphamecphmbipaaGreatDoorZ36
import Derived.Defers
import Derived.Recover
set_option linter.unusedVariables false
set_option maxRecDepth 100000
set_option maxHeartbeats 16000000

namespace Go.Proofs.YtphamecphmbipaaGreatDoor
open Go.RowKit
variable {w W':World} {p off G B k R:Nat} {L:Nat->Nat->Int} {sc tmps:Array Value} {g s i j:Int} {z:Nat->Int} {v im:Value} {o:Nat->Nat} {y:Bool} {x:Im} {Q:Ending->World->Prop} {m:Nat->Bool}
abbrev X0(im:Value):Array Value:=qE im 0 0 0 0 0 (.slice none 0 0) (.slice none 0 0) (.slice none 0 0) (.slice none 0 0) (.slice none 0 0) (.slice none 0 0)
def zr(w:World)(p b off n cap:Nat)(L:Nat->Nat->Int)(e:Ending)(w':World):Prop:=
 w.grownBy w' (some p)/\(((Im.of L n).sS=false/\e= .panicked (sB 1))\/((Im.of L n).sS=true/\(Im.of L n).Cb=false/\e= .panicked (sB 2))\/
  ((Im.of L n).sS=true/\(Im.of L n).Cb=true/\e= .returned (.tuple #[])/\∃db dc,w.heap.size<=db/\db<w'.heap.size/\
   At w' p 105 (XC b off cap (Im.of L n) (.slice (some ⟨db,0,none⟩) (Im.of L n).g dc) (.slice none 0 0) (.slice none 0 0) (.slice none 0 0) (.slice none 0 0) (.slice none 0 0))/\
   aM w' db 0 3 (Im.of L n).g (df (rB (L 1)) (rI (L 1)) (rD (L 1)))))
structure zt(w:World)(p b off n:Nat)(L:Nat->Nat->Int)(cs:Array Value)(G:Nat)(sc:Array Value)(W:World):Prop where
 a:At W p 105 cs
 i:aM W b off 256 n (dR L)
 s:At W G 47 sc
 bl:b<W.heap.size
 gr:w.grownBy W (some p)
 lo:w.heap.size<=G
 t:Tab W
 pt:p≠0
theorem zt.below{b n:Nat}{cs:Array Value}{W:World}(h:zt w p b off n L cs G sc W)(hb:Below W.heap.size W W'):zt w p b off n L cs G sc W':=
 ⟨h.a.below hb h.a.lt,aM.below h.i hb h.bl,h.s.below hb h.s.lt,Nat.lt_of_lt_of_le h.bl hb.size,dC h.gr (bB hb),h.lo,h.t.below hb af,h.pt⟩
def Sb(im:Value)(g s i j o:Int)(a c:Bool):Array Value:=
 let z:=Value.slice none 0 0
 if c then #[im,.int .i64 g,.int .i64 s,.int .i64 i,.int .i64 j,.int .u32 o,.int .i64 g,.int .i64 s,.int .i64 i,.int .i64 j,z,z,z,z,z,z]
 else if a then #[im,.int .i64 g,.int .i64 s,.int .i64 i,.int .i64 j,.int .u32 o,.int .i64 0,.int .i64 0,.int .i64 0,.int .i64 0,z,z,z,z,z,z]
 else X0 im
theorem zt.put{b n:Nat}{cs cs':Array Value}{W:World}(h:zt w p b off n L cs G sc W)(mZ:b≠p)(hpw:p<w.heap.size)(k:Nat)(vs:List Value)(he:nB cs k vs=cs'):zt w p b off n L cs' G sc (W.setCells p k vs):=by
 have ho:az p W (W.setCells p k vs):=ev p vs k W;have:=h.lo;exact⟨he▸h.a.MN vs k,aM.only h.i ho mZ,h.s.only ho (by omega),by rw[ho.size];exact h.bl,dC h.gr (fD ho),h.lo,h.t.only ho h.pt,h.pt⟩
def V3(p:Nat)(i:Nat)(v:Value):Prop:=if i=8 then v= .pointer (some ⟨p,0,none⟩) else if i=9 then v= .pointer (some ⟨p,6,none⟩) else True
def tF(g s i j:Int)(z:Nat->Int)(B:Nat)(v:Value)(W:World):Prop:=
 (iH g s i j z=true/\au W B 67 3 v g.toNat (df (rB z) (rI z) (rD z)))\/(iH g s i j z=false/\v= .slice none 0 0)
theorem tF.below{W:World}(h:tF g s i j z B v W)(hb:Below W.heap.size W W'):tF g s i j z B v W':=by
 rcases h with⟨h1,h2⟩|h
 ·exact .inl ⟨h1,au.below h2 hb⟩
 exact .inr h
theorem tF.form{W:World}(h:tF g s i j z B v W):v.oneCell'=true:=by
 rcases h with⟨_,h2⟩|⟨_,rfl⟩
 ·obtain⟨a,c,rfl⟩:=au.form h2;rfl
 rfl
def jY(g s i j:Int)(z:Nat->Int):Int:=if iH g s i j z then 0 else if aT g s i j then 60 else 50
theorem Fu{e:Int}{W:World}(h:mW w g s i j z v e W)(hB:B<=w.heap.size):tF g s i j z B v W/\e=jY g s i j z:=by
 rcases h with⟨h1,h2,h3⟩|⟨h1,h2,h3⟩
 ·exact⟨.inl ⟨h1,au.low h3 hB⟩,by rw[h2,jY,if_pos h1]⟩
 exact⟨.inr ⟨h1,h3⟩,by rw[h2];unfold jY;rw[h1];rfl⟩
theorem tX(g s i j:Int)(z:Nat->Int):(jY g s i j z==0)=iH g s i j z:=by
 unfold jY;cases iH g s i j z with
 |true=>rfl
 |false=>rw[if_neg (by decide)];split<;>rfl
def V4(g s i j:Int)(z:Nat->Int)(B p:Nat)(k:Nat)(v:Value)(W:World):Prop:=
 if k=11\/k=12 then∃v',v= .tuple #[v',.int .i64 (jY g s i j z)]/\tF g s i j z B v' W
 else if k=13 then tF g s i j z B v W
 else if k=14 then v= .int .i64 (jY g s i j z)
 else if k=15 then v= .pointer (some ⟨p,0,none⟩)
 else if k=16 then v= .pointer (some ⟨p,10,none⟩) else if k=18 then v= .int .i64 (jY g s i j z) else True
theorem V4.below{W:World}(h:V4 g s i j z B p k v W)(hb:Below W.heap.size W W'):V4 g s i j z B p k v W':=by
 unfold V4 at h ⊢
 by_cases h1:k=11\/k=12
 ·rw[if_pos h1] at h ⊢
  obtain⟨v',e,h⟩:=h;exact⟨v',e,h.below hb⟩
 rw[if_neg h1] at h ⊢
 by_cases h2:k=13
 ·rw[if_pos h2] at h ⊢;exact h.below hb
 rw[if_neg h2] at h ⊢;exact h
theorem V4.map{W:World}(h:V4 g s i j z B p k v W)(hf:∀v,tF g s i j z B v W->tF g s i j z B v W'):V4 g s i j z B p k v W':=by
 unfold V4 at h ⊢
 by_cases h1:k=11\/k=12
 ·rw[if_pos h1] at h ⊢
  obtain⟨v',e,h⟩:=h;exact⟨v',e,hf _ h⟩
 rw[if_neg h1] at h ⊢
 by_cases h2:k=13
 ·rw[if_pos h2] at h ⊢;exact hf _ h
 rw[if_neg h2] at h ⊢;exact h
theorem tF.only{W:World}(h:tF g s i j z B v W)(ho:az p W W')(hp:p<B):tF g s i j z B v W':=by
 rcases h with⟨h1,h2⟩|h
 ·exact .inl ⟨h1,fm h2 ho (λe=>by have:=(World.ownsRow.lt h2 p e).1;omega)⟩
 exact .inr h
theorem zt.lT{b n:Nat}{cs:Array Value}{W:World}(h:zt w p b off n L cs G sc W)(h0:cs[6]? =some (.int .i64 g))(h1:cs[7]? =some (.int .i64 s))(h2:cs[8]? =some (.int .i64 i))(h3:cs[9]? =some (.int .i64 j)):W.rangeAt p 6 (ai g s i j).toList:=λk v hk=>by
 match k,hk with
 |0,hk=>injection hk with hk;subst hk;exact h.a.cell h0
 |1,hk=>injection hk with hk;subst hk;exact h.a.cell h1
 |2,hk=>injection hk with hk;subst hk;exact h.a.cell h2
 |3,hk=>injection hk with hk;subst hk;exact h.a.cell h3
 |k+4,hk=>cases hk
structure S4(w:World)(p b off n:Nat)(L:Nat->Nat->Int)(im:Value)(g s i j o:Int)(G:Nat)(y:Bool)(W:World):Prop where
 no:y=false->zt w p b off n L (Sb im g s i j o true true) G (ax g s i j o) W
 ye:y=true->∃v,tF g s i j (L 1) w.heap.size v W/\zt w p b off n L ((Sb im g s i j o true true).setIfInBounds 10 v) G (ax g s i j o) W
theorem S4.below{b n:Nat}{o:Int}{W:World}(h:S4 w p b off n L im g s i j o G y W)(hb:Below W.heap.size W W'):S4 w p b off n L im g s i j o G y W':=
 ⟨λe=>(h.no e).below hb,λe=>let ⟨v,h1,h2⟩:=h.ye e;⟨v,h1.below hb,h2.below hb⟩⟩
theorem S4.c{b n:Nat}{o:Int}{W:World}(h:S4 w p b off n L im g s i j o G y W):W.cell? ⟨p,0,none⟩=some im/\W.rangeAt p 6 (ai g s i j).toList/\aM W b off 256 n (dR L):=by
 cases y with
 |false=>have h:=h.no rfl;exact⟨h.a.cell (i:=0) rfl,h.lT rfl rfl rfl rfl,h.i⟩
 |true=>
  obtain⟨v,_,h⟩:=h.ye rfl;exact⟨h.a.cell (i:=0) rfl,h.lT rfl rfl rfl rfl,h.i⟩
theorem yC:(Tryz.prog.info? 51).map (·.size)=some 1:=by kernel_rfl
theorem oI(h:bU z=0):aT (hd z 4) (hd z 5) (hd z 6) (hd z 7)=true:=by
 unfold bU at h;split at h
 ·split at h
  ·assumption
  cases h
 cases h
theorem A5(p b off n cap:Nat)(L:Nat->Nat->Int)(hL:∀i,bu (L i))(hn:0<n)(gi:n<=4294967296)(w:World)(hT:Tab w)(r6:b<w.heap.size)(mZ:b≠p)(hA:At w p 105 (X0 (.slice (some ⟨b,off,none⟩) n cap)))(hi:aM w b off 256 n (dR L)):
  Calls Tryz.prog 76 #[.pointer (some ⟨p,0,none⟩)] w λe w'=>zr w p b off n cap L e w':=by
 have c0:w.cell? ⟨p,0,none⟩=some (.slice (some ⟨b,off,none⟩) n cap):=hA.cell (i:=0) rfl;have hn0:decide ((n:Int)>0)=true:=decide_eq_true (by omega);have uq:(0:Int)<(n:Int):=by omega
 have hgt:(0<n)=True:=by simp[hn]
 have hrg:w.rangeAt b off (dR L 0):=by have:=aM.range hi 0 hn;rwa[Nat.zero_mul,Nat.add_zero] at this
 have HA:=ah hA;have HI:=ah hi;have HT:=ah hT;have HL:=ah hL;have PV:Hd (p<w.heap.size):=hA.lt;have Yp:=ah mZ;have hzs:=fv;clear hA hi hT hL;go_enter Tryz.func76,Tryz.ntmps76;go_wp2_with fail;refine(gN 1 _).mono ?_;rintro e w1 ⟨rfl,rfl⟩;go_wp2_with (first|(refine aH rfl 32 (.tmp 16) rfl b off (dR L 0) _ rfl hrg Tryz.underlying32 rfl (by rw[aZ];exact aA) ?_))
 clear hrg c0 hn0 hgt;have P2:Hd ((Im.of L n).sS=(bU (L 0)==0&&((n:Int)==pj (hd (L 0) 4) (hd (L 0) 5) (hd (L 0) 6) (hd (L 0) 7)))):=by
  show(decide (0<n)&&_)=_;rw[decide_eq_true hn,Bool.true_and];rfl
 obtain⟨VG,VS,VI,VJ,VO,hV,RC⟩:∃G S I J O,kr (L 0)=gJ G S I J O/\(bU (L 0)=0->G=hd (L 0) 4/\S=hd (L 0) 5/\I=hd (L 0) 6/\J=hd (L 0) 7/\O=cR (L 0) 16):=by
  unfold kr;split
  ·exact⟨_,_,_,_,_,rfl,λ_=>⟨rfl,rfl,rfl,rfl,rfl⟩⟩
  rename_i h;exact⟨_,_,_,_,_,rfl,λh2=>absurd h2 h⟩
 have r8:=s8 (L 0) (HL.Z 0) w HT.Z;rw[hV] at r8;refine r8.mono ?_;rintro e w2 ⟨rfl,hb2⟩;have Ud:=ah RC;obtain⟨E,hE⟩:=aa (bU (L 0));have HE:=ah hE;rw[<-hE];clear hV RC r8 hE;have hr:=At.new w2 47 (ax 0 0 0 0 0);have Ev:Below w.heap.size w (w2.alloc (.cells (ax 0 0 0 0 0) 47)):=hb2.trans (ag.alloc hb2.size _);have gT:=hb2.size;go_wp2_with (first|(refine aD rfl 47 (.tmp 2) (.tmp 19) rfl w2.heap.size (ax VG VS VI VJ VO) (ax 0 0 0 0 0) rfl rfl hr a7 rfl (eY _ _ _ _ _) ?_))
 intro w3 N7 lS;obtain⟨G,hG⟩:=aa w2.heap.size;rw[<-hG] at N7 lS gT ⊢;have hb3:Below w.heap.size w w3:=Ev.trans ((lS.below af).mono gT);have ST:Hd (zt w p b off n L (X0 (.slice (some ⟨b,off,none⟩) n cap)) G (ax VG VS VI VJ VO) w3):=⟨HA.Z.below hb3 HA.Z.lt,aM.below HI.Z hb3 r6,N7,Nat.lt_of_lt_of_le r6 hb3.size,bB hb3,gT,HT.Z.below hb3 af,λe=>by
  have h1:=HT.Z 0 (by decide);have h2:=HA.Z.cell (i:=0) (v:=.slice (some ⟨b,off,none⟩) n cap) rfl;rw[e] at h2;have h3:=h1.symm.trans h2;injection h3 with h3;cases h3⟩
 have HT3:=ah (HT.Z.below hb3 af);clear hr Ev hb2 N7 lS hb3 hG gT HT HA HI hzs
 by_cases mq:E=0
 rotate_left
 ·have q0:(E==0)=false:=by simp[mq]
  have cY:Hd ((Im.of L n).sS=false):=by show _=_;rw[P2.Z,<-HE.Z,q0];rfl
  clear mq;go_wp2_with fail;refine aG (zt w p b off n L (X0 (.slice (some ⟨b,off,none⟩) n cap)) G (ax VG VS VI VJ VO)) 13 (by kernel_rfl) (by kernel_rfl) (by kernel_rfl) (by kernel_rfl) (by kernel_rfl) (by decide) (ST.Z.below ag.drew) ?_;clear ST;simp only[List.take,List.drop];intro hne
  repeat go_big_quiet_step (fail)
  refine wpQuiet_nil ?_;intro w4 h4;have ey:=ah h4.Z;clear h4 hne;go_wp2_with fail;refine(ir 1 _).mono ?_;rintro e w5 ⟨rfl,rfl⟩;exact⟨rfl,ey.Z.gr,.inl ⟨cY.Z,rfl⟩⟩
 obtain⟨rfl,rfl,rfl,rfl,rfl⟩:=Ud.Z (HE.Z.symm.trans mq);subst mq;have tH:Hd ((Im.of L n).sS=((n:Int)==pj (hd (L 0) 4) (hd (L 0) 5) (hd (L 0) 6) (hd (L 0) 7))):=by show _=_;rw[P2.Z,<-HE.Z];rfl
 obtain⟨g,hg⟩:=aa (hd (L 0) 4);obtain⟨s,hs⟩:=aa (hd (L 0) 5);obtain⟨i,hi⟩:=aa (hd (L 0) 6);obtain⟨j,hj⟩:=aa (hd (L 0) 7);obtain⟨o,ho⟩:=aa (cR (L 0) 16);rw[<-hg,<-hs,<-hi,<-hj] at tH;rw[<-hg,<-hs,<-hi,<-hj,<-ho] at ST;have zw:=ah (And.intro hg (And.intro hs (And.intro hi (And.intro hj ho))));clear hg hs hi hj ho;obtain⟨N,hN⟩:=aa (pj g s i j);have HN:=ah hN;have m8:Hd (∀W,Calls Tryz.prog 126 #[bV g s i j] W λe w'=>e= .returned (.int .i64 N)/\Below W.heap.size W w'):=λW=>by rw[hN];exact tt g s i j W
 rw[<-hN] at tH;clear hN;go_wp2_with fail;refine aG (zt w p b off n L (X0 (.slice (some ⟨b,off,none⟩) n cap)) G (ax g s i j o)) 13 (by kernel_rfl) (by kernel_rfl) (by kernel_rfl) (by kernel_rfl) (by kernel_rfl) (by decide) (ST.Z.below ag.drew) ?_;clear ST;simp only[List.take,List.drop];intro hne;have hc0:∀z:a9 (zt w p b off n L (X0 (.slice (some ⟨b,off,none⟩) n cap)) G (ax g s i j o)),z.W.cell? ⟨p,0,none⟩=some (.slice (some ⟨b,off,none⟩) n cap):=λz=>z.h.a.cell (i:=0) rfl
 repeat go_big_quiet_step (fail)
 refine aO rfl 23 (.tmp 29) rfl G 0 rfl (ai g s i j).toList _ (λW h=>At.lT h.s) Tryz.underlying23 rfl (by kernel_rfl) ?_;refine aj ?_
 go_big_quiet_want
 go_big_quiet_op
 refine⟨_,λs=>aN s (λW hW=>(m8.Z W).mono λe w' h=>⟨h.1,hW.below h.2⟩),?_⟩
 go_big_quiet_on
 repeat go_big_quiet_step (fail)
 refine wpQuiet_nil ?_;intro w4 h4;have ST:=ah h4.Z;clear h4 hne hc0;go_wp2_with fail;refine(bJ 1 ((n:Int)==N) _).mono ?_;rintro e w5 ⟨hS,rfl⟩;rcases hS with⟨hct,rfl⟩|⟨hct,rfl⟩
 rotate_left
 ·exact⟨rfl,ST.Z.gr,.inl ⟨tH.Z.trans hct,rfl⟩⟩
 have tG:=ah (tH.Z.trans hct);have Ub:Hd ((n:Int)=N):=by show _=_;simpa using hct
 clear hct;go_wp2_with fail;have hpw:p<w.heap.size:=PV.Z;apply Vp.bG 7 (λl i v W=>V3 p i v) (λl W=>zt w p b off n L (Sb (.slice (some ⟨b,off,none⟩) n cap) g s i j o (l 7) (l 10)) G (ax g s i j o) W/\(l 10=true->l 7=true)) (λW=>At W G 47 (ax g s i j o))
 case hm=>kernel_rfl
 case hd=>kernel_rfl
 case hpre=>kernel_rfl
 case hB=>kernel_rfl
 case hVl=>exactλl l' he i v W h=>h
 case hS=>exactλl l' W he h=>by rw[<-he 7 (by decide) (by decide),<-he 10 (by decide) (by decide)];exact h
 case hSC=>exactλl W h=>h.1.s
 case hVb=>exactλl i v W W' h hb=>h
 case hSb=>exactλl W W' h hb _=>⟨h.1.below hb,h.2⟩
 case h0=>exact⟨ST.Z.below ⟨rfl,rfl,rfl,Nat.le_refl _,λ_ _=>rfl⟩,λe=>by cases e⟩
 case hwalk=>
  simp only[List.take];intro R hR hne
  repeat go_big_quiet_step (fail)
  refine aO rfl 47 (.tmp 2) rfl G 0 rfl (ax g s i j o).toList _ (λW h=>h.1.range) Tryz.underlying47 rfl (by kernel_rfl) ?_;refine aj ?_
  repeat go_big_quiet_step (fail)
  refine aO rfl 23 (.tmp 38) rfl G 0 rfl (ai g s i j).toList _ (λW h=>At.lT h.1) Tryz.underlying23 rfl (by kernel_rfl) ?_;refine aj ?_
  repeat go_big_quiet_step (fail)
  exact wpQuiet_nil rfl
 case hst=>
  simp only[List.drop];refine⟨?_,?_,?_,?_,trivial⟩
  ·intro l a W hl hu h
   have e1:a.tmps.getD 41 undef= .pointer (some ⟨p,1,none⟩):=(h.vals 6 41 (aq hu 6) rfl).pre (by decide) rfl;have e2:a.tmps.getD 37 undef= .agg (ax g s i j o):=(h.vals 2 37 (aq hu 2) rfl).pre (by decide) rfl;have hs:=h.st.1;have Gq:l 10=false:=by
    cases h10:l 10 with
    |false=>rfl
    |true=>have:=h.st.2 h10;rw[hl] at this;cases this
   rw[hl,Gq] at hs;refine Vm.step h (by kernel_rfl) rfl rfl rfl hl (Vl.ef 47 (.tmp 41) (.tmp 37) rfl p 1 (ax g s i j o) e1 e2 (hs.a.there 1 5 (show(1:Nat)+5<=16 by decide)) a7 (eY _ _ _ _ _) ?_);refine⟨_,rfl,λi d _ hd hv'=>hv'.up λhi hv'=>hv',Vp.W.mk trivial,?_,λ_=>rfl⟩;show zt w p b off n L (Sb _ g s i j o (true||_) (l 10)) G _ _;rw[Gq];exact hs.put Yp.Z PV.Z 1 _ rfl
  ·intro l a W hl hu h
   have e1:a.tmps.getD 36 undef= .pointer (some ⟨p,0,none⟩):=(h.vals 1 36 (aq hu 1) rfl).pre (by decide) rfl;exact Vm.aJ h (by kernel_rfl) rfl rfl rfl hl _ (Vl.mC (.tmp 36) rfl ⟨p,0,none⟩ e1) (λ_ _ hv=>hv.up λ_ hv=>hv) (Vp.W.mk rfl) (λs=>s)
  ·intro l a W hl hu h
   have e1:a.tmps.getD 42 undef= .pointer (some ⟨p,0,none⟩):=(h.vals 8 42 (aq hu 8) rfl).post;exact Vm.aJ h (by kernel_rfl) rfl rfl rfl hl _ (Vl.gB 105 (.tmp 42) 2 rfl e1 (by kernel_rfl)) (λ_ _ hv=>hv.up λ_ hv=>hv) (Vp.W.mk rfl) (λs=>s)
  intro l a W hl hu h;have e1:a.tmps.getD 43 undef= .pointer (some ⟨p,6,none⟩):=(h.vals 9 43 (aq hu 9) rfl).post;have e2:a.tmps.getD 39 undef= .agg (ai g s i j):=(h.vals 4 39 (aq hu 4) rfl).pre (by decide) rfl;have h7:l 7=true:=aq hu 7 (by kernel_rfl);have hs:=h.st.1;rw[h7,hl] at hs;refine Vm.step h (by kernel_rfl) rfl rfl rfl hl (Vl.ef 23 (.tmp 43) (.tmp 39) rfl p 6 (ai g s i j) e1 e2 (hs.a.there 6 4 (show(6:Nat)+4<=16 by decide)) (by kernel_rfl) (by kernel_rfl) ?_);refine⟨_,rfl,λi d _ hd hv'=>hv'.up λhi hv'=>hv',Vp.W.mk trivial,?_,λ_=>h7⟩;exact hs.put Yp.Z PV.Z 6 _ rfl
 intro a' w8 h hall;have bX:=hall [42,43] (by kernel_rfl);clear hall;have e42:a'.tmps.getD 42 undef= .pointer (some ⟨p,0,none⟩):=(h.vals 8 42 rfl rfl).post;have e43:a'.tmps.getD 43 undef= .pointer (some ⟨p,6,none⟩):=(h.vals 9 43 rfl rfl).post;have tD:Hd (zt w p b off n L (Sb (.slice (some ⟨b,off,none⟩) n cap) g s i j o true true) G (ax g s i j o) w8):=h.st.1;rw[List.foldl_cons,List.foldl_cons,List.foldl_nil,e42,e43] at bX;simp only[Act.put,List.setIfInBounds_toArray,List.set_cons_succ,List.set_cons_zero] at bX;subst bX;clear h e42 e43 ST;go_wp2_with fail;have eS:aT g s i j=true:=by
  obtain⟨h1,h2,h3,h4,_⟩:=zw.Z;rw[h1,h2,h3,h4];exact oI HE.Z.symm
 have JT:1<n:=by
  have h1:=Ub.Z;rw[HN.Z,pj,if_pos eS] at h1;unfold aT at eS;simp only[decide_eq_true_eq] at eS;have h2:0<=g*s:=Int.mul_nonneg (by omega) (by omega);omega
 have V0:(1:Int)<(n:Int):=by omega
 have Bk:=ah eS;clear eS;apply Vp.bG 11 (λl k v W=>V4 g s i j (L 1) w.heap.size p k v W) (λl W=>S4 w p b off n L (.slice (some ⟨b,off,none⟩) n cap) g s i j o G (l 17) W) (λW=>W.cell? ⟨p,0,none⟩=some (.slice (some ⟨b,off,none⟩) n cap)/\W.rangeAt p 6 (ai g s i j).toList/\aM W b off 256 n (dR L))
 case hm=>kernel_rfl
 case hd=>kernel_rfl
 case hpre=>kernel_rfl
 case hB=>kernel_rfl
 case hVl=>exactλl l' he i v W h=>h
 case hS=>exactλl l' W he h=>by rw[<-he 17 (by decide) (by decide)];exact h
 case hSC=>exactλl W h=>h.c
 case hVb=>exactλl i v W W' h hb=>h.below hb
 case hSb=>exactλl W W' h hb _=>h.below hb
 case h0=>exact⟨λ_=>tD.Z.below ⟨rfl,rfl,rfl,Nat.le_refl _,λ_ _=>rfl⟩,λe=>by cases e⟩
 case hwalk=>
  simp only[List.take];intro R hR hne;have hc0:∀z:a9 (λW=>(W.cell? ⟨p,0,none⟩=some (.slice (some ⟨b,off,none⟩) n cap)/\W.rangeAt p 6 (ai g s i j).toList/\aM W b off 256 n (dR L))/\R W),z.W.cell? ⟨p,0,none⟩=some (.slice (some ⟨b,off,none⟩) n cap):=λz=>z.h.1.1
  repeat go_big_quiet_step (fail)
  refine aO rfl 23 (.tmp 48) rfl p 6 rfl (ai g s i j).toList _ (λW h=>h.1.2.1) Tryz.underlying23 rfl (by kernel_rfl) ?_;refine aj ?_
  repeat go_big_quiet_step (fail)
  refine aO rfl 32 (.tmp 54) rfl b (off+1*256) rfl (dR L 1) _ (λW h=>aM.range h.1.2.2 1 JT) Tryz.underlying32 rfl (by rw[aZ];exact aA) ?_;refine aj ?_;exact wpQuiet_nil rfl
 case hst=>
  simp only[List.drop];refine⟨?_,?_,?_,?_,?_,?_,?_,?_,trivial⟩
  ·intro l a W hl hu h
   have e1:a.tmps.getD 49 undef=bV g s i j:=(h.vals 4 49 (aq hu 4) rfl).pre (by decide) rfl;have e2:a.tmps.getD 55 undef=aR (L 1):=(h.vals 10 55 (aq hu 10) rfl).pre (by decide) rfl;have hst:Tab W/\w.heap.size<=W.heap.size:=by
    cases h17:l 17 with
    |false=>have:=h.st.no h17;exact⟨this.t,this.gr.size⟩
    |true=>obtain⟨v,_,this⟩:=h.st.ye h17;exact⟨this.t,this.gr.size⟩
   refine Vm.step h (by kernel_rfl) rfl rfl rfl hl (Vl.il 16 #[bV g s i j,aR (L 1)] (Vl.nI 16 (.tmp 49) (.tmp 55) _ _ _ rfl e1 e2 (by kernel_rfl)) ?_);refine(mx g s i j (L 1) (HL.Z 1) W hst.1).mono ?_;rintro e W' ⟨v,E,rfl,hp,hb⟩;obtain⟨hv,rfl⟩:=Fu hp hst.2;exact⟨_,rfl,_,rfl,λi d _ _ hv=>hv.up λ_ hv=>hv.below hb,Vp.W.mk ⟨v,rfl,hv⟩,h.st.below hb⟩
  ·intro l a W hl hu h
   obtain⟨v,e1,hv⟩:=(h.vals 11 56 (aq hu 11) rfl).post;exact Vm.aJ h (by kernel_rfl) rfl rfl rfl hl _ (Vl.br (.tmp 56) rfl e1) (λ_ _ hv=>hv.up λ_ hv=>hv) (Vp.W.mk ⟨v,rfl,hv⟩) (λs=>s)
  ·intro l a W hl hu h
   obtain⟨v,e1,hv⟩:=(h.vals 12 44 (aq hu 12) rfl).post;exact Vm.aJ h (by kernel_rfl) rfl rfl rfl hl _ (Vl.fJ (.tmp 44) 0 _ rfl e1 rfl) (λ_ _ hv=>hv.up λ_ hv=>hv) (Vp.W.mk hv) (λs=>s)
  ·intro l a W hl hu h
   obtain⟨v,e1,hv⟩:=(h.vals 12 44 (aq hu 12) rfl).post;exact Vm.aJ h (by kernel_rfl) rfl rfl rfl hl _ (Vl.fJ (.tmp 44) 1 _ rfl e1 rfl) (λ_ _ hv=>hv.up λ_ hv=>hv) (Vp.W.mk rfl) (λs=>s)
  ·intro l a W hl hu h
   have e1:a.tmps.getD 45 undef= .pointer (some ⟨p,0,none⟩):=(h.vals 0 45 (aq hu 0) rfl).pre (by decide) rfl;exact Vm.aJ h (by kernel_rfl) rfl rfl rfl hl _ (Vl.mC (.tmp 45) rfl ⟨p,0,none⟩ e1) (λ_ _ hv=>hv.up λ_ hv=>hv) (Vp.W.mk rfl) (λs=>s)
  ·intro l a W hl hu h
   have e1:a.tmps.getD 59 undef= .pointer (some ⟨p,0,none⟩):=(h.vals 15 59 (aq hu 15) rfl).post;exact Vm.aJ h (by kernel_rfl) rfl rfl rfl hl _ (Vl.gB 105 (.tmp 59) 3 rfl e1 (by kernel_rfl)) (λ_ _ hv=>hv.up λ_ hv=>hv) (Vp.W.mk rfl) (λs=>s)
  ·intro l a W hl hu h
   have e1:a.tmps.getD 60 undef= .pointer (some ⟨p,10,none⟩):=(h.vals 16 60 (aq hu 16) rfl).post;have hv:tF g s i j (L 1) w.heap.size (a.tmps.getD 57 undef) W:=(h.vals 13 57 (aq hu 13) rfl).post;have hs:=h.st.no hl;have ho:az p W (W.setCell ⟨p,10,none⟩ (a.tmps.getD 57 undef)):=az.setCell W ⟨p,10,none⟩ _;refine Vm.step h (by kernel_rfl) rfl rfl rfl hl (Vl.rG 51 (.tmp 60) (.tmp 57) rfl p 10 (a.tmps.getD 57 undef) (.slice none 0 0) e1 rfl (hs.a.cell (i:=10) rfl) (an hs.a 10) yC hv.form ?_);refine⟨_,rfl,λi d _ hd hv'=>hv'.up λhi hv'=>V4.map hv' λv hv=>hv.only ho PV.Z,Vp.W.mk trivial,⟨(λe=>by have e:true=false:=e;cases e),λ_=>⟨_,hv.only ho PV.Z,hs.put Yp.Z PV.Z 10 [_] rfl⟩⟩⟩
  intro l a W hl hu h;have e1:a.tmps.getD 58 undef= .int .i64 (jY g s i j (L 1)):=(h.vals 14 58 (aq hu 14) rfl).post;exact Vm.aJ h (by kernel_rfl) rfl rfl rfl hl _ (Vl.kV (.tmp 58) rfl e1) (λ_ _ hv=>hv.up λ_ hv=>hv) (Vp.W.mk rfl) (λs=>s)
 intro a' w9 h hall;have bX:=hall [56,44,57,58,59,60,3] (by kernel_rfl);clear hall;obtain⟨v11,e56,_⟩:=(h.vals 11 56 rfl rfl).post;obtain⟨v12,e44,_⟩:=(h.vals 12 44 rfl rfl).post;obtain⟨v13,e57⟩:=ae (a'.tmps.getD 57 undef);have e58:a'.tmps.getD 58 undef= .int .i64 (jY g s i j (L 1)):=(h.vals 14 58 rfl rfl).post;have e59:a'.tmps.getD 59 undef= .pointer (some ⟨p,0,none⟩):=(h.vals 15 59 rfl rfl).post;have e60:a'.tmps.getD 60 undef= .pointer (some ⟨p,10,none⟩):=(h.vals 16 60 rfl rfl).post;have e3:a'.tmps.getD 3 undef= .int .i64 (jY g s i j (L 1)):=(h.vals 18 3 rfl rfl).post;obtain⟨v,hv,hs⟩:=h.st.ye rfl;have HV:=ah hv;have oo:=ah hs;rw[List.foldl_cons,List.foldl_cons,List.foldl_cons,List.foldl_cons,List.foldl_cons,List.foldl_cons,List.foldl_cons,List.foldl_nil,e56,e44,e57,e58,e59,e60,e3] at bX;simp only[Act.put,List.setIfInBounds_toArray,List.set_cons_succ,List.set_cons_zero] at bX;subst bX;clear h e56 e44 e57 e58 e59 e60 e3 hv hs tD;obtain⟨E,hE⟩:=aa (jY g s i j (L 1));have P1:Hd ((E==0)=iH g s i j (L 1)):=by show _=_;rw[hE,tX]
 rw[<-hE];clear hE;go_wp2_with fail;refine(bJ 2 (E==0) _).mono ?_;rintro e pL ⟨hS,rfl⟩;have eS:=Bk.Z;unfold aT at eS;simp only[decide_eq_true_eq] at eS;obtain⟨h1,h2,h3,h4,h5⟩:=zw.Z;have o0:0<=o:=by rw[h5];exact(dP (HL.Z 0) 16).1
 have eg:(Im.of L n).g=g.toNat:=by rw[h1];rfl
 have e1:(((Im.of L n).g:Nat):Int)=g:=by rw[eg];exact Int.toNat_of_nonneg (by omega)
 have e2:(((Im.of L n).s:Nat):Int)=s:=by rw[h2];exact Int.toNat_of_nonneg (by rw[<-h2];omega)
 have e3:(((Im.of L n).i:Nat):Int)=i:=by rw[h3];exact Int.toNat_of_nonneg (by rw[<-h3];omega)
 have e4:(((Im.of L n).j:Nat):Int)=j:=by rw[h4];exact Int.toNat_of_nonneg (by rw[<-h4];omega)
 have e5:(((Im.of L n).o:Nat):Int)=o:=by rw[h5];exact Int.toNat_of_nonneg (by rw[<-h5];omega)
 have DU:(Im.of L n).Cb=iH g s i j (L 1):=by
  show iH (((Im.of L n).g:Nat):Int) (((Im.of L n).s:Nat):Int) (((Im.of L n).i:Nat):Int) (((Im.of L n).j:Nat):Int) (L 1)=_;rw[e1,e2,e3,e4]
 have El:Hd ((Im.of L n).Cb=(E==0)):=DU.trans P1.Z.symm;rcases hS with⟨hct,rfl⟩|⟨hct,rfl⟩
 rotate_left
 ·exact⟨rfl,oo.Z.gr,.inr (.inl ⟨tG.Z,El.Z.trans hct,rfl⟩)⟩
 have hP:zr w p b off n cap L (.returned (.tuple #[])) w9:=by
  refine⟨oo.Z.gr,.inr (.inr ⟨tG.Z,El.Z.trans hct,rfl,?_⟩)⟩;have hok:iH g s i j (L 1)=true:=P1.Z.symm.trans hct;rcases HV.Z with⟨_,hm⟩|⟨hno,_⟩
  ·obtain⟨db,dc,rfl,hlo,hlt,_⟩:=au.nZ hm (by omega)
   refine⟨db,dc,hlo,hlt,?_,?_⟩
   ·have hA:=oo.Z.a
    show At w9 p _ (qE _ (((Im.of L n).g:Nat):Int) (((Im.of L n).s:Nat):Int) (((Im.of L n).i:Nat):Int) (((Im.of L n).j:Nat):Int) (((Im.of L n).o:Nat):Int) _ _ _ _ _ _);rw[e1,e2,e3,e4,e5,eg];exact hA
   rw[eg];exact au.bQ hm (λ_=>rfl)
  rw[hno] at hok;cases hok
 clear oo HV hct e1 e2 e3 e4 e5 eg DU h1 h2 h3 h4 h5 eS o0;go_wp2_with fail;exact bodyPost_end (results_none rfl _ _ _) rfl hP
theorem Im.Lq{n:Nat}(hL:∀i,bu (L i))(h:(Im.of L n).sS=true):(Im.of L n).Ok:=by
 unfold Im.sS at h;simp only[Bool.and_eq_true,decide_eq_true_eq,beq_iff_eq] at h;obtain⟨_,h1,h2⟩:=h;have hm:aT (hd (L 0) 4) (hd (L 0) 5) (hd (L 0) 6) (hd (L 0) 7)=true:=oI (z:=L 0) h1;have h2:(n:Int)=pj (hd (L 0) 4) (hd (L 0) 5) (hd (L 0) 6) (hd (L 0) 7):=h2;rw[pj,if_pos hm] at h2;have hm2:=hm;unfold aT at hm2;simp only[decide_eq_true_eq] at hm2;have e1:(((Im.of L n).g:Nat):Int)=hd (L 0) 4:=Int.toNat_of_nonneg (by omega);have e2:(((Im.of L n).s:Nat):Int)=hd (L 0) 5:=Int.toNat_of_nonneg (by omega);have e3:(((Im.of L n).i:Nat):Int)=hd (L 0) 6:=Int.toNat_of_nonneg (by omega);have e4:(((Im.of L n).j:Nat):Int)=hd (L 0) 7:=Int.toNat_of_nonneg (by omega);have ho:=dP (hL 0) 16;have e5:(((Im.of L n).o:Nat):Int)=cR (L 0) 16:=Int.toNat_of_nonneg ho.1;refine⟨hL,?_,?_,by omega⟩
 ·rw[e1,e2,e3,e4];exact hm
 have:(n:Int)=((2+(Im.of L n).j+(Im.of L n).g*(Im.of L n).s:Nat):Int):=by
  rw[h2,<-e1,<-e2,<-e4,Int.natCast_add,Int.natCast_add,Int.natCast_mul];rfl
 exact Int.ofNat.inj this
theorem zg(p cap:Nat)(a:Option Addr)(L:Nat->Nat->Int)(w:World)(hA:At w p 105 (X0 (.slice a 0 cap))):
  Calls Tryz.prog 76 #[.pointer (some ⟨p,0,none⟩)] w λe w'=>(Im.of L 0).sS=false/\e= .panicked (sB 1)/\w=w':=by
 have c0:w.cell? ⟨p,0,none⟩=some (.slice a 0 cap):=hA.cell (i:=0) rfl;clear hA;go_enter Tryz.func76,Tryz.ntmps76;go_wp2_with fail;refine(ir 1 _).mono ?_;rintro e w1 ⟨rfl,rfl⟩;exact⟨rfl,rfl,rfl,rfl⟩
namespace Im
theorem Kv{t:Nat}(h:x.ki t=true)(h1:1<=t)(h2:t<=x.ni):(x.ino t).kz:=by
 unfold ki at h;rw[Bool.and_eq_true,beq_iff_eq] at h;have h0:=h.1;unfold ea at h0;unfold ino;rw[if_pos ⟨h1,h2⟩];unfold dZ;split at h0
 ·rename_i hp
  split at h0
  ·rename_i hg
   rw[if_pos hp,if_pos hg];unfold dY at hg;simp only[Bool.and_eq_true,decide_eq_true_eq] at hg;exact hg.2.2
  cases h0
 cases h0
theorem Cj(h:aK (λt=>x.ki (t+1)) x.ni=true)(t:Nat)(h1:1<=t)(h2:t<=x.ni):(x.ino t).kz:=by
 have:=(aY _ _).1 h (t-1) (by omega);rw[show t-1+1=t by omega] at this;exact Kv this h1 h2
end Im
theorem pE(g:Nat)(x k:Int)(w:World)(hc:w.cell? ⟨g,0,none⟩=some (.int .i64 x))(hz:w.frozen? ⟨g,0,none⟩=false):
  CallsD Tryz.prog 75 #[.pointer (some ⟨g,0,none⟩)] (.panicking (sB k)) w λe u' w'=>
   e= .returned (.tuple #[])/\u'= .panicking [{v:=.iface 158 (.int .i64 k),recovered:=true}]/\w'=w.setCell ⟨g,0,none⟩ (.int .i64 k):=by
 refine callsD_of_wpS Tryz.func75 rfl λc₀ cs hu=> ?_
 apply wpS_seq;apply wpS_region;simp[wpOpsS,go_sem,recoverD,hu,sB,Tryz.ntmps75,Exit.thenS];apply wpS_seq;apply wpS_region;simp[wpOpsS,go_sem,Exit.thenS];refine wpS_cond (t:=true) (by simp[Act.eval,Array.replicate]) ?_;simp only[if_true];refine wpS_of_wp ?_;simp only[Array.replicate,List.replicate,List.setIfInBounds_toArray,List.append_toArray,List.set_cons_succ,List.set_cons_zero,List.cons_append,List.nil_append];have LJ:∀W,(Instr.typeAssert (.iface 158 (.int .i64 k)) 20 158 true).run Tryz.prog W= .ok (.tuple #[.int .i64 k,.bool true]) W:=λW=>by kernel_rfl
 go_wp2_with fail;simp[bodyPostS,results,Tryz.results75]
theorem wO(g:Nat)(w:World):
  CallsD Tryz.prog 75 #[.pointer (some ⟨g,0,none⟩)] .returning w λe u' w'=>e= .returned (.tuple #[])/\u'= .returning/\w'=w:=by
 refine callsD_of_wpS Tryz.func75 rfl λc₀ cs hu=> ?_
 apply wpS_seq;apply wpS_region;simp[wpOpsS,go_sem,recoverD,hu,Tryz.ntmps75,Exit.thenS];apply wpS_seq;apply wpS_region;simp[wpOpsS,go_sem,Exit.thenS];refine wpS_cond (t:=false) (by simp[Act.eval,Array.replicate]) ?_;simp only[Bool.false_eq_true,if_false];refine wpS_of_wp (wp_skip ?_);cases c₀
 simp_all[bodyPostS,results,Tryz.results75]
theorem tL(W:World):(zeroValue 105).run Tryz.prog W= .ok (.agg (X0 (.slice none 0 0))) W:=by kernel_rfl
theorem sq{W:World}{k:Int}(h2:tmps[2]?.getD undef= .pointer (some ⟨p,0,none⟩))(h3:tmps[3]?.getD undef= .pointer (some ⟨R,0,none⟩))(hR:W.cell? ⟨R,0,none⟩=some (.int .i64 k)):
  (results Tryz.f37 tmps).run Tryz.prog W= .ok (.tuple #[.pointer (some ⟨p,0,none⟩),.int .i64 k]) W:=by
 simp[results,Tryz.results37,go_sem,h2,h3,hR]
theorem dz{W:World}{k:Int}(h2:tmps[2]?.getD undef= .pointer (some ⟨p,0,none⟩))(h3:tmps[3]?.getD undef= .pointer (some ⟨R,0,none⟩))(hR:At W R 3 #[.int .i64 0])
  (hQ:Q (.returned (.tuple #[.pointer (some ⟨p,0,none⟩),.int .i64 k])) (W.setCell ⟨R,0,none⟩ (.int .i64 k))):
  Leaves Tryz.prog Tryz.f37 tmps Q [{target:=.fn (.func 75) #[.pointer (some ⟨R,0,none⟩)],args:=#[]}] (.panicking (sB k)) W:=by
 refine leaves_cons (f:=75) (args:=#[.pointer (some ⟨R,0,none⟩)]) (by simp) (by simp[go_sem]) ?_;refine(pE R 0 k W (hR.cell (i:=0) rfl) (an hR 0)).mono ?_;rintro e u' w'' ⟨rfl,rfl,rfl⟩;exact⟨_,sq h2 h3 ((hR.setCell 0 (.int .i64 k)).cell (i:=0) rfl),hQ⟩
theorem Kj{W:World}{k:Int}(h2:tmps[2]?.getD undef= .pointer (some ⟨p,0,none⟩))(h3:tmps[3]?.getD undef= .pointer (some ⟨R,0,none⟩))(hR:W.cell? ⟨R,0,none⟩=some (.int .i64 k))
  (hQ:Q (.returned (.tuple #[.pointer (some ⟨p,0,none⟩),.int .i64 k])) W):
  Leaves Tryz.prog Tryz.f37 tmps Q [{target:=.fn (.func 75) #[.pointer (some ⟨R,0,none⟩)],args:=#[]}] .returning W:=by
 refine leaves_cons (f:=75) (args:=#[.pointer (some ⟨R,0,none⟩)]) (by simp) (by simp[go_sem]) ?_;refine(wO R W).mono ?_;rintro e u' w'' ⟨rfl,rfl,rfl⟩;exact⟨_,sq h2 h3 hR,hQ⟩
theorem sy(a:Option Addr)(cap:Nat)(L:Nat->Nat->Int)(w:World):Calls Tryz.prog 37 #[.slice a 0 cap] w λe w'=>(∃p,e= .returned (.tuple #[.pointer (some ⟨p,0,none⟩),.int .i64 1]))/\Below w.heap.size w w':=by
 have Ze:∀(fn:Fn) (first cap:Array Value) (w:World),(Instr.makeFunc fn first cap).run Tryz.prog w= .ok (.func fn first cap) w:=λ_ _ _ _=>rfl
 have hz:=tL;have hA:=At.new (w.alloc (.cells #[.int .i64 0] 3)) 105 (X0 (.slice a 0 cap));have hG:=(At.new w 3 #[.int .i64 0]).alloc (.cells (X0 (.slice a 0 cap)) 105);rw[World.size_alloc] at hA
 go_enter_defers Tryz.func37,Tryz.ntmps37
 go_wp2_with fail;refine(zg (w.heap.size+1) cap a L _ hA).mono ?_;rintro e w1 ⟨_,rfl,rfl⟩;refine leaves_cons (f:=75) (args:=#[.pointer (some ⟨w.heap.size,0,none⟩)]) (by simp) (by simp[go_sem]) ?_;refine(pE w.heap.size 0 1 _ (hG.cell (i:=0) rfl) (an hG 0)).mono ?_;rintro e u' w'' ⟨rfl,rfl,rfl⟩;simp[Leaves,settle,results,Tryz.results37,go_sem];exact(ag.alloc af _).alloc (by simp) _
namespace Im
variable {x:Im}
theorem so(h:x.sS=false):x.aV=(1,λ_=>0):=by unfold aV;rw[if_pos h]
theorem GU(h1:x.sS=true)(h:x.Cb=false):x.aV=(2,λ_=>0):=by unfold aV;rw[if_neg (by rw[h1];decide),if_pos h]
def PD(x:Im)(o:Nat->Nat)(u:Nat->List Nat):Nat×(Nat->Nat):=
 if aK (λt=>x.gW u (t+1)) x.ni=false then(10,λ_=>0) else if aK (x.jt (x.reach u)) (x.ni+1)=false then(11,λ_=>0)
    else if aK x.js x.g=false then(12,λ_=>0) else(0,o)
def RV(x:Im)(o:Nat->Nat):Nat×(Nat->Nat):=if aK (x.uL o) x.g=false then(8,λ_=>0) else match x.mR with
   |none=>(9,λ_=>0)
   |some u=>PD x o u
def TV(x:Im)(m:Nat->Bool):Nat×(Nat->Nat):=match x.trees m with
  |none=>(7,λ_=>0)
  |some o=>RV x o
def TW(x:Im):Nat×(Nat->Nat):=match x.mH with
 |none=>(6,λ_=>0)
 |some m=>if aK (λt=>x.tB m (t+1)) x.ni=false then(6,λ_=>0) else TV x m
theorem qu(h1:x.sS=true)(h2:x.Cb=true):x.aV=if aK x.qy x.g=false then(3,λ_=>0)
 else if aK (λt=>x.ki (t+1)) x.ni=false then(4,λ_=>0) else if(x.ino 1).kind≠2 then(5,λ_=>0) else TW x:=by
 unfold aV;rw[if_neg (by rw[h1];decide),if_neg (by rw[h2];decide)];rfl
theorem GS(h1:x.sS=true)(h2:x.Cb=true)(h:aK x.qy x.g=false):x.aV=(3,λ_=>0):=by rw[qu h1 h2,if_pos h]
theorem GQ(h1:x.sS=true)(h2:x.Cb=true)(h3:aK x.qy x.g=true)(h:aK (λt=>x.ki (t+1)) x.ni=false):x.aV=(4,λ_=>0):=by
 rw[qu h1 h2,if_neg (by rw[h3];decide),if_pos h]
theorem GP(h1:x.sS=true)(h2:x.Cb=true)(h3:aK x.qy x.g=true)(h4:aK (λt=>x.ki (t+1)) x.ni=true)(h:((x.ino 1).kind==2)=false):x.aV=(5,λ_=>0):=by
 rw[qu h1 h2,if_neg (by rw[h3];decide),if_neg (by rw[h4];decide),if_pos (λe=>by rw[e] at h;cases h)]
structure EA(x:Im):Prop where
 h1:x.sS=true
 h2:x.Cb=true
 h3:aK x.qy x.g=true
 h4:aK (λt=>x.ki (t+1)) x.ni=true
 h5:((x.ino 1).kind==2)=true
theorem EA.aV(h:EA x):x.aV=TW x:=by
 rw[qu h.h1 h.h2,if_neg (by rw[h.h3];decide),if_neg (by rw[h.h4];decide),if_neg (λe=>e (by have:=h.h5;rwa[beq_iff_eq] at this))]
theorem EA.YK(h:EA x)(k:x.vP=false):x.aV=(6,λ_=>0):=by
 rw[h.aV];unfold vP at k;unfold TW;cases ho:x.mH with
 |none=>rfl
 |some m=>rw[ho] at k;exact if_pos k
theorem EA.YE(h:EA x)(k:x.vP=true)(hm:x.mH=some m):x.aV=TV x m:=by
 rw[h.aV];unfold TW;rw[hm];unfold vP at k;rw[hm] at k
 replace k:aK (λt=>x.tB m (t+1)) x.ni=true:=k
 show(if aK (λt=>x.tB m (t+1)) x.ni=false then _ else _)=_;rw[if_neg (by rw[k];decide)]
structure Md(x:Im)(o:Nat->Nat):Prop where
 e:x.aV=RV x o
theorem EA.YJ(h:EA x)(k:x.vP=true)(hm:x.mH=some m)(ht:x.trees m=none):x.aV=(7,λ_=>0):=by rw[h.YE k hm];unfold TV;rw[ht]
theorem EA.YD(h:EA x)(k:x.vP=true)(hm:x.mH=some m)(ht:x.trees m=some o):Md x o:=⟨by rw[h.YE k hm];unfold TV;rw[ht]⟩
theorem Md.YI(h:Md x o)(k:aK (x.uL o) x.g=false):x.aV=(8,λ_=>0):=by rw[h.e];unfold RV;rw[if_pos k]
theorem Md.YH(h:Md x o)(k:aK (x.uL o) x.g=true)(hd:x.mR=none):x.aV=(9,λ_=>0):=by rw[h.e];unfold RV;rw[if_neg (by rw[k];decide),hd]
structure KR(x:Im)(o:Nat->Nat)(u:Nat->List Nat):Prop where
 e:x.aV=PD x o u
theorem Md.YC(h:Md x o)(k:aK (x.uL o) x.g=true){u:Nat->List Nat}(hd:x.mR=some u):KR x o u:=⟨by rw[h.e];unfold RV;rw[if_neg (by rw[k];decide),hd]⟩
theorem KR.Qu{u:Nat->List Nat}(h:KR x o u)(k:aK (λt=>x.gW u (t+1)) x.ni=false):x.aV=(10,λ_=>0):=by rw[h.e];unfold PD;rw[if_pos k]
theorem KR.Qt{u:Nat->List Nat}(h:KR x o u)(k:aK (λt=>x.gW u (t+1)) x.ni=true)(k2:aK (x.jt (x.reach u)) (x.ni+1)=false):x.aV=(11,λ_=>0):=by
 rw[h.e];unfold PD;rw[if_neg (by rw[k];decide),if_pos k2]
theorem KR.Qs{u:Nat->List Nat}(h:KR x o u)(k:aK (λt=>x.gW u (t+1)) x.ni=true)(k2:aK (x.jt (x.reach u)) (x.ni+1)=true)(k3:aK x.js x.g=false):x.aV=(12,λ_=>0):=by
 rw[h.e];unfold PD;rw[if_neg (by rw[k];decide),if_neg (by rw[k2];decide),if_pos k3]
theorem KR.yes{u:Nat->List Nat}(h:KR x o u)(k:aK (λt=>x.gW u (t+1)) x.ni=true)(k2:aK (x.jt (x.reach u)) (x.ni+1)=true)(k3:aK x.js x.g=true):x.aV=(0,o):=by
 rw[h.e];unfold PD;rw[if_neg (by rw[k];decide),if_neg (by rw[k2];decide),if_neg (by rw[k3];decide)]
end Im
structure Le(w:World)(W:World):Prop where
 r:At W w.heap.size 3 #[.int .i64 0]
 bel:Below w.heap.size w W
theorem Le.grown{W:World}(h:Le w W)(hg:W.grownBy W' (some (w.heap.size+1))):Le w W':=
 ⟨h.r.fX hg (by omega),h.bel.trans (sd hg h.bel.size (λk e=>by injection e with e;omega))⟩
theorem Le.below{W:World}(h:Le w W)(hb:Below W.heap.size W W'):Le w W':=⟨h.r.below hb h.r.lt,h.bel.trans (hb.mono h.bel.size)⟩
def xq(W:World)(v:Value)(n:Nat)(L:Nat->Nat->Int):Prop:=
 ∃a cap,v= .slice a n cap/\(0<n->∃b off,a=some ⟨b,off,none⟩/\b<W.heap.size/\aM W b off 256 n (dR L))
theorem xq.below{W:World}{n:Nat}(h:xq W v n L)(hb:Below W.heap.size W W'):xq W' v n L:=by
 obtain⟨a,cap,rfl,h⟩:=h;exact⟨a,cap,rfl,λhn=>by obtain⟨b,off,e,hl,hs⟩:=h hn;exact⟨b,off,e,Nat.lt_of_lt_of_le hl hb.size,aM.below hs hb hl⟩⟩
def eP(w:World)(v:Value)(n:Nat)(L:Nat->Nat->Int)(e:Ending)(w':World):Prop:=
 ∃p,e= .returned (.tuple #[.pointer (some ⟨p,0,none⟩),.int .i64 (((Im.of L n).aV.1:Nat):Int)])/\Below w.heap.size w w'/\
  ((Im.of L n).aV.1=0->(Im.of L n).Ok/\∃ds ino ay sl un g,At w' p 105 (qE v (Im.of L n).g (Im.of L n).s (Im.of L n).i (Im.of L n).j (Im.of L n).o ds ino ay (.slice (some ⟨g,0,none⟩) n n) sl un)/\aE w' g 3 1 n (mG (Im.of L n).aV.2)/\w.heap.size<=g/\p≠g)
theorem eP.no{W:World}{n:Nat}{K:Int}(hK:K=(k:Int))(hk:k≠0)(h:(Im.of L n).aV=(k,λ_=>0))(hM:Le w W):
  eP w v n L (.returned (.tuple #[.pointer (some ⟨p,0,none⟩),.int .i64 K])) (W.setCell ⟨w.heap.size,0,none⟩ (.int .i64 K)):=
 ⟨p,by rw[h,hK],hM.bel.trans ((az.setCell W ⟨w.heap.size,0,none⟩ _).below af),λe=>by rw[h] at e;exact absurd e hk⟩
theorem sU.grown{W:World}{base ug n:Nat}{u:Nat->List Nat}{cs:Array Value}(h:sU w base ug n u)(hA:At w p 105 cs)(hup:ug≠p)(hg:w.grownBy W (some p)):sU W base ug n u:=by
 obtain⟨a,c,h1,h2⟩:=h;refine⟨a,c,h1.grown hg (λe=>by injection e with e;exact hup e),λt ht=>World.ownsRow.kept (h2 t ht) hg ?_⟩;cases h3:(Value.slice (a t) (u t).length (c t)).ownBlock with
 |none=>exact .inl rfl
 |some r=>exact .inr (λe=>dJ hA (h2 t ht) (by decide) (by rw[h3];exact e))
structure Hs(w:World)(b off cap:Nat)(x:Im)(ds ino ay own sl un:Value)(db:Nat)(W:World):Prop where
 m:Le w W
 a:At W (w.heap.size+1) 105 (XC b off cap x ds ino ay own sl un)
 i:aM W b off 256 x.n (dR x.L)
 d:aM W db 0 3 x.g (df (rB (x.L 1)) (rI (x.L 1)) (rD (x.L 1)))
 dl:w.heap.size+2<=db/\db<W.heap.size
 bl:b<w.heap.size
section
variable {w:World} {b off cap:Nat} {x:Im} {ds ino ay own sl un:Value} {db:Nat} {W W':World}
theorem Hs.lt(h:Hs w b off cap x ds ino ay own sl un db W):w.heap.size+1<W.heap.size/\b<W.heap.size/\b≠w.heap.size+1:=by
 have h1:=h.a.lt;have h2:=h.bl;exact⟨h1,by omega,by omega⟩
theorem Hs.below(h:Hs w b off cap x ds ino ay own sl un db W)(hb:Below W.heap.size W W'):Hs w b off cap x ds ino ay own sl un db W':=
 ⟨h.m.below hb,h.a.below hb h.a.lt,aM.below h.i hb h.lt.2.1,aM.below h.d hb h.dl.2,⟨h.dl.1,Nat.lt_of_lt_of_le h.dl.2 hb.size⟩,h.bl⟩
theorem Hs.grown(h:Hs w b off cap x ds ino ay own sl un db W)(hg:W.grownBy W' (some (w.heap.size+1))){QF Qp Qo sl' YB:Value}(ha:At W' (w.heap.size+1) 105 (XC b off cap x ds QF Qp Qo sl' YB)):Hs w b off cap x ds QF Qp Qo sl' YB db W':=
 ⟨h.m.grown hg,ha,aM.fX h.i hg h.lt.2.1 (λe=>by injection e with e;exact h.lt.2.2 e),aM.fX h.d hg h.dl.2 (λe=>by injection e with e;have:=h.dl.1;omega),⟨h.dl.1,Nat.lt_of_lt_of_le h.dl.2 hg.size⟩,h.bl⟩
theorem Hs.L8(h:Hs w b off cap x ds ino ay own sl un db W){q:Nat}(hr:aE W q 63 16 (x.ni+1) (jL x)):jz W (w.heap.size+1) b off x (XC b off cap x ds ino ay own sl un) q W:=
 ⟨h.a,h.i,hr,h.lt.2.1,bB ag⟩
end
theorem tz(b off n cap:Nat)(L:Nat->Nat->Int)(hL:∀i,bu (L i))(hn:0<n)(gi:n<=4294967296)(w:World)(hT:Tab w)(r6:b<w.heap.size)(hi:aM w b off 256 n (dR L)):
  Calls Tryz.prog 37 #[.slice (some ⟨b,off,none⟩) n cap] w λe w'=>eP w (.slice (some ⟨b,off,none⟩) n cap) n L e w':=by
 have Ze:∀(fn:Fn) (first cap:Array Value) (w:World),(Instr.makeFunc fn first cap).run Tryz.prog w= .ok (.func fn first cap) w:=λ_ _ _ _=>rfl
 have hz:=tL;have hA0:=At.new (w.alloc (.cells #[.int .i64 0] 3)) 105 (X0 (.slice (some ⟨b,off,none⟩) n cap));have ZY:=(At.new w 3 #[.int .i64 0]).alloc (.cells (X0 (.slice (some ⟨b,off,none⟩) n cap)) 105);have hb0:Below w.heap.size w ((w.alloc (.cells #[.int .i64 0] 3)).alloc (.cells (X0 (.slice (some ⟨b,off,none⟩) n cap)) 105)):=(ag.alloc af _).alloc (by simp) _;rw[World.size_alloc] at hA0;have hi0:=aM.below hi hb0 r6;have hT0:=hT.below hb0 af;have H0:=ah (And.intro hA0 (And.intro (Le.mk ZY hb0) (And.intro hi0 hT0)));clear hA0 ZY hb0 hi0 hT0 hi hT
 go_enter_defers Tryz.func37,Tryz.ntmps37
 go_wp2_with fail;refine(A5 (w.heap.size+1) b off n cap L hL hn gi _ H0.Z.2.2.2 (by rw[World.size_alloc,World.size_alloc];omega) (by omega) H0.Z.1 H0.Z.2.2.1).mono ?_;rintro e w1 ⟨hg1,hp⟩;have M1:=ah (H0.Z.2.1.grown hg1);have hi1:=aM.fX H0.Z.2.2.1 hg1 (by rw[World.size_alloc,World.size_alloc];omega) (λe=>by injection e with e;omega);have hsz:w.heap.size+2<=(((w.alloc (.cells #[.int .i64 0] 3)).alloc (.cells (X0 (.slice (some ⟨b,off,none⟩) n cap)) 105)):World).heap.size:=by simp
 clear H0;rcases hp with⟨h1,rfl⟩|⟨h1,h2,rfl⟩|⟨h1,h2,rfl,db,dc,qp,J3,gU,Z6⟩
 ·exact dz rfl rfl M1.Z.r (eP.no rfl (by decide) (Im.so h1) M1.Z)
 ·exact dz rfl rfl M1.Z.r (eP.no rfl (by decide) (Im.GU h1 h2) M1.Z)
 have hx:=Im.Lq hL h1;have HX:=ah hx;have HH:=ah (And.intro h1 h2);have S1:Hd (Hs w b off cap (Im.of L n) (.slice (some ⟨db,0,none⟩) (Im.of L n).g dc) (.slice none 0 0) (.slice none 0 0) (.slice none 0 0) (.slice none 0 0) (.slice none 0 0) db w1):=⟨M1.Z,gU,hi1,Z6,⟨by omega,J3⟩,r6⟩;clear M1 hg1 hi1 hsz h1 h2 qp J3 gU Z6 hx r6;go_wp2_with fail;refine(tA (w.heap.size+1) b off cap (Im.of L n) HX.Z _ _ _ _ _ _ w1 S1.Z.a S1.Z.i).mono ?_;rintro e w2 ⟨hS,hb2⟩;have S2:=ah (S1.Z.below hb2);clear S1 hb2;rcases hS with⟨h3,rfl⟩|⟨h3,rfl⟩
 rotate_left
 ·exact dz rfl rfl S2.Z.m.r (eP.no rfl (by decide) (Im.GS HH.Z.1 HH.Z.2 h3) S2.Z.m)
 have H3:=ah h3;clear h3;go_wp2_with fail;refine(wM (w.heap.size+1) b off cap (Im.of L n) HX.Z _ _ _ _ _ w2 S2.Z.a S2.Z.i S2.Z.lt.2.2).mono ?_;rintro e w3 ⟨hS,hg3,hq⟩;rcases hS with⟨h4,rfl⟩|⟨h4,rfl⟩
 rotate_left
 ·exact dz rfl rfl (S2.Z.m.grown hg3).r (eP.no rfl (by decide) (Im.GQ HH.Z.1 HH.Z.2 H3.Z h4) (S2.Z.m.grown hg3))
 obtain⟨q,AN,hA3,yO⟩:=hq h4;have S3:=ah (S2.Z.grown hg3 hA3);have R3:=ah yO;have HQ:Hd (q≠w.heap.size+1/\b≠q):=⟨by have:=S2.Z.lt;omega,by have:=S2.Z.lt;omega⟩;have H4:=ah h4;have hni:1<=(Im.of L n).ni:=Nat.mul_pos (by have:=(dX HX.Z.may).1;omega) (by have:=dX HX.Z.may;omega);have K8:=ah hni;clear S2 hg3 AN hA3 yO h4 hq hni;go_wp2_with fail;refine(A4 (w.heap.size+1) b off cap (Im.of L n) _ _ _ _ _ q w3 K8.Z (S3.Z.L8 R3.Z)).mono ?_;rintro e w4 ⟨hS,rfl⟩;rcases hS with⟨h5,rfl⟩|⟨h5,rfl⟩
 rotate_left
 ·exact dz rfl rfl S3.Z.m.r (eP.no rfl (by decide) (Im.GP HH.Z.1 HH.Z.2 H3.Z H4.Z h5) S3.Z.m)
 have T5:Hd (Im.EA (Im.of L n)):=⟨HH.Z.1,HH.Z.2,H3.Z,H4.Z,h5⟩;have HM:=ah (Im.Cj H4.Z);clear HH H3 H4 h5;go_wp2_with fail;refine(tx (w.heap.size+1) b off cap (Im.of L n) HX.Z _ _ _ _ q w3 S3.Z.lt.2.2 HQ.Z.1 (S3.Z.L8 R3.Z)).mono ?_;rintro e w5 ⟨hS,xl,hq⟩;rcases hS with⟨h6,rfl⟩|⟨h6,rfl⟩
 rotate_left
 ·exact dz rfl rfl (S3.Z.m.grown xl).r (eP.no rfl (by decide) (T5.Z.YK h6) (S3.Z.m.grown xl))
 obtain⟨m,og,hm,VQ,LZ,ZO⟩:=hq h6;have S5:=ah (S3.Z.grown xl LZ);have R5:=ah (R3.Z.grown xl (λe=>by injection e with e;exact HQ.Z.1 e));have O5:=ah ZO;have HO:Hd (og≠w.heap.size+1/\og≠b/\og≠q):=⟨by have:=S3.Z.lt;omega,by have:=S3.Z.lt;omega,by have:=R3.Z.lt;omega⟩;have H6:=ah (And.intro h6 hm);clear S3 R3 xl VQ LZ ZO h6 hm hq;go_wp2_with fail;refine(zc (w.heap.size+1) b off cap (Im.of L n) HX.Z HM.Z _ _ _ q og m w5 S5.Z.lt.2.2 HQ.Z.1 HO.Z.1 HO.Z.2.1 HO.Z.2.2 (S5.Z.L8 R5.Z) O5.Z).mono ?_;rintro e w6 ⟨wy,hp⟩;rcases hp with⟨h7,rfl⟩|⟨o,g,h7,rfl,hgl,hA6,ZB⟩
 ·exact dz rfl rfl (S5.Z.m.grown wy).r (eP.no rfl (by decide) (T5.Z.YJ H6.Z.1 H6.Z.2 h7) (S5.Z.m.grown wy))
 have S6:=ah (S5.Z.grown wy hA6);have R6:=ah (R5.Z.grown wy (λe=>by injection e with e;exact HQ.Z.1 e));have W6:=ah ZB;have HG:Hd (g≠w.heap.size+1/\w.heap.size+2<=g):=⟨by have:=S5.Z.lt;omega,by have:=S5.Z.lt;omega⟩;have T7:=ah (T5.Z.YD H6.Z.1 H6.Z.2 h7);have HT:Hd (∀t,1<=t->t<=(Im.of L n).ni->((Im.of L n).ino t).kind≠0->(Im.of L n).Tree t):=λt h1 h2 hk=>Im.xD h7 h1 h2 hk
 clear S5 R5 O5 wy hgl hA6 ZB h7 H6 HO T5;go_wp2_with fail;refine(wP (w.heap.size+1) b off cap (Im.of L n) HX.Z _ _ _ _ _ q g o w6 ⟨S6.Z.L8 R6.Z,W6.Z⟩).mono ?_;rintro e w7 ⟨hS,wC⟩;have S7:=ah (S6.Z.below wC);have R7:=ah (R6.Z.below wC);have W7:=ah (W6.Z.below wC);clear S6 R6 W6 wC;rcases hS with⟨h8,rfl⟩|⟨h8,rfl⟩
 rotate_left
 ·exact dz rfl rfl S7.Z.m.r (eP.no rfl (by decide) (T7.Z.YI h8) S7.Z.m)
 have H8:=ah h8;clear h8;go_wp2_with fail;refine(A7 (w.heap.size+1) b off cap (Im.of L n) HX.Z HM.Z HT.Z _ _ _ _ q w7 S7.Z.lt.2.2 HQ.Z.1 (S7.Z.L8 R7.Z)).mono ?_;rintro e w8 ⟨Pp,hp⟩;rcases hp with⟨h9,rfl⟩|⟨u,ug,h9,rfl,JN,Z9,ZD⟩
 ·exact dz rfl rfl (S7.Z.m.grown Pp).r (eP.no rfl (by decide) (T7.Z.YH H8.Z h9) (S7.Z.m.grown Pp))
 have S8:=ah (S7.Z.grown Pp Z9);have R8:=ah (R7.Z.grown Pp (λe=>by injection e with e;exact HQ.Z.1 e));have W8:=ah (W7.Z.grown Pp (λe=>by injection e with e;exact HG.Z.1 e));have U8:=ah ZD;have HU:Hd (ug≠w.heap.size+1):=by show _≠_;have:=S7.Z.lt;omega
 have T9:=ah (T7.Z.YC H8.Z h9);have HB:=ah (Im.B4 HM.Z h9);clear S7 R7 W7 Pp JN Z9 ZD h9 T7 H8 HT;go_wp2_with fail;refine(ze (w.heap.size+1) b off cap (Im.of L n) HX.Z _ _ _ q ug _ u HB.Z w8 S8.Z.lt.2.2 HQ.Z.1 HU.Z (S8.Z.L8 R8.Z) U8.Z).mono ?_;rintro e w9 ⟨LP,hS,hq⟩;rcases hS with⟨h10,rfl⟩|⟨h10,rfl⟩
 rotate_left
 ·exact dz rfl rfl (S8.Z.m.grown LP).r (eP.no rfl (by decide) (T9.Z.Qu h10) (S8.Z.m.grown LP))
 obtain⟨sl,PA⟩:=hq h10;have S9:=ah (S8.Z.grown LP PA);have R9:=ah (R8.Z.grown LP (λe=>by injection e with e;exact HQ.Z.1 e));have W9:=ah (W8.Z.grown LP (λe=>by injection e with e;exact HG.Z.1 e));have U9:=ah (U8.Z.grown S8.Z.a HU.Z LP);have Ld:=ah h10;clear S8 R8 W8 U8 LP PA h10 hq;go_wp2_with fail;refine(tw (w.heap.size+1) b off cap (Im.of L n) HX.Z _ _ _ _ q ug _ u HB.Z w9 S9.Z.a.lt S9.Z.lt.2.1 R9.Z.lt HU.Z (S9.Z.L8 R9.Z) U9.Z).mono ?_;rintro e pL ⟨yL,hS⟩;have KV:=ah (S9.Z.below yL);have XK:=ah (R9.Z.below yL);have W10:=ah (W9.Z.below yL);clear S9 R9 W9 U9 yL;rcases hS with⟨h11,rfl⟩|⟨h11,rfl⟩
 rotate_left
 ·exact dz rfl rfl KV.Z.m.r (eP.no rfl (by decide) (T9.Z.Qt Ld.Z h11) KV.Z.m)
 have O3:=ah h11;clear h11;go_wp2_with fail;refine(wN (w.heap.size+1) b off cap dc (Im.of L n) HX.Z _ _ _ _ q db 0 pL KV.Z.a.lt KV.Z.lt.2.1 XK.Z.lt KV.Z.dl.2 (KV.Z.L8 XK.Z) KV.Z.d).mono ?_;rintro e H7 ⟨hS,N3⟩;have Mf:=ah (KV.Z.below N3);have W11:=ah (W10.Z.below N3);clear KV XK W10 N3;rcases hS with⟨h12,rfl⟩|⟨h12,rfl⟩
 rotate_left
 ·exact dz rfl rfl Mf.Z.m.r (eP.no rfl (by decide) (T9.Z.Qs Ld.Z O3.Z h12) Mf.Z.m)
 have HE:Hd ((Im.of L n).aV=(0,o)):=T9.Z.yes Ld.Z O3.Z h12;have hc:=Mf.Z.m.r.cell (i:=0) (v:=.int .i64 0) rfl;have hz':=an Mf.Z.m.r 0;have ho:=az.setCell H7 ⟨w.heap.size,0,none⟩ (.int .i64 0);have HP:Hd (eP w (.slice (some ⟨b,off,none⟩) n cap) n L (.returned (.tuple #[.pointer (some ⟨w.heap.size+1,0,none⟩),.int .i64 0])) (H7.setCell ⟨w.heap.size,0,none⟩ (.int .i64 0))):=by
  refine⟨w.heap.size+1,by rw[HE.Z];rfl,Mf.Z.m.bel.trans (ho.below af),λ_=>⟨HX.Z,_,_,_,_,_,g,Mf.Z.a.only ho (by show w.heap.size+1≠w.heap.size;omega),?_,by have:=HG.Z.2;omega,Ne.symm HG.Z.1⟩⟩;rw[HE.Z];exact W11.Z.only ho (by show g≠w.heap.size;have:=HG.Z.2;omega)
 have hR:=(Mf.Z.m.r.setCell 0 (.int .i64 0)).cell (i:=0) (v:=.int .i64 0) rfl;clear Mf W11 h12 Ld O3 T9 HB HU HG HQ HX HM K8 ho;go_wp2_with fail;exact Kj rfl rfl hR HP.Z
theorem gH(v:Value)(n:Nat)(L:Nat->Nat->Int)(hL:∀i,bu (L i))(gi:n<=4294967296)(w:World)(hT:Tab w)(hv:xq w v n L):
  Calls Tryz.prog 37 #[v] w λe w'=>eP w v n L e w':=by
 obtain⟨a,cap,rfl,h⟩:=hv
 by_cases hn:0<n
 ·obtain⟨b,off,rfl,hb,hs⟩:=h hn
  exact tz b off n cap L hL hn gi w hT hb hs
 obtain rfl:n=0:=by omega
 refine(sy a cap L w).mono ?_;rintro e w' ⟨⟨p,rfl⟩,hb⟩;have h1:(Im.of L 0).aV=(1,λ_=>0):=Im.so (by unfold Im.sS;rfl);exact⟨p,by rw[h1];rfl,hb,λe=>by rw[h1] at e;cases e⟩
end Go.Proofs.YtphamecphmbipaaGreatDoor
