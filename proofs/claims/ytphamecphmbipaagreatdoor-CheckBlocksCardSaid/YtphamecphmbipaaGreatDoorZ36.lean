/- Texts of this claim, merged. -/
import Derived.Test.YtphamecphmbipaaGreatDoorZ30
set_option linter.unusedVariables false
set_option maxRecDepth 100000
set_option maxHeartbeats 16000000

namespace Go.Proofs.YtphamecphmbipaaGreatDoor
open Go.RowKit
variable {P:Nat->Bool} {a:Option Addr} {cap t p off q db eD G:Nat} {w W':World} {x:Im} {v:Int}
def jI(v:Nat):Nat:=(v.testBit 0).toNat+(v.testBit 1).toNat+(v.testBit 2).toNat+(v.testBit 3).toNat+(v.testBit 4).toNat+(v.testBit 5).toNat+(v.testBit 6).toNat+(v.testBit 7).toNat
theorem iq:∀a b c d e f g h:Bool,jI (b8 a b c d e f g h)=a.toNat+b.toNat+c.toNat+d.toNat+e.toNat+f.toNat+g.toNat+h.toNat:=by decide
theorem ek(P:Nat->Bool)(n:Nat):aL P (n+1)=aL P n+(P n).toNat:=by
 rw[aL];cases P n<;>rfl
theorem A2(P:Nat->Bool)(k:Nat):aL P (8*(k+1))=aL P (8*k)+jI (uO P k):=by
 unfold uO;rw[iq,show 8*(k+1)=8*k+1+1+1+1+1+1+1+1 by omega];simp only[ek,Nat.add_assoc,Nat.reduceAdd]
theorem DY{n:Nat}(h:∀i,i<n->P i=false):aL P n=0:=ly (u:=0) (Nat.zero_le _) λk hk=>by rw[h k hk];simp
theorem KM:∀a b c d e f g h:Bool,b8 a b c d e f g h&&&0=b8 false false false false false false false false:=by decide
theorem KL:∀a b c d e f g h:Bool,b8 a b c d e f g h&&&1=b8 a false false false false false false false:=by decide
theorem KK:∀a b c d e f g h:Bool,b8 a b c d e f g h&&&3=b8 a b false false false false false false:=by decide
theorem KJ:∀a b c d e f g h:Bool,b8 a b c d e f g h&&&7=b8 a b c false false false false false:=by decide
theorem KI:∀a b c d e f g h:Bool,b8 a b c d e f g h&&&15=b8 a b c d false false false false:=by decide
theorem KH:∀a b c d e f g h:Bool,b8 a b c d e f g h&&&31=b8 a b c d e false false false:=by decide
theorem KG:∀a b c d e f g h:Bool,b8 a b c d e f g h&&&63=b8 a b c d e f false false:=by decide
theorem KF:∀a b c d e f g h:Bool,b8 a b c d e f g h&&&127=b8 a b c d e f g false:=by decide
theorem DZ(P:Nat->Bool)(k j:Nat)(hj:j<8):aL P (8*k+j)=aL P (8*k)+jI (uO P k&&&(2^j-1)):=by
 unfold uO;have:j=0\/j=1\/j=2\/j=3\/j=4\/j=5\/j=6\/j=7:=by omega
 rcases this with rfl|rfl|rfl|rfl|rfl|rfl|rfl|rfl
 ·rw[show 2^0-1=0 from rfl,KM,iq];simp
 ·rw[show 2^1-1=1 from rfl,KL,iq];simp[ek]
 ·rw[show 2^2-1=3 from rfl,KK,iq,show 8*k+2=8*k+1+1 by omega];simp only[ek,Nat.add_assoc,Nat.reduceAdd,Bool.toNat_false,Nat.add_zero]
 ·rw[show 2^3-1=7 from rfl,KJ,iq,show 8*k+3=8*k+1+1+1 by omega];simp only[ek,Nat.add_assoc,Nat.reduceAdd,Bool.toNat_false,Nat.add_zero]
 ·rw[show 2^4-1=15 from rfl,KI,iq,show 8*k+4=8*k+1+1+1+1 by omega];simp only[ek,Nat.add_assoc,Nat.reduceAdd,Bool.toNat_false,Nat.add_zero]
 ·rw[show 2^5-1=31 from rfl,KH,iq,show 8*k+5=8*k+1+1+1+1+1 by omega];simp only[ek,Nat.add_assoc,Nat.reduceAdd,Bool.toNat_false,Nat.add_zero]
 ·rw[show 2^6-1=63 from rfl,KG,iq,show 8*k+6=8*k+1+1+1+1+1+1 by omega];simp only[ek,Nat.add_assoc,Nat.reduceAdd,Bool.toNat_false,Nat.add_zero]
 rw[show 2^7-1=127 from rfl,KF,iq,show 8*k+7=8*k+1+1+1+1+1+1+1 by omega];simp only[ek,Nat.add_assoc,Nat.reduceAdd,Bool.toNat_false,Nat.add_zero]
theorem yl(v:Nat)(hv:v<256)(w:World):Calls Tryz.prog 159 #[.int .u8 (v:Int)] w λe w'=>e= .returned (.int .i64 ((jI v:Nat):Int))/\w=w':=by
 have h0:(0:Int)<=(v:Int):=by omega
 have h1:(v:Int)<256:=by omega
 go_enter Tryz.func159,Tryz.ntmps159;go_wp2_with fail;go_ret;refine⟨congrArg (λz=>Ending.returned (Value.int .i64 z)) ?_,rfl⟩;show wrap64 _=_;rw[<-getElem!_pos];have key:∀T:ByteArray,(List.range 256).all (λv=>decide (wrap64 ((T[v]!.toNat:Nat):Int)=((jI v:Nat):Int)))=true->∀v,v<256->wrap64 ((T[v]!.toNat:Nat):Int)=((jI v:Nat):Int):=λT h v hv=>of_decide_eq_true (List.all_eq_true.1 h v (List.mem_range.2 hv))
 exact key _ (by kernel_rfl) v hv
theorem KD{n:Nat}(h:mr (bZ P) (λ_=>0) 256=true)(hn:n<=2048):aL P n=0:=by
 refine DY λi hi=> ?_
 have h1:=(jg _ _ _).1 h (i/8) (by omega);have h2:=Ce P (i/8) (i%8) (Nat.mod_lt _ (by decide));have h3:uO P (i/8)=0:=by unfold bZ at h1;omega
 rw[h3,show 8*(i/8)+i%8=i by omega,Nat.zero_and] at h2;have hp:0<2^(i%8):=Nat.two_pow_pos _;cases hP:P i with
 |false=>rfl
 |true=>rw[hP] at h2;simp at h2;omega
theorem iw(P:Nat->Bool)(n:Nat):aL P n<=n:=eT P n
theorem qZ(g k:Nat)(L:Int)(hL:L=(k:Int))(h3:k<=256)(W:World):
  (Instr.sliceAt 32 (.pointer (some ⟨g,0,none⟩)) none (some (.int .i64 L)) none).run Tryz.prog W= .ok (.slice (some ⟨g,0,none⟩) k 256) W:=by
 subst hL;have hal:Tryz.prog.arrayLen 32=256:=by kernel_rfl
 have hsz:∀W,(Go.sizeOf (Tryz.prog.elem 32)).run Tryz.prog W= .ok 1 W:=λW=>by kernel_rfl
 rw[run_sliceAt_array_h W 32 _ (by kernel_rfl) .i64 (k:Int) (by omega) (by rw[hal];omega),hsz,hal];simp only[Result.andThen,slicedAt,Int.toNat_natCast,Nat.mul_one]
 rfl
theorem FL(v:Nat):jI v<=8:=by
 have h:∀b:Bool,b.toNat<=1:=by decide
 unfold jI;have:=h (v.testBit 0);have:=h (v.testBit 1);have:=h (v.testBit 2);have:=h (v.testBit 3);have:=h (v.testBit 4);have:=h (v.testBit 5);have:=h (v.testBit 6);have:=h (v.testBit 7);omega
theorem wU(P:Nat->Bool)(n:Nat)(hn:n<=2048)(w:World):
  Calls Tryz.prog 134 #[aR (bZ P),.int .i64 (n:Int)] w λe w'=>e= .returned (.int .i64 ((aL P n:Nat):Int))/\Below w.heap.size w w':=by
 have ST:Hd (EE w P (w.alloc (.cells (Ks .u8 256 (bZ P)).toArray 32))):=⟨aU.new w _ _ _,ag.alloc af _⟩;have m2:min (n:Int) 2048=(n:Int):=by omega
 have m3:max (n:Int) 0=(n:Int):=by omega
 have h0:(n:Int).tdiv 8=((n/8:Nat):Int):=by rw[Int.tdiv_eq_ediv_of_nonneg (by omega)];omega
 have h1:(n:Int).tmod 8=((n%8:Nat):Int):=by rw[Int.tmod_eq_emod_of_nonneg (by omega)];omega
 by_cases hn0:n=0
 ·have q0:((n:Int)==0)=true:=by simp[hn0]
  have HN0:=ah hn0;clear hn0 m3;have m3:max (n:Int) 0=(n:Int):=by omega
  go_enter Tryz.func134,Tryz.ntmps134;go_wp2_with fail;go_ret;exact⟨by rw[HN0.Z];rfl,ST.Z.bel⟩
 have q0:((n:Int)==0)=false:=by simp;omega
 have hz0:=cW;have tl:∀W,(binOp .eql 32 (aR (bZ P)) (aR λ_=>0)).run Tryz.prog W= .ok (.bool (mr (bZ P) (λ_=>0) 256)) W:=λW=>tg _ _ W
 have hB:=ST.Z.b;obtain⟨c,hc⟩:=aa (mr (bZ P) (λ_=>0) 256);rw[<-hc] at tl;have HC:=ah hc;clear hc hn0;obtain⟨m,hm⟩:=aa (n/8);have Pn:m<=256:=by omega
 have hsl:=λW=>qZ w.heap.size m ((n:Int)/8) (by omega) Pn W
 cases c with
 |true=>
  go_enter Tryz.func134,Tryz.ntmps134;go_wp2_with (first|(refine de rfl (.tmp 2) rfl w.heap.size (bZ P) rfl hB ?_))
  go_ret;exact⟨by rw[KD HC.Z.symm hn];rfl,ST.Z.bel⟩
 |false=>
  go_enter Tryz.func134,Tryz.ntmps134;go_wp2_with (first|(refine de rfl (.tmp 2) rfl w.heap.size (bZ P) rfl hB ?_))
  clear hB tl hz0;go_loopw [5,22] (λv u wr=>∃k:Nat,k<=m/\u= .int .i64 (k:Int)/\v= .int .i64 ((aL P (8*k):Nat):Int)/\EE w P wr) (λ_ u _=>m-(intOf u).toNat)
  case atStart=>exact⟨0,Nat.zero_le _,rfl,rfl,ST.Z⟩
  clear ST;obtain⟨k,hk,rfl,rfl,st⟩:=hrel;have ST:=ah st;clear st
  by_cases hkm:k<m
  ·have hk':(k:Int)<(m:Int):=by omega
   have k0:(0:Int)<=(k:Int):=by omega
   have hc:wr.cell? ⟨w.heap.size,k,none⟩=some (.int .u8 ((uO P k:Nat):Int)):=by have:=ST.Z.b.bQ k (by omega);rwa[Nat.zero_add] at this
   obtain⟨v,hv⟩:=aa (uO P k);have Y4:v<256:=by rw[hv];exact oX P k
   obtain⟨a,ha⟩:=aa (aL P (8*k));have Rz:a<=2048:=by have:=iw P (8*k);omega
   have hnx:aL P (8*(k+1))=a+jI v:=by rw[A2,ha,hv]
   have pJ:=ah hnx;rw[<-hv] at hc;rw[<-ha];clear hv ha hnx;have gQ:=FL v;have HO:Hd (∀W,Calls Tryz.prog 159 #[.int .u8 (v:Int)] W λe w'=>e= .returned (.int .i64 ((jI v:Nat):Int))/\W=w'):=λW=>yl v Y4 W
   generalize jI v=o at*;go_wp2_with fail;refine(HO.Z _).mono ?_;rintro e w1 ⟨rfl,rfl⟩;go_wp2_with fail;go_roundw
   case rel=>(try((repeat apply Exists.intro);refine⟨?_,rfl⟩));exact⟨k+1,by omega,by first|rfl|go_num,by rw[pJ.Z];first|rfl|go_num,ST.Z⟩
   simp[intOf]<;>omega
  obtain rfl:k=m:=by omega
  have hpt:=DZ P k (n%8) (Nat.mod_lt _ (by decide));rw[show 8*k+n%8=n by omega] at hpt;have zu:=ah hpt;obtain⟨r,hr⟩:=aa (n%8);have hcb:=iw P n;have Rv:=iw P (8*k);rw[<-hr] at h1 hpt zu;have h1e:(n:Int)%8=(r:Int):=by omega
  by_cases BS:r=0
  ·have HN:Hd (aL P n=aL P (8*k)):=by show _=_;rw[show n=8*k by omega]
   have q1:((r:Int) !=0)=false:=by simp[BS]
   clear hpt zu BS hr;go_wp2_with fail;go_ret;exact⟨by rw[HN.Z];rfl,ST.Z.bel⟩
  have q1:((r:Int) !=0)=true:=by simp;omega
  have hM:(2:Nat)^r-1<256:=by have:=vK n;rw[<-hr] at this;omega
  have hA:bits .and .u8 ((uO P k:Nat):Int) ((2^r-1:Nat):Int)=((uO P k&&&(2^r-1):Nat):Int):=u8_and_nat _ _ (oX _ _) hM;have hp1:0<(2:Nat)^r:=Nat.two_pow_pos _;have hp2:(2:Nat)^r<256:=by have:=vK n;rwa[<-hr] at this
  have PX:Hd (∀W,Calls Tryz.prog 46 #[.int .i64 (n:Int)] W λe w'=>e= .returned (.int .u8 ((2^r:Nat):Int))/\W=w'):=λW=>by rw[hr];exact lA n (by omega) W
  have hS:(((2^r:Nat):Int)-1)=((2^r-1:Nat):Int):=by omega
  obtain⟨V,hV⟩:=aa (uO P k&&&(2^r-1));have hV9:V<256:=by rw[hV];exact Nat.lt_of_le_of_lt Nat.and_le_left (oX P k)
  rw[<-hV] at hA hpt;have HO:Hd (∀W,Calls Tryz.prog 159 #[.int .u8 (V:Int)] W λe w'=>e= .returned (.int .i64 ((jI V:Nat):Int))/\W=w'):=λW=>yl V hV9 W
  have zu:=ah hpt;obtain⟨a,ha⟩:=aa (aL P (8*k));rw[<-ha] at Rv zu hpt ⊢;have TC:k<256:=by omega
  have Hl:Hd (∀W,EE w P W->W.cell? ⟨w.heap.size,k,none⟩=some (.int .u8 ((uO P k:Nat):Int))):=λW h=>by have:=h.b.bQ k TC;rwa[Nat.zero_add] at this
  obtain⟨B,hB⟩:=aa (uO P k);rw[<-hB] at hA Hl;obtain⟨M,ZR⟩:=aa ((2:Nat)^r);rw[<-ZR] at hA PX hS hp1 hp2;generalize jI V=o at*;have hao:a+o<=2048:=by omega
  have Mw:=ah hA;have HS:=ah hS;clear hpt hr BS hV ha hA hB ZR hM hS hcb Rv;have h0':(n:Int)/8=(k:Int):=by omega
  have k0:(0:Int)<=(k:Int):=by omega
  have acF:(k:Int)<256:=by omega
  rw[<-hm] at h0 ⊢;clear hm;go_wp2_with fail;refine ar (EE w P) ⟨ST.Z.b,ST.Z.bel.drew⟩ ?_;clear ST;intro hne;have hc:∀y:a9 (EE w P),y.W.cell? ⟨w.heap.size,k,none⟩=some (.int .u8 (B:Int)):=λy=>Hl.Z _ y.h
  repeat go_big_quiet_step (fail)
  go_big_quiet_want
  go_big_quiet_op
  refine⟨_,λs=>aN s (λW hW=>(PX.Z W).mono λe w' h=>⟨h.1,h.2▸hW⟩),?_⟩
  go_big_quiet_on
  have hA:=Mw.Z;have hS:=HS.Z
  repeat go_big_quiet_step (fail)
  go_big_quiet_want
  go_big_quiet_op
  refine⟨_,λs=>aN s (λW hW=>(HO.Z W).mono λe w' h=>⟨h.1,h.2▸hW⟩),?_⟩
  go_big_quiet_on
  repeat go_big_quiet_step (fail)
  refine wpQuiet_nil ?_;intro w5 h5;have eC:=h5.Z;clear h5 hne hc hA hS;go_wp2_with fail;go_ret;exact⟨by rw[zu.Z];rfl,eC.bel⟩
theorem au.ahead{W:World}{base:Nat}{e:TypeId}{m:Nat}{n:Nat}{f:Nat->List Value}(h:au W base e m (.slice a n cap) n f)(hf:∀i,(f i).length=m){k:Nat}(hk:k<=n):au W base e m (.slice a k cap) k f:=by
 refine⟨di hf k,?_⟩;rcases h.2 with⟨hv,h0⟩|⟨g,cap',cur,hv,hb,hg,hn,hc,hs,ht⟩
 ·injection hv with h1 h2 h3
  have ku:k=0:=by omega
  subst h1 h3 ku;exact .inl ⟨rfl,rfl⟩
 injection hv with h1 h2 h3
 subst h1 h3;refine .inr ⟨g,cap,cur,rfl,hb,hg,by omega,hc,hs,?_⟩;have h1:k*m<=n*m:=Nat.mul_le_mul_right m hk;have h2:cur.toList.take (k*m)=(Cs f n).take (k*m):=by rw[<-ht,List.take_take,Nat.min_eq_left h1]
 rw[h2];have h3:Cs f n=Cs f k++Cs (λi=>f (k+i)) (n-k):=by rw[xg];congr 1;omega
 rw[h3,List.take_left' (di hf k)]
def YQ:Value->Nat
 | .slice _ n _=>n
 |_=>0
structure uX(w:World)(p b off:Nat)(x:Im)(cs:Array Value)(q g:Nat)(c:Nat->Bool)(is:List Nat)(v:Value)(W:World):Prop where
 s:jz w p b off x cs q W
 c:aE W g 3 1 (x.ni+1) (Ie c)
 r:au W (g+1) 3 1 v is.length (iA is)
 bel:Below w.heap.size w W
section
variable {w:World} {p b off:Nat} {x:Im} {cs:Array Value} {q g:Nat} {c:Nat->Bool} {is:List Nat} {v:Value} {W W':World}
theorem uX.below(h:uX w p b off x cs q g c is v W)(hb:Below W.heap.size W W'):uX w p b off x cs q g c is v W':=
 ⟨h.s.below hb,h.c.below hb,au.below h.r hb,h.bel.trans (hb.mono h.bel.size)⟩
theorem uX.mark(h:uX w p b off x cs q g c is v W)(ht:t<x.ni+1)(h1:p≠g)(h2:b≠g)(h3:q≠g)(h4:w.heap.size<=g):uX w p b off x cs q g (ak c t true) is v (W.setCell ⟨g,t,none⟩ (.int .i64 1)):=by
 have ho:az g W (W.setCell ⟨g,t,none⟩ (.int .i64 1)):=az.setCell W ⟨g,t,none⟩ _;have hm:=My.mark (w:=w) (p:=p) (b:=b) (off:=off) (x:=x) (cs:=cs) (q:=q) (g:=g) (m:=c) (W:=W) ⟨h.s,h.c⟩ ht h1 h2 h3 h4;exact⟨hm.s,hm.o,fm h.r ho (λe=>by have:=(World.ownsRow.lt h.r g e).1;omega),h.bel.trans ((ho.below af).mono h4)⟩
theorem uX.pop(h:uX w p b off x cs q g c (is++[t]) (.slice a (is.length+1) cap) W):uX w p b off x cs q g c is (.slice a is.length cap) W:=by
 refine⟨h.s,h.c,?_,h.bel⟩;have h1:=h.r;rw[List.length_append] at h1;exact au.congr (au.ahead h1 (ql _) (Nat.le_succ _)) λi hi=>(qm is t i hi).symm
theorem uX.app(h:uX w p b off x cs q g c is v W)(hp:p<w.heap.size)(hb:b<w.heap.size)(hq:q<w.heap.size)(kv:w.heap.size<=g){v':Value}{d:Nat}(hg:W.grownBy W' v.ownBlock)(ho:W'.ownsRow (g+1) 3 1 v' (is.length+1) (Cs (iA is) is.length++[.int .i64 (d:Int)])):uX w p b off x cs q g c (is++[d]) v' W':=by
 have lR:∀r,v.ownBlock=some r->g+1<=r:=λr e=>(World.ownsRow.lt h.r r e).1
 refine⟨h.s.new hp hb hq hg (λr e=>by have:=lR r e;omega),h.c.grown hg (λe=>by have:=lR _ e.symm;omega),?_,h.bel.grown hg h.bel.size (λr e=>by have:=lR r e;omega)⟩;rw[List.length_append];show au W' (g+1) 3 1 v' (is.length+1) (iA (is++[d]));refine au.append (f:=iA (is++[d])) (news:=[.int .i64 (d:Int)]) ?_ ?_
 ·rw[<-iS λk hk=>qm is d k hk];exact ho
 show _=Cs _ 1;rw[od];show _=[]++iA (is++[d]) (is.length+0);rw[Nat.add_zero,qk];rfl
end
def lV(w:World)(x:Im)(u:Nat->List Nat)(e:Ending)(w':World):Prop:=
 Below w.heap.size w w'/\pT (aK (x.jt (x.reach u)) (x.ni+1)) 11 e
theorem lV.no{u:Nat->List Nat}{w':World}(h:aK (x.jt (x.reach u)) (x.ni+1)=false)(hg:Below w.heap.size w w'):lV w x u (.panicked (sB 11)) w':=⟨hg,.inr ⟨h,rfl⟩⟩
theorem tw(p b off cap:Nat)(x:Im)(hx:x.Ok)(ds ay own sl:Value)(q ug base:Nat)(u:Nat->List Nat)(hU:∀t,(∀d∈u t,d<=x.ni)/\(u t).length<=600000)(w:World)(hpw:p<w.heap.size)(r6:b<w.heap.size)(AN:q<w.heap.size)(hup:ug≠p)
  (h:jz w p b off x (XC b off cap x ds (.slice (some ⟨q,0,none⟩) (x.ni+1) (x.ni+1)) ay own sl (.slice (some ⟨ug,0,none⟩) (x.ni+1) (x.ni+1))) q w) (hu:sU w base ug (x.ni+1) u):
  Calls Tryz.prog 85 #[.pointer (some ⟨p,0,none⟩)] w λe w'=>lV w x u e w':=by
 have HX:=ah hx;have hni:x.ni<=256:=eX hx.may;have adk:1<=x.ni:=Nat.mul_pos (by have:=(dX hx.may).1;omega) (by have:=dX hx.may;omega);have c11:w.cell? ⟨p,11,none⟩=some (.slice (some ⟨q,0,none⟩) (x.ni+1) (x.ni+1)):=h.a.cell (i:=11) rfl;obtain⟨g,hg⟩:=aa w.heap.size;have oR:p≠g:=by omega
 have hbg:b≠g:=by omega
 have BT:q≠g:=by omega
 have hmk:(Instr.makeSlice 37 (.int .i64 ((x.ni:Int)+1)) (.int .i64 ((x.ni:Int)+1))).run Tryz.prog w= .ok (.slice (some ⟨g,0,none⟩) (x.ni+1) (x.ni+1)) (w.alloc (.cells (madeCells #[.int .i64 0] ((x.ni+1)*1)) 3)):=by
  rw[hg];exact jW (x.ni+1) (by omega) w
 obtain⟨W1,hW1⟩:=aa (w.alloc (.cells (madeCells #[.int .i64 0] ((x.ni+1)*1)) 3));have hb1:Below w.heap.size w W1:=by rw[hW1];exact ag.alloc af _
 have hsz1:W1.heap.size=g+1:=by rw[hW1,hg];simp
 have hr1:aE W1 g 3 1 (x.ni+1) (Ie λ_=>false):=by
  rw[hW1,hg];exact(aE.made (m:=1) w #[.int .i64 0] rfl (by omega) (x.ni+1) _)
 have kv:w.heap.size<=g:=by omega
 have bh:uX w p b off x (XC b off cap x ds (.slice (some ⟨q,0,none⟩) (x.ni+1) (x.ni+1)) ay own sl (.slice (some ⟨ug,0,none⟩) (x.ni+1) (x.ni+1))) q g (ak (λ_=>false) 1 true) [] (.slice none 0 0) (W1.setCell ⟨g,1,none⟩ (.int .i64 1)):=
  uX.mark ⟨h.below hb1,hr1,au.nil _ _ _ _ _,hb1⟩ (by omega) oR hbg BT kv
 have c1:=hr1.j8 (show 1<x.ni+1 by omega) (v:=.int .i64 0) rfl;have f1:=hr1.soft 1;obtain⟨W2,hW2⟩:=aa (W1.setCell ⟨g,1,none⟩ (.int .i64 1));rw[<-hW2] at bh;have gT:W2.heap.size=g+1:=by rw[hW2,<-hsz1];simp
 have hW3:Below W2.heap.size W2 (W2.alloc (.cells #[.int .i64 1] 3)):=ag.alloc af _;have bW:Hd (uX w p b off x (XC b off cap x ds (.slice (some ⟨q,0,none⟩) (x.ni+1) (x.ni+1)) ay own sl (.slice (some ⟨ug,0,none⟩) (x.ni+1) (x.ni+1))) q g (ak (λ_=>false) 1 true) [1] (.slice (some ⟨W1.heap.size,0,none⟩) 1 1) (W2.alloc (.cells #[.int .i64 1] 3))):=by
  rw[show W1.heap.size=W2.heap.size by omega];have h1:=bh.below hW3;exact⟨h1.s,h1.c,⟨rfl,.inr ⟨_,1,#[.int .i64 1],rfl,by omega,heap_alloc_new W2 _,by decide,by unfold maxLen;omega,rfl,rfl⟩⟩,h1.bel⟩
 obtain⟨ua,uc,QP⟩:=hu.iU h.a hup;have SA:=ah QP;clear QP;rw[<-hW1] at hmk;obtain⟨cs,hcs⟩:=aa (XC b off cap x ds (.slice (some ⟨q,0,none⟩) (x.ni+1) (x.ni+1)) ay own sl (.slice (some ⟨ug,0,none⟩) (x.ni+1) (x.ni+1)));have gA:Hd (∀W,At W p 105 cs->W.cell? ⟨p,11,none⟩=some (.slice (some ⟨q,0,none⟩) (x.ni+1) (x.ni+1))/\W.cell? ⟨p,15,none⟩=some (.slice (some ⟨ug,0,none⟩) (x.ni+1) (x.ni+1))):=λW h=>by
  rw[hcs] at h;exact⟨h.cell (i:=11) rfl,h.cell (i:=15) rfl⟩
 rw[<-hcs] at bW;have sV:=ah kv;have HU:=ah hU;clear h bh hb1 hr1 hW1 hx kv hcs hg hu hU hsz1 gT hW3;go_enter Tryz.func85,Tryz.ntmps85;go_wp2_with fail;rw[<-hW2];go_wp2_with fail;clear c11 hmk c1 f1 hW2;go_loopw [3] (λv wr=>∃(f:Nat) (c:Nat->Bool) (is:List Nat) (a:Option Addr) (cap:Nat),v= .slice a is.length cap/\x.oJ u f (c,is.reverse)=x.reach u/\aL c (x.ni+1)+f=x.ni+2+is.length/\f<=x.ni+2/\(∀t∈is,t<x.ni+1)/\uX w p b off x cs q g c is v wr) (λv wr=>Pb wr g (x.ni+1)+YQ v)
 case atStart=>exact⟨x.ni+2,_,[1],_,_,rfl,rfl,by rw[fY (by omega) rfl,ly (u:=0) (Nat.zero_le _) (λk _=>by simp)];simp;omega,Nat.le_refl _,λt h=>by simp at h;omega,bW.Z⟩
 clear bW;obtain⟨f,c,is,a,cap',rfl,DJ,hcn,NR,hlt,st⟩:=hrel;have hcl:=eT c (x.ni+1);obtain⟨f,rfl⟩:∃f',f=f'+1:=⟨f-1,by omega⟩;rcases List.eq_nil_or_concat is with rfl|⟨is,t,rfl⟩
 ·have HP:Hd (x.reach u=c):=DJ.symm
  have ST:=ah st;clear DJ hcn hcl hlt NR st;obtain⟨c11,c15⟩:=gA.Z _ ST.Z.s.a;go_wp2_with fail;clear c11 c15;go_loopw [72] (λv wr=>∃k:Nat,k<=x.ni+1/\v= .int .i64 (k:Int)/\(∀t,t<k->x.jt c t=true)/\uX w p b off x cs q g c [] (.slice a 0 cap') wr) (λv _=>x.ni+1-(intOf v).toNat)
  case atStart=>exact⟨0,Nat.zero_le _,rfl,λt h=>by omega,ST.Z⟩
  clear ST;obtain⟨k,hk,rfl,hP,st⟩:=hrel;have lW:=ah hP;have ST:=ah st;clear hP st;obtain⟨c11,c15⟩:=gA.Z _ ST.Z.s.a
  by_cases hkn:k<x.ni+1
  ·have hlt':(k:Int)<(x.ni:Int)+1:=by omega
   have k0:(0:Int)<=(k:Int):=by omega
   have cK:wr.cell? ⟨q,k*16,none⟩=some (.int .u8 (x.ino k).kind):=ST.Z.s.ino (t:=k) hkn 0 rfl;have cC:=ST.Z.c.j8 hkn (v:=.int .i64 (if c k then 1 else 0)) rfl;have iT:Hd (x.jt c k=((x.ino k).kind !=2||c k)):=rfl;have cY:Hd (x.jt c k=false->∀W',Below w.heap.size w W'->lV w x u (.panicked (sB 11)) W'):=λh W' hg=> .no (by rw[HP.Z];exact bR (p:=x.jt c) hkn h) hg
   have zC:Hd (x.jt c k=true->∀t,t<k+1->x.jt c t=true):=λhc t ht=>by
    rcases Nat.lt_succ_iff_lt_or_eq.1 ht with h|h
    ·exact lW.Z t h
    rw[h];exact hc
   obtain⟨kd,fV⟩:=aa ((x.ino k).kind);rw[<-fV] at cK iT;clear fV
   by_cases h2:kd=2
   ·cases mO:c k with
    |true=>
     have q2:(kd !=2)=false:=by simp[h2]
     rw[mO,if_pos rfl] at cC;have HF:=ah (zC.Z (by rw[iT.Z,mO];simp));clear mO h2;go_wp2_with fail;refine(gN 11 _).mono ?_;rintro e w3 ⟨rfl,rfl⟩;go_wp2_with fail;go_roundw
     case rel=>(try((repeat apply Exists.intro);refine⟨?_,rfl⟩));exact⟨k+1,by omega,by first|rfl|go_num,HF.Z,ST.Z⟩
     simp[intOf]<;>omega
    |false=>
     have q2:(kd !=2)=false:=by simp[h2]
     rw[mO,if_neg (by decide)] at cC;have HF:=ah (cY.Z (by rw[iT.Z,mO,q2];rfl));clear mO h2;go_wp2_with fail;refine(ir 11 _).mono ?_;rintro e w3 ⟨rfl,rfl⟩;exact⟨rfl,HF.Z _ ST.Z.bel⟩
   have q2:(kd !=2)=true:=by simp[h2]
   have HF:=ah (zC.Z (by rw[iT.Z,q2];rfl));clear cC h2;go_wp2_with fail;refine(gN 11 _).mono ?_;rintro e w3 ⟨rfl,rfl⟩;go_wp2_with fail;go_roundw
   case rel=>(try((repeat apply Exists.intro);refine⟨?_,rfl⟩));exact⟨k+1,by omega,by first|rfl|go_num,HF.Z,ST.Z⟩
   simp[intOf]<;>omega
  obtain rfl:k=x.ni+1:=by omega
  go_wp2_with fail;refine bodyPost_end (results_none rfl _ _ _) rfl ⟨ST.Z.bel,.inl ⟨(aY _ _).2 (by rw[HP.Z];exact lW.Z),rfl⟩⟩
 rw[List.concat_eq_append,List.length_append] at hcn;rw[List.concat_eq_append] at DJ hlt st ⊢;rw[List.length_append] at st ⊢;rw[List.reverse_append] at DJ;have htn:t<x.ni+1:=hlt t (by simp);have Bl:Hd (∀t∈is,t<x.ni+1):=λd hd=>hlt d (by simp[hd])
 obtain⟨m,hm⟩:=aa is.length;have HPO:Hd (x.oJ u f ((u t).foldl x.eM (c,is.reverse))=x.reach u):=DJ;have Ru:aL c (x.ni+1)+f=x.ni+2+m:=by simp at hcn;omega
 have hzr:=uY st.c;have hown:=st.r;rw[List.length_append] at hown;have hl1:is.length+[t].length=m+1:=by rw[hm];rfl
 rw[hl1] at hown st ⊢;obtain⟨r,cc,e⟩:=rC hown;injection e with e1 e2 e3
 subst e1;subst e3;have hcap:m<=cap':=by
  obtain⟨_,cq,e5,_,_,h5,_⟩:=au.nZ hown (Nat.succ_pos m);injection e5 with _ _ e5
  omega
 have cT:wr.cell? ⟨r,m,none⟩=some (.int .i64 (t:Int)):=by
  have:=au.bQ hown (ql _) m (Nat.lt_succ_self _) 0 (.int .i64 (t:Int)) (by rw[hm,qk];rfl);simpa using this
 have ST:Hd (uX w p b off x cs q g c is (.slice (some ⟨r,0,none⟩) m cap') wr):=by
  have st':=st;rw[hm] at st' ⊢;exact uX.pop st'
 obtain⟨c11,c15⟩:=gA.Z _ ST.Z.s.a;obtain⟨cu,_⟩:=SA.Z _ ST.Z.s.gr t htn;obtain⟨n,hn⟩:=aa ((u t).length);have HN:=ah hn;obtain⟨ra,VA⟩:=aa (ua t);obtain⟨rc,hrc⟩:=aa (uc t);have PU:Hd (∀W,w.grownBy W (some p)->cU W ra 1 n (iA (u t))):=λW hW=>by rw[VA,hn];exact(SA.Z W hW t htn).2
 have hlen:=(HU.Z t).2;rw[<-hn] at hlen;rw[<-hn,<-VA,<-hrc] at cu;have HM:=ah hm;have Pn:m<=257:=by omega
 have m0:(0:Int)<=(m:Int):=by omega
 have m1:(m:Int)<(m:Int)+1:=by omega
 clear hn VA hrc DJ hcn hlt st hown hl1 e2 hm;have ht':(t:Int)<(x.ni:Int)+1:=by omega
 have t0:(0:Int)<=(t:Int):=by omega
 go_wp2_with fail;clear cT c11 c15 cu hcap;have TG:f<=x.ni+2:=by omega
 obtain⟨mm,hmm⟩:=aa (Pb wr g (x.ni+1)+(m+1));have Uj:Hd (mm=f):=by show _=_;omega
 go_loopw [3,39] (λv uu wr=>∃(j:Nat) (c':Nat->Bool) (fP:List Nat) (a:Option Addr) (cap':Nat),j<=n/\uu= .int .i64 (j:Int)/\v= .slice a fP.length cap'/\((u t).take j).foldl x.eM (c,is.reverse)=(c',fP.reverse)/\aL c' (x.ni+1)+f=x.ni+2+fP.length/\(∀t∈fP,t<x.ni+1)/\uX w p b off x cs q g c' fP v wr) (λ_ uu _=>n-(intOf uu).toNat)
 case atStart=>exact⟨0,c,is,_,cap',Nat.zero_le _,rfl,by rw[<-HM.Z],rfl,by rw[<-HM.Z];exact Ru,Bl.Z,by first|exact ST.Z|(rw[<-HM.Z];exact ST.Z)⟩
 clear ST;obtain⟨j,c',fP,a',cap2,hj,rfl,rfl,hfo,DT,kf,st⟩:=hrel;have sM:=ah hfo;have HL:=ah kf;have ST:=ah st;clear hfo kf st
 by_cases hjn:j<n
 ·have hj':(j:Int)<(n:Int):=by omega
  have j0:(0:Int)<=(j:Int):=by omega
  obtain⟨b',off',GB,lQ⟩:∃b' off',ra=some ⟨b',off',none⟩/\aM wr b' off' 1 n (iA (u t)):=by
   rcases PU.Z _ ST.Z.s.gr with h|h
   ·omega
   exact h
  subst GB;obtain⟨d,hd⟩:=aa ((u t).getD j 0);have cd:wr.cell? ⟨b',off'+j,none⟩=some (.int .i64 (d:Int)):=by
   have:=lQ j hjn 0 (.int .i64 (((u t).getD j 0:Nat):Int)) rfl;rw[<-hd,Nat.mul_one,Nat.add_zero] at this;exact this
  have ur:(u t)[j]? =some d:=by
   rw[hd,List.getD_eq_getElem?_getD,List.getElem?_eq_getElem (by rw[<-HN.Z];exact hjn)];rfl
  have mo:d<=x.ni:=(HU.Z t).1 d (List.mem_of_getElem? ur);have DR:d<x.ni+1:=by omega
  have Gv:(d:Int)<(x.ni:Int)+1:=by omega
  have d0:(0:Int)<=(d:Int):=by omega
  obtain⟨c11,c15⟩:=gA.Z _ ST.Z.s.a;have HST:Hd (((u t).take (j+1)).foldl x.eM (c,is.reverse)=if(x.ino d).kind=2/\c' d=false then(ak c' d true,d::fP.reverse) else(c',fP.reverse)):=by
   show _=_;rw[List.take_add_one,ur,List.foldl_append,sM.Z]
   rfl
  have cK:wr.cell? ⟨q,d*16,none⟩=some (.int .u8 (x.ino d).kind):=ST.Z.s.ino (t:=d) DR 0 rfl;have cC:=ST.Z.c.j8 DR (v:=.int .i64 (if c' d then 1 else 0)) rfl;have fC:=ST.Z.c.soft d;obtain⟨kd,fV⟩:=aa ((x.ino d).kind);rw[<-fV] at cK HST;clear fV hd ur lQ;have yG:¬(kd=2/\c' d=false)->Hd (((u t).take (j+1)).foldl x.eM (c,is.reverse)=(c',fP.reverse)):=λh=>by
   show _=_;rw[HST.Z,if_neg h]
  by_cases h2:kd=2
  ·cases mO:c' d with
   |true=>
    have q2:(kd==2)=true:=by simp[h2]
    have HF:=yG (by rw[mO];simp);rw[mO,if_pos rfl] at cC;clear mO h2 fC yG;go_wp2_with fail;go_roundw
    case rel=>(try((repeat apply Exists.intro);refine⟨?_,rfl⟩));exact⟨j+1,c',fP,_,_,by omega,by first|rfl|go_num,rfl,HF.Z,DT,HL.Z,ST.Z⟩
    simp[intOf]<;>omega
   |false=>
    have q2:(kd==2)=true:=by simp[h2]
    have HF:Hd (((u t).take (j+1)).foldl x.eM (c,is.reverse)=(ak c' d true,(fP++[d]).reverse)):=by
     show _=_;rw[HST.Z,if_pos ⟨h2,mO⟩,List.reverse_append];rfl
    rw[mO,if_neg (by decide)] at cC;have zP:Hd (aL (ak c' d true) (x.ni+1)+f=x.ni+2+(fP++[d]).length):=by
     show _=_;rw[fY DR mO,List.length_append];simp;omega
    have ju:Hd (∀t∈fP++[d],t<x.ni+1):=λt ht=>by
     rcases List.mem_append.1 ht with h|h
     ·exact HL.Z t h
     simp at h;omega
    have Sl:=ah (ST.Z.mark (t:=d) DR oR hbg BT sV.Z);have hil:fP.length<=600000:=by have:=eT c' (x.ni+1);omega
    obtain⟨W4,Ps⟩:=aa (wr.setCell ⟨g,d,none⟩ (.int .i64 1));rw[<-Ps] at Sl;obtain⟨i0,hi0,hz0,hz1,hz2⟩:=oO;have hown2:World.ownsRow (W4.alloc (.cells #[.int .i64 (d:Int)] 3)) (g+1) 3 1 (.slice a' fP.length cap2) fP.length (Cs (iA fP) fP.length):=World.ownsRow.alloc Sl.Z.r _;have hnews:∀i u,([.int .i64 (d:Int)]:List Value)[i]? =some u->(W4.alloc (.cells #[.int .i64 (d:Int)] 3)).cell? ((⟨W4.heap.size,0,none⟩:Addr).add i)=some u:=λi u hu=>by
     cases i with
     |zero=>
      injection hu with hu
      subst hu;exact(At.new W4 3 #[.int .i64 (d:Int)]).cell (i:=0) rfl
     |succ i=>cases hu
    have h1c:∀u∈([.int .i64 (d:Int)]:List Value),u.oneCell'=true:=λu hu=>by simp at hu;subst hu;rfl
    have hbase:g+1<=(W4.alloc (.cells #[.int .i64 (d:Int)] 3)).heap.size:=by have:=Sl.Z.c.lt;simp;omega
    have wE:Below W4.heap.size W4 (W4.alloc (.cells #[.int .i64 (d:Int)] 3)):=ag.alloc af _;have n9:=ah (Sl.Z.below wE);clear mO h2 yG ST Sl wE;subst Ps;go_wp2_with (first|(refine er rfl 37 1 0 (.tmp 63) rfl (.int .i64 (d:Int)) rfl _ _ (lJ (d:Int) _) ?_)|(refine wpList_append_own _ rfl (.tmp 62) (.tmp 64) 37 rfl (g+1) 3 i0 (.int .i64 0) 1 8 Tryz.underlying37 hi0 hz0 hz1 hz2 rfl (by decide) (.slice a' fP.length cap2) fP.length _ rfl hown2 ⟨(wr.setCell ⟨g,d,none⟩ (.int .i64 1)).heap.size,0,none⟩ 1 1 [.int .i64 (d:Int)] rfl rfl hnews h1c (by unfold maxLen;omega) (by omega) hbase ?_))
    intro v' Qa rY DP _;have fK:=ah (n9.Z.app hpw r6 AN sV.Z (d:=d) DP rY);obtain⟨ga,gc,rfl⟩:=rC rY;clear n9 hown2 hnews h1c hbase rY DP;go_wp2_with fail;go_roundw
    case rel=>(try((repeat apply Exists.intro);refine⟨?_,rfl⟩));exact⟨j+1,_,fP++[d],_,_,by omega,by first|rfl|go_num,by rw[List.length_append];rfl,HF.Z,zP.Z,ju.Z,fK.Z⟩
    simp[intOf]<;>omega
  have q2:(kd==2)=false:=by simp[h2]
  have HF:=yG (λh=>h2 h.1);clear cC h2 fC yG;go_wp2_with fail;go_roundw
  case rel=>(try((repeat apply Exists.intro);refine⟨?_,rfl⟩));exact⟨j+1,c',fP,_,_,by omega,by first|rfl|go_num,rfl,HF.Z,DT,HL.Z,ST.Z⟩
  simp[intOf]<;>omega
 obtain rfl:j=n:=by omega
 have uU:Hd (x.oJ u f (c',fP.reverse)=x.reach u):=by
  have h1:=sM.Z;rw[HN.Z,List.take_length] at h1;have h2:=HPO.Z;rw[h1] at h2;exact h2
 have hz2:=uY ST.Z.c;go_wp2_with fail;go_roundw
 case rel=>(try((repeat apply Exists.intro);refine⟨?_,rfl⟩));exact⟨f,c',fP,_,_,rfl,uU.Z,DT,TG,HL.Z,ST.Z⟩
 simp[YQ]<;>omega
theorem sD{z:Nat->Int}(hz:bu z)(I:Int)(i:Nat)(h0:I=(i:Int))(hi:i<=2048)(w:World):
  Calls Tryz.prog 134 #[aR z,.int .i64 I] w λe w'=>e= .returned (.int .i64 ((aL (bt z) i:Nat):Int))/\Below w.heap.size w w':=by
 rw[oY hz,h0];exact wU (bt z) i hi w
structure P4(w:World)(p b off:Nat)(x:Im)(cs:Array Value)(q db:Nat)(eD:Nat)(W:World):Prop where
 s:jz w p b off x cs q W
 d:aM W db eD 3 x.g (df (rB (x.L 1)) (rI (x.L 1)) (rD (x.L 1)))
 dl:db<w.heap.size
 bel:Below w.heap.size w W
theorem P4.below{b:Nat}{cs:Array Value}{W:World}(h:P4 w p b off x cs q db eD W)(hb:Below W.heap.size W W'):P4 w p b off x cs q db eD W':=
 ⟨h.s.below hb,aM.below h.d hb (Nat.lt_of_lt_of_le h.dl h.bel.size),h.dl,h.bel.trans (hb.mono h.bel.size)⟩
structure sN(w:World)(p b off:Nat)(x:Im)(cs:Array Value)(q db:Nat)(eD:Nat)(G:Nat)(u v n:Int)(W:World):Prop where
 s:P4 w p b off x cs q db eD W
 g:At W G 67 #[.int .i64 u,.int .i64 v,.int .i64 n]
 lo:w.heap.size<=G
theorem sN.below{b:Nat}{cs:Array Value}{u n:Int}{W:World}(h:sN w p b off x cs q db eD G u v n W)(hb:Below W.heap.size W W'):sN w p b off x cs q db eD G u v n W':=
 ⟨h.s.below hb,h.g.below hb h.g.lt,h.lo⟩
theorem sN.set{b:Nat}{cs:Array Value}{u n:Int}{W:World}(h:sN w p b off x cs q db eD G u v n W)(hp:p<w.heap.size)(hb:b<w.heap.size)(hq:q<w.heap.size)(i:Nat)(z:Value){u' v' n':Int}(he:(#[.int .i64 u,.int .i64 v,.int .i64 n]:Array Value).setIfInBounds i z= #[.int .i64 u',.int .i64 v',.int .i64 n']):
  sN w p b off x cs q db eD G u' v' n' (W.setCell ⟨G,i,none⟩ z):=by
 have ho:az G W (W.setCell ⟨G,i,none⟩ z):=az.setCell W ⟨G,i,none⟩ z;have hl:=h.lo;have hd:=h.s.dl;refine⟨⟨h.s.s.only ho (by omega) (by omega) (by omega) hl,aM.only h.s.d ho (by omega),hd,h.s.bel.trans ((ho.below af).mono hl)⟩,?_,hl⟩;have:=h.g.xO i z;rw[he] at this;exact this
theorem wN(p b off cap dc:Nat)(x:Im)(hx:x.Ok)(ay own sl un:Value)(q db eD:Nat)(w:World)(hpw:p<w.heap.size)(r6:b<w.heap.size)(AN:q<w.heap.size)(TI:db<w.heap.size)
  (h:jz w p b off x (XC b off cap x (.slice (some ⟨db,eD,none⟩) x.g dc) (.slice (some ⟨q,0,none⟩) (x.ni+1) (x.ni+1)) ay own sl un) q w)
  (hd:aM w db eD 3 x.g (df (rB (x.L 1)) (rI (x.L 1)) (rD (x.L 1)))):
  Calls Tryz.prog 86 #[.pointer (some ⟨p,0,none⟩)] w λe w'=>pT (aK x.js x.g) 12 e/\Below w.heap.size w w':=by
 have HX:=ah hx;obtain⟨h1,h2,h3,h4,h5,h6,h7,h8,h9,h10,h11⟩:=dX hx.may;have gi:=hx.iK;have hni:x.ni<=256:=eX hx.may;obtain⟨cs,hcs⟩:=aa (XC b off cap x (.slice (some ⟨db,eD,none⟩) x.g dc) (.slice (some ⟨q,0,none⟩) (x.ni+1) (x.ni+1)) ay own sl un);have gA:Hd (∀W,At W p 105 cs->W.cell? ⟨p,0,none⟩=some (.slice (some ⟨b,off,none⟩) x.n cap)/\W.cell? ⟨p,10,none⟩=some (.slice (some ⟨db,eD,none⟩) x.g dc)/\W.cell? ⟨p,11,none⟩=some (.slice (some ⟨q,0,none⟩) (x.ni+1) (x.ni+1))/\W.cell? ⟨p,6,none⟩=some (.int .i64 (x.g:Int))/\W.cell? ⟨p,7,none⟩=some (.int .i64 (x.s:Int))/\W.cell? ⟨p,8,none⟩=some (.int .i64 (x.i:Int))/\XG p x.g x.s x.i x.j W):=λW h=>by
  rw[hcs] at h;exact⟨h.cell (i:=0) rfl,h.cell (i:=10) rfl,h.cell (i:=11) rfl,h.cell (i:=6) rfl,h.cell (i:=7) rfl,h.cell (i:=8) rfl,XG.of h⟩
 rw[<-hcs] at h;have dt:Hd (P4 w p b off x cs q db eD w):=⟨h,hd,TI,Below.refl _ _⟩;have c6:=(gA.Z _ h.a).2.2.2.1;clear h hcs hx hd;have hzd:=ou;go_enter Tryz.func86,Tryz.ntmps86;go_wp2_with fail;clear c6;go_loopw [11] (λu wr=>∃k:Nat,k<=x.g/\u= .int .i64 (k:Int)/\(∀γ,γ<k->x.js γ=true)/\P4 w p b off x cs q db eD wr) (λu _=>x.g-(intOf u).toNat)
 case atStart=>exact⟨0,Nat.zero_le _,rfl,λq h=>by omega,dt.Z⟩
 clear dt;obtain⟨k,hk,rfl,hP,st⟩:=hrel;have lW:=ah hP;have ST:=ah st;clear hP st
 by_cases hlt:k<x.g
 ·have hlt':(k:Int)<(x.g:Int):=by omega
  have cY:Hd (x.js k=false->pT (aK x.js x.g) 12 (.panicked (sB 12))):=λh=> .inr ⟨bR hlt h,rfl⟩
  have zC:Hd (x.js k=true->∀γ,γ<k+1->x.js γ=true):=λhc γ hγ=>by
   rcases Nat.lt_succ_iff_lt_or_eq.1 hγ with h|h
   ·exact lW.Z γ h
   rw[h];exact hc
  go_wp2_with fail;refine(jh p x.g x.s x.i x.j k HX.Z.may hlt wr (gA.Z _ ST.Z.s.a).2.2.2.2.2.2).mono ?_;rintro e w1 ⟨rfl,hb1⟩;have bh:=ST.Z.below hb1;have HQ:Hd (2+x.j+k*x.s=x.st k):=rfl;rw[HQ.Z];obtain⟨Q,hQ⟩:=aa (x.st k);have ID:=ah hQ;have TN:Q<x.n:=by have:=HX.Z.st hlt (d:=0) (by omega);rw[Nat.add_zero] at this;omega
  have hQ1:Q+1<x.n:=by have:=HX.Z.st hlt (d:=1) (by omega);omega
  have aek:(Q:Int)<(x.n:Int):=by omega
  have aei:(Q:Int)+1<(x.n:Int):=by omega
  have Qn0:(0:Int)<=(Q:Int):=by omega
  have Qn1:(0:Int)<=(Q:Int)+1:=by omega
  have iy:Hd (sN w p b off x cs q db eD w1.heap.size 0 0 0 (w1.alloc (.cells #[.int .i64 0,.int .i64 0,.int .i64 0] 67))):=
   ⟨bh.below (ag.alloc af _),At.new _ _ _,bh.bel.size⟩
  rw[<-hQ];clear hQ HQ ST bh hb1;go_wp2_with fail;obtain⟨G,hG⟩:=aa w1.heap.size;rw[<-hG] at iy ⊢;clear hG;have hb0:=iw (bt (x.L Q)) x.s;obtain⟨c0,hc0⟩:=aa (aL (bt (x.L Q)) x.s);have O1:=ah hc0;have Th:Hd (∀W,Calls Tryz.prog 134 #[aR (x.L Q),.int .i64 (x.s:Int)] W λe w'=>e= .returned (.int .i64 ((c0:Nat):Int))/\Below W.heap.size W w'):=λW=>by rw[hc0];exact sD (HX.Z.jx Q) _ x.s rfl (by omega) W
  rw[<-hc0] at hb0;clear hc0;have WN:(c0:Int)<=(x.s:Int):=by omega
  refine aG (sN w p b off x cs q db eD G 0 0 0) 20 (by kernel_rfl) (by kernel_rfl) (by kernel_rfl) (by kernel_rfl) (by kernel_rfl) (by decide) (iy.Z.below ag.drew) ?_;clear iy;simp only[List.take,List.drop];intro hne;have wA:∀z:a9 (sN w p b off x cs q db eD G 0 0 0),z.W.cell? ⟨p,0,none⟩=some (.slice (some ⟨b,off,none⟩) x.n cap):=λz=>(gA.Z _ z.h.s.s.a).1
  have WI:∀z:a9 (sN w p b off x cs q db eD G 0 0 0),z.W.cell? ⟨p,7,none⟩=some (.int .i64 (x.s:Int)):=λz=>(gA.Z _ z.h.s.s.a).2.2.2.2.1
  repeat go_big_quiet_step (fail)
  refine aO rfl 32 (.tmp 27) rfl b (off+Q*256) rfl (dR x.L Q) _ (λW h=>aM.range h.s.s.i Q TN) Tryz.underlying32 rfl (by rw[aZ];exact aA) ?_;refine aj ?_
  repeat go_big_quiet_step (fail)
  go_big_quiet_want
  go_big_quiet_op
  refine⟨_,λs=>aN s (λW hW=>(Th.Z W).mono λe w' h=>⟨h.1,hW.below h.2⟩),?_⟩
  go_big_quiet_on
  repeat go_big_quiet_step (fail)
  refine wpQuiet_nil ?_;intro w6 h6';have iy:=ah h6'.Z;clear h6' hne wA WI;have cG0:=iy.Z.g.cell (i:=0) (v:=.int .i64 0) rfl;have fG0:w6.frozen? ⟨G,0,none⟩=false:=an iy.Z.g 0;have Me:Hd (sN w p b off x cs q db eD G ((x.s:Int)-(c0:Int)) 0 0 (w6.setCell ⟨G,0,none⟩ (.int .i64 ((x.s:Int)-(c0:Int))))):=iy.Z.set hpw r6 AN 0 _ rfl;clear iy;go_wp2_with fail;obtain⟨F,hF⟩:=aa ((x.s:Int)-(c0:Int));have HF:=ah hF;rw[<-hF] at Me ⊢;clear hF;generalize w6.setCell ⟨G,0,none⟩ (.int .i64 F)=w7 at Me ⊢;clear cG0 fG0 hb0 WN Th;have hb1:=iw (bt (x.L (Q+1))) x.i;obtain⟨c1,hc1⟩:=aa (aL (bt (x.L (Q+1))) x.i);have jk:=ah hc1;have Ek:Hd (∀W,Calls Tryz.prog 134 #[aR (x.L (Q+1)),.int .i64 (x.i:Int)] W λe w'=>e= .returned (.int .i64 ((c1:Nat):Int))/\Below W.heap.size W w'):=λW=>by rw[hc1];exact sD (HX.Z.jx (Q+1)) _ x.i rfl (by omega) W
  rw[<-hc1] at hb1;clear hc1;have WM:(c1:Int)<=(x.i:Int):=by omega
  refine aG (sN w p b off x cs q db eD G F 0 0) 21 (by kernel_rfl) (by kernel_rfl) (by kernel_rfl) (by kernel_rfl) (by kernel_rfl) (by decide) (Me.Z.below ag.drew) ?_;clear Me;simp only[List.take,List.drop];intro hne;have wA:∀z:a9 (sN w p b off x cs q db eD G F 0 0),z.W.cell? ⟨p,0,none⟩=some (.slice (some ⟨b,off,none⟩) x.n cap):=λz=>(gA.Z _ z.h.s.s.a).1
  have WH:∀z:a9 (sN w p b off x cs q db eD G F 0 0),z.W.cell? ⟨p,8,none⟩=some (.int .i64 (x.i:Int)):=λz=>(gA.Z _ z.h.s.s.a).2.2.2.2.2.1
  repeat go_big_quiet_step (fail)
  refine aO rfl 32 (.tmp 48) rfl b (off+(Q+1)*256) rfl (dR x.L (Q+1)) _ (λW h=>aM.range h.s.s.i (Q+1) hQ1) Tryz.underlying32 rfl (by rw[aZ];exact aA) ?_;refine aj ?_
  repeat go_big_quiet_step (fail)
  go_big_quiet_want
  go_big_quiet_op
  refine⟨_,λs=>aN s (λW hW=>(Ek.Z W).mono λe w' h=>⟨h.1,hW.below h.2⟩),?_⟩
  go_big_quiet_on
  repeat go_big_quiet_step (fail)
  refine wpQuiet_nil ?_;intro w8 Xp;have iy:=ah Xp.Z;clear Xp hne wA WH;have Xz:=iy.Z.g.cell (i:=1) (v:=.int .i64 0) rfl;have Xs:w8.frozen? ⟨G,1,none⟩=false:=an iy.Z.g 1;have Me:Hd (sN w p b off x cs q db eD G F ((x.i:Int)-(c1:Int)) 0 (w8.setCell ⟨G,1,none⟩ (.int .i64 ((x.i:Int)-(c1:Int))))):=iy.Z.set hpw r6 AN 1 _ rfl;have c8:=(gA.Z _ Me.Z.s.s.a).2.2.2.2.2.1;clear iy;go_wp2_with fail;clear c8;obtain⟨E,hE⟩:=aa ((x.i:Int)-(c1:Int));have HE:=ah hE;clear hE Xz Xs hb1 WM Ek;go_loopw [63] (λu wr=>∃d:Nat,d<=x.i/\u= .int .i64 (d:Int)/\sN w p b off x cs q db eD G F E ((aL (λb=>(x.ino (k*x.i+b+1)).kind==2) d:Nat):Int) wr) (λu _=>x.i-(intOf u).toNat)
  case atStart=>exact⟨0,Nat.zero_le _,rfl,by rw[HE.Z];exact Me.Z⟩
  clear Me;obtain⟨d,hd,rfl,st⟩:=hrel;have ST:=ah st;clear st
  by_cases hdi:d<x.i
  ·have Ww:(d:Int)<(x.i:Int):=by omega
   have d0:(0:Int)<=(d:Int):=by omega
   have hkn:k*x.i+d+1<x.ni+1:=by
    have h1:=Nat.mul_le_mul_right x.i (show k+1<=x.g from hlt);rw[Nat.succ_mul] at h1;unfold Im.ni;omega
   obtain⟨cn,hcn⟩:=aa (aL (λb=>(x.ino (k*x.i+b+1)).kind==2) d);have Rt:cn<=d:=by rw[hcn];exact iw _ _
   obtain⟨t,ht⟩:=aa (k*x.i+d+1);have hnx:aL (λb=>(x.ino (k*x.i+b+1)).kind==2) (d+1)=cn+((x.ino t).kind==2).toNat:=by rw[ek,<-hcn,ht]
   have pJ:=ah hnx;have SQ:Hd (∀W,Calls Tryz.prog 135 #[bV x.g x.s x.i x.j,.int .i64 (k:Int),.int .i64 (d:Int)] W λe w'=>e= .returned (.int .i64 ((t:Nat):Int))/\Below W.heap.size W w'):=λW=>by rw[ht];exact ts x.g x.s x.i x.j k d HX.Z.may hlt hdi W
   rw[<-ht] at hkn;rw[<-hcn] at ST;clear ht hcn hnx;have Wc:(t:Int)<(x.ni:Int)+1:=by omega
   have t0:(0:Int)<=(t:Int):=by omega
   obtain⟨kd,fV⟩:=aa ((x.ino t).kind);have Cr:Hd (∀W,sN w p b off x cs q db eD G F E (cn:Int) W->W.cell? ⟨q,t*16,none⟩=some (.int .u8 kd)):=λW h=>by rw[fV];exact h.s.s.ino (t:=t) hkn 0 rfl
   rw[<-fV] at pJ;clear fV;go_wp2_with fail;refine ar (sN w p b off x cs q db eD G F E (cn:Int)) (ST.Z.below ag.drew) ?_;clear ST;intro hne;have Gw:∀z:a9 (sN w p b off x cs q db eD G F E (cn:Int)),z.W.cell? ⟨p,11,none⟩=some (.slice (some ⟨q,0,none⟩) (x.ni+1) (x.ni+1)):=λz=>(gA.Z _ z.h.s.s.a).2.2.1
   have mO:∀z:a9 (sN w p b off x cs q db eD G F E (cn:Int)),z.W.cell? ⟨q,t*16,none⟩=some (.int .u8 kd):=λz=>Cr.Z _ z.h
   repeat go_big_quiet_step (fail)
   refine aO rfl 23 (.tmp 72) rfl p 6 rfl (ai x.g x.s x.i x.j).toList _ (λW h=>(gA.Z _ h.s.s.a).2.2.2.2.2.2) Tryz.underlying23 rfl (by kernel_rfl) ?_;refine aj ?_
   repeat go_big_quiet_step (fail)
   go_big_quiet_want
   go_big_quiet_op
   refine⟨_,λs=>aN s (λW hW=>(SQ.Z W).mono λe w' h=>⟨h.1,hW.below h.2⟩),?_⟩
   go_big_quiet_on
   repeat go_big_quiet_step (fail)
   refine wpQuiet_nil ?_;intro w9 GF;have iy:=ah GF.Z;clear GF hne Gw mO;have cG2:=iy.Z.g.cell (i:=2) (v:=.int .i64 (cn:Int)) rfl;have fG2:w9.frozen? ⟨G,2,none⟩=false:=an iy.Z.g 2;have Wz:cn<=64:=by omega
   have cn0:(0:Int)<=(cn:Int):=by omega
   by_cases hk2:kd=2
   ·have q2:(kd==2)=true:=by simp[hk2]
    have HN:Hd (((aL (λb=>(x.ino (k*x.i+b+1)).kind==2) (d+1):Nat):Int)=(cn:Int)+1):=by show _=_;rw[pJ.Z,q2];rfl
    have fK:Hd (sN w p b off x cs q db eD G F E ((cn:Int)+1) (w9.setCell ⟨G,2,none⟩ (.int .i64 ((cn:Int)+1)))):=iy.Z.set hpw r6 AN 2 _ rfl;clear hk2 iy;go_wp2_with fail;go_roundw
    case rel=>(try((repeat apply Exists.intro);refine⟨?_,rfl⟩));exact⟨d+1,by omega,by first|rfl|go_num,by rw[HN.Z];exact fK.Z⟩
    simp[intOf]<;>omega
   have q2:(kd==2)=false:=by simp[hk2]
   have HN:Hd (((aL (λb=>(x.ino (k*x.i+b+1)).kind==2) (d+1):Nat):Int)=(cn:Int)):=by show _=_;rw[pJ.Z,q2];rfl
   clear hk2;go_wp2_with fail;go_roundw
   case rel=>(try((repeat apply Exists.intro);refine⟨?_,rfl⟩));exact⟨d+1,by omega,by first|rfl|go_num,by rw[HN.Z];exact iy.Z⟩
   simp[intOf]<;>omega
  obtain rfl:d=x.i:=by omega
  obtain⟨N,hN⟩:=aa (((aL (λb=>(x.ino (k*x.i+b+1)).kind==2) x.i:Nat):Int):Int);have tl:∀W,(binOp .eql 67 (.agg #[.int .i64 F,.int .i64 E,.int .i64 N]) (.agg #[.int .i64 (rB (x.L 1) k),.int .i64 (rI (x.L 1) k),.int .i64 (rD (x.L 1) k)])).run Tryz.prog W= .ok (.bool (GV F E N (rB (x.L 1) k) (rI (x.L 1) k) (rD (x.L 1) k))) W:=λW=>nD _ _ _ _ _ _ W
  have iT:Hd (x.js k=GV F E N (rB (x.L 1) k) (rI (x.L 1) k) (rD (x.L 1) k)):=by
   show _=_;rw[HF.Z,HE.Z,O1.Z,jk.Z,ID.Z,hN];rfl
  have k0:(0:Int)<=(k:Int):=by omega
  rw[<-hN] at ST;clear hN;obtain⟨c,hc⟩:=aa (GV F E N (rB (x.L 1) k) (rI (x.L 1) k) (rD (x.L 1) k));rw[<-hc] at tl iT;clear hc;go_wp2_with fail;refine aG (sN w p b off x cs q db eD G F E N) 9 (by kernel_rfl) (by kernel_rfl) (by kernel_rfl) (by kernel_rfl) (by kernel_rfl) (by decide) (ST.Z.below ag.drew) ?_;clear ST;simp only[List.take,List.drop];intro hne;have NW:∀z:a9 (sN w p b off x cs q db eD G F E N),z.W.cell? ⟨p,10,none⟩=some (.slice (some ⟨db,eD,none⟩) x.g dc):=λz=>(gA.Z _ z.h.s.s.a).2.1
  refine aO rfl 67 (.tmp 4) rfl G 0 rfl [.int .i64 F,.int .i64 E,.int .i64 N] _ (λW h=>h.g.range) Tryz.underlying67 rfl (by kernel_rfl) ?_;refine aj ?_
  repeat go_big_quiet_step (fail)
  refine aO rfl 67 (.tmp 92) rfl db (eD+k*3) rfl [.int .i64 (rB (x.L 1) k),.int .i64 (rI (x.L 1) k),.int .i64 (rD (x.L 1) k)] _ (λW h=>aM.range h.s.d k hlt) Tryz.underlying67 rfl (by kernel_rfl) ?_;refine aj ?_
  repeat go_big_quiet_step (fail)
  refine wpQuiet_nil ?_;intro w9 GF;have iy:=ah GF.Z;clear GF hne NW tl;go_wp2_with fail;refine(bJ 12 c _).mono ?_;rintro e pL ⟨hS,rfl⟩;rcases hS with⟨hct,rfl⟩|⟨hct,rfl⟩
  rotate_left
  ·exact⟨rfl,cY.Z (iT.Z.trans hct),iy.Z.s.bel⟩
  have Bp:=ah (zC.Z (iT.Z.trans hct));clear hct;go_wp2_with fail;go_roundw
  case rel=>(try((repeat apply Exists.intro);refine⟨?_,rfl⟩));exact⟨k+1,by omega,by first|rfl|go_num,Bp.Z,iy.Z.s⟩
  simp[intOf]<;>omega
 obtain rfl:k=x.g:=by omega
 go_wp2_with fail;refine bodyPost_end (results_none rfl _ _ _) rfl ⟨.inl ⟨(aY _ _).2 lW.Z,rfl⟩,ST.Z.bel⟩
end Go.Proofs.YtphamecphmbipaaGreatDoor
