/- Texts of this claim, merged. -/
import Derived.Test.YtphamecphmbipaaGreatDoorK32
set_option linter.unusedVariables false
set_option maxRecDepth 100000
set_option maxHeartbeats 16000000

namespace Go.Proofs.YtphamecphmbipaaGreatDoor
open Go.RowKit
open Lib (hid)
variable {P:Nat->Bool} {a:Option Addr} {cap t p b off q db ef G:Nat} {w W':World} {x:Im} {cs:Array Value} {v:Int}
def js(v:Nat):Nat:=(v.testBit 0).toNat+(v.testBit 1).toNat+(v.testBit 2).toNat+(v.testBit 3).toNat+(v.testBit 4).toNat+(v.testBit 5).toNat+(v.testBit 6).toNat+(v.testBit 7).toNat
theorem gT:∀a b c d e f g h:Bool,js (b8 a b c d e f g h)=a.toNat+b.toNat+c.toNat+d.toNat+e.toNat+f.toNat+g.toNat+h.toNat:=by decide
theorem dU(P:Nat->Bool)(n:Nat):aE P (n+1)=aE P n+(P n).toNat:=by
 rw[aE];cases P n<;>rfl
theorem AL(P:Nat->Bool)(k:Nat):aE P (8*(k+1))=aE P (8*k)+js (uz P k):=by
 unfold uz;rw[gT,show 8*(k+1)=8*k+1+1+1+1+1+1+1+1 by omega];simp only[dU,Nat.add_assoc,Nat.reduceAdd]
theorem DK{n:Nat}(h:∀i,i<n->P i=false):aE P n=0:=kX (u:=0) (Nat.zero_le _) λk hk=>by rw[h k hk];simp
theorem Km:∀a b c d e f g h:Bool,b8 a b c d e f g h&&&0=b8 false false false false false false false false:=by decide
theorem Kl:∀a b c d e f g h:Bool,b8 a b c d e f g h&&&1=b8 a false false false false false false false:=by decide
theorem Kk:∀a b c d e f g h:Bool,b8 a b c d e f g h&&&3=b8 a b false false false false false false:=by decide
theorem Kj:∀a b c d e f g h:Bool,b8 a b c d e f g h&&&7=b8 a b c false false false false false:=by decide
theorem Ki:∀a b c d e f g h:Bool,b8 a b c d e f g h&&&15=b8 a b c d false false false false:=by decide
theorem Kh:∀a b c d e f g h:Bool,b8 a b c d e f g h&&&31=b8 a b c d e false false false:=by decide
theorem Kg:∀a b c d e f g h:Bool,b8 a b c d e f g h&&&63=b8 a b c d e f false false:=by decide
theorem Kf:∀a b c d e f g h:Bool,b8 a b c d e f g h&&&127=b8 a b c d e f g false:=by decide
theorem DL(P:Nat->Bool)(k j:Nat)(hj:j<8):aE P (8*k+j)=aE P (8*k)+js (uz P k&&&(2^j-1)):=by
 unfold uz;have:j=0\/j=1\/j=2\/j=3\/j=4\/j=5\/j=6\/j=7:=by omega
 rcases this with rfl|rfl|rfl|rfl|rfl|rfl|rfl|rfl
 ·rw[show 2^0-1=0 from rfl,Km,gT];simp
 ·rw[show 2^1-1=1 from rfl,Kl,gT];simp[dU]
 ·rw[show 2^2-1=3 from rfl,Kk,gT,show 8*k+2=8*k+1+1 by omega];simp only[dU,Nat.add_assoc,Nat.reduceAdd,Bool.toNat_false,Nat.add_zero]
 ·rw[show 2^3-1=7 from rfl,Kj,gT,show 8*k+3=8*k+1+1+1 by omega];simp only[dU,Nat.add_assoc,Nat.reduceAdd,Bool.toNat_false,Nat.add_zero]
 ·rw[show 2^4-1=15 from rfl,Ki,gT,show 8*k+4=8*k+1+1+1+1 by omega];simp only[dU,Nat.add_assoc,Nat.reduceAdd,Bool.toNat_false,Nat.add_zero]
 ·rw[show 2^5-1=31 from rfl,Kh,gT,show 8*k+5=8*k+1+1+1+1+1 by omega];simp only[dU,Nat.add_assoc,Nat.reduceAdd,Bool.toNat_false,Nat.add_zero]
 ·rw[show 2^6-1=63 from rfl,Kg,gT,show 8*k+6=8*k+1+1+1+1+1+1 by omega];simp only[dU,Nat.add_assoc,Nat.reduceAdd,Bool.toNat_false,Nat.add_zero]
 ·rw[show 2^7-1=127 from rfl,Kf,gT,show 8*k+7=8*k+1+1+1+1+1+1+1 by omega];simp only[dU,Nat.add_assoc,Nat.reduceAdd,Bool.toNat_false,Nat.add_zero]
theorem xY(v:Nat)(hv:v<256)(w:World):Calls Tryz.prog 159 #[.int .u8 (v:Int)] w λe w'=>e= .returned (.int .i64 ((js v:Nat):Int))/\w=w':=by
 have h0:(0:Int)<=(v:Int):=by omega
 have h1:(v:Int)<256:=by omega
 go_enter Tryz.func159,Tryz.ntmps159;go_wp2_with fail;go_ret;refine⟨congrArg (λz=>Ending.returned (Value.int .i64 z)) ?_,rfl⟩;show wrap64 _=_;rw[<-getElem!_pos];have key:∀T:ByteArray,(List.range 256).all (λv=>decide (wrap64 ((T[v]!.toNat:Nat):Int)=((js v:Nat):Int)))=true->∀v,v<256->wrap64 ((T[v]!.toNat:Nat):Int)=((js v:Nat):Int):=λT h v hv=>of_decide_eq_true (List.all_eq_true.1 h v (List.mem_range.2 hv))
 exact key _ (by kernel_rfl) v hv
theorem Kd{n:Nat}(h:me (bZ P) (λ_=>0) 256=true)(hn:n<=2048):aE P n=0:=by
 refine DK λi hi=> ?_
 have h1:=(iT _ _ _).1 h (i/8) (by omega);have h2:=BY P (i/8) (i%8) (Nat.mod_lt _ (by decide));have h3:uz P (i/8)=0:=by unfold bZ at h1;omega
 rw[h3,show 8*(i/8)+i%8=i by omega,Nat.zero_and] at h2;have hp:0<2^(i%8):=Nat.two_pow_pos _;cases hP:P i with
 |false=>rfl
 |true=>rw[hP] at h2;simp at h2;omega
theorem gW(P:Nat->Bool)(n:Nat):aE P n<=n:=eF P n
theorem qJ(g k:Nat)(L:Int)(hL:L=(k:Int))(h3:k<=256)(W:World):
  (Instr.sliceAt 32 (.pointer (some ⟨g,0,none⟩)) none (some (.int .i64 L)) none).run Tryz.prog W= .ok (.slice (some ⟨g,0,none⟩) k 256) W:=by
 subst hL;have hal:Tryz.prog.arrayLen 32=256:=by kernel_rfl
 have hsz:∀W,(Go.sizeOf (Tryz.prog.elem 32)).run Tryz.prog W= .ok 1 W:=λW=>by kernel_rfl
 rw[run_sliceAt_array_h W 32 _ (by kernel_rfl) .i64 (k:Int) (by omega) (by rw[hal];omega),hsz,hal];simp only[Result.andThen,slicedAt,Int.toNat_natCast,Nat.mul_one]
 rfl
theorem Fo(v:Nat):js v<=8:=by
 have h:∀b:Bool,b.toNat<=1:=by decide
 unfold js;have:=h (v.testBit 0);have:=h (v.testBit 1);have:=h (v.testBit 2);have:=h (v.testBit 3);have:=h (v.testBit 4);have:=h (v.testBit 5);have:=h (v.testBit 6);have:=h (v.testBit 7);omega
theorem wD(P:Nat->Bool)(n:Nat)(hn:n<=2048)(w:World):
  Calls Tryz.prog 134 #[aL (bZ P),.int .i64 (n:Int)] w λe w'=>e= .returned (.int .i64 ((aE P n:Nat):Int))/\Below w.heap.size w w':=by
 have ST:Hid (Em w P (w.alloc (.cells (Ks .u8 256 (bZ P)).toArray 32))):=⟨aQ.new w _ _ _,(Below.refl _ _).alloc (Nat.le_refl _) _⟩;have m2:min (n:Int) 2048=(n:Int):=by omega
 have m3:max (n:Int) 0=(n:Int):=by omega
 have h0:(n:Int).tdiv 8=((n/8:Nat):Int):=by rw[Int.tdiv_eq_ediv_of_nonneg (by omega)];omega
 have h1:(n:Int).tmod 8=((n%8:Nat):Int):=by rw[Int.tmod_eq_emod_of_nonneg (by omega)];omega
 by_cases hn0:n=0
 ·have q0:((n:Int)==0)=true:=by simp[hn0]
  have HN0:=hid hn0;clear hn0 m3;have m3:max (n:Int) 0=(n:Int):=by omega
  go_enter Tryz.func134,Tryz.ntmps134;go_wp2_with fail;go_ret;exact⟨by rw[HN0.out];rfl,ST.out.bel⟩
 have q0:((n:Int)==0)=false:=by simp;omega
 have hz0:=cJ;have sZ:∀W,(binOp .eql 32 (aL (bZ P)) (aL λ_=>0)).run Tryz.prog W= .ok (.bool (me (bZ P) (λ_=>0) 256)) W:=λW=>sV _ _ W
 have hB:=ST.out.b;obtain⟨c,hc⟩:∃c,c=me (bZ P) (λ_=>0) 256:=⟨_,rfl⟩;rw[<-hc] at sZ;have HC:=hid hc;clear hc hn0;obtain⟨m,hm⟩:∃m,m=n/8:=⟨_,rfl⟩;have OR:m<=256:=by omega
 have hsl:=λW=>qJ w.heap.size m ((n:Int)/8) (by omega) OR W
 cases c with
 |true=>
  go_enter Tryz.func134,Tryz.ntmps134;go_wp2_with (first|(refine dD rfl (.tmp 2) rfl w.heap.size (bZ P) rfl hB ?_))
  go_ret;exact⟨by rw[Kd HC.out.symm hn];rfl,ST.out.bel⟩
 |false=>
  go_enter Tryz.func134,Tryz.ntmps134;go_wp2_with (first|(refine dD rfl (.tmp 2) rfl w.heap.size (bZ P) rfl hB ?_))
  clear hB sZ hz0;go_loopw [5,22] (λv u wr=>∃k:Nat,k<=m/\u= .int .i64 (k:Int)/\v= .int .i64 ((aE P (8*k):Nat):Int)/\Em w P wr) (λ_ u _=>m-(intOf u).toNat)
  case atStart=>exact⟨0,Nat.zero_le _,rfl,rfl,ST.out⟩
  case round=>
   clear ST;obtain⟨k,hk,rfl,rfl,st⟩:=hrel;have ST:=hid st;clear st
   by_cases hkm:k<m
   ·have hk':(k:Int)<(m:Int):=by omega
    have k0:(0:Int)<=(k:Int):=by omega
    have hc:wr.cell? ⟨w.heap.size,k,none⟩=some (.int .u8 ((uz P k:Nat):Int)):=by have:=ST.out.b.bI k (by omega);rwa[Nat.zero_add] at this
    obtain⟨v,hv⟩:∃v,v=uz P k:=⟨_,rfl⟩;have Yw:v<256:=by rw[hv];exact oI P k
    obtain⟨a,ha⟩:∃a,a=aE P (8*k):=⟨_,rfl⟩;have Q5:a<=2048:=by have:=gW P (8*k);omega
    have hnx:aE P (8*(k+1))=a+js v:=by rw[AL,ha,hv]
    have pk:=hid hnx;rw[<-hv] at hc;rw[<-ha];clear hv ha hnx;have gD:=Fo v;have HO:Hid (∀W,Calls Tryz.prog 159 #[.int .u8 (v:Int)] W λe w'=>e= .returned (.int .i64 ((js v:Nat):Int))/\W=w'):=λW=>xY v Yw W
    generalize js v=o at*;go_wp2_with fail;refine(HO.out _).mono ?_;rintro e w1 ⟨rfl,rfl⟩;go_wp2_with fail;go_roundw
    case rel=>(try((repeat apply Exists.intro);refine⟨?_,rfl⟩));exact⟨k+1,by omega,by first|rfl|go_num,by rw[pk.out];first|rfl|go_num,ST.out⟩
    case measure=>simp[intOf]<;>omega
   ·obtain rfl:k=m:=by omega
    have hpt:=DL P k (n%8) (Nat.mod_lt _ (by decide));rw[show 8*k+n%8=n by omega] at hpt;have zb:=hid hpt;obtain⟨r,hr⟩:∃r,r=n%8:=⟨_,rfl⟩;have hcb:=gW P n;have Q0:=gW P (8*k);rw[<-hr] at h1 hpt zb;have h1e:(n:Int)%8=(r:Int):=by omega
    by_cases BF:r=0
    ·have HN:Hid (aE P n=aE P (8*k)):=by show _=_;rw[show n=8*k by omega]
     have q1:((r:Int) !=0)=false:=by simp[BF]
     clear hpt zb BF hr;go_wp2_with fail;go_ret;exact⟨by rw[HN.out];rfl,ST.out.bel⟩
    ·have q1:((r:Int) !=0)=true:=by simp;omega
     have hM:(2:Nat)^r-1<256:=by have:=vx n;rw[<-hr] at this;omega
     have hA:bits .and .u8 ((uz P k:Nat):Int) ((2^r-1:Nat):Int)=((uz P k&&&(2^r-1):Nat):Int):=u8_and_nat _ _ (oI _ _) hM;have hp1:0<(2:Nat)^r:=Nat.two_pow_pos _;have hp2:(2:Nat)^r<256:=by have:=vx n;rwa[<-hr] at this
     have Pr:Hid (∀W,Calls Tryz.prog 46 #[.int .i64 (n:Int)] W λe w'=>e= .returned (.int .u8 ((2^r:Nat):Int))/\W=w'):=λW=>by rw[hr];exact kZ n (by omega) W
     have hS:(((2^r:Nat):Int)-1)=((2^r-1:Nat):Int):=by omega
     obtain⟨V,hV⟩:∃V,V=uz P k&&&(2^r-1):=⟨_,rfl⟩;have hV9:V<256:=by rw[hV];exact Nat.lt_of_le_of_lt Nat.and_le_left (oI P k)
     rw[<-hV] at hA hpt;have HO:Hid (∀W,Calls Tryz.prog 159 #[.int .u8 (V:Int)] W λe w'=>e= .returned (.int .i64 ((js V:Nat):Int))/\W=w'):=λW=>xY V hV9 W
     have zb:=hid hpt;obtain⟨a,ha⟩:∃a,a=aE P (8*k):=⟨_,rfl⟩;rw[<-ha] at Q0 zb hpt ⊢;have SY:k<256:=by omega
     have GX:Hid (∀W,Em w P W->W.cell? ⟨w.heap.size,k,none⟩=some (.int .u8 ((uz P k:Nat):Int))):=λW h=>by have:=h.b.bI k SY;rwa[Nat.zero_add] at this
     obtain⟨B,hB⟩:∃B,B=uz P k:=⟨_,rfl⟩;rw[<-hB] at hA GX;obtain⟨M,Zl⟩:∃M,M=(2:Nat)^r:=⟨_,rfl⟩;rw[<-Zl] at hA Pr hS hp1 hp2;generalize js V=o at*;have hao:a+o<=2048:=by omega
     have L5:=hid hA;have HS:=hid hS;clear hpt hr BF hV ha hA hB Zl hM hS hcb Q0;have h0':(n:Int)/8=(k:Int):=by omega
     have k0:(0:Int)<=(k:Int):=by omega
     have ab8:(k:Int)<256:=by omega
     rw[<-hm] at h0 ⊢;clear hm;go_wp2_with fail;refine ai (Em w P) (by kernel_rfl) (by kernel_rfl) ⟨ST.out.b,ST.out.bel.drew⟩ ?_;clear ST;intro hne;have hc:∀y:aT (Em w P),y.W.cell? ⟨w.heap.size,k,none⟩=some (.int .u8 (B:Int)):=λy=>GX.out _ y.h
     repeat go_big_quiet_step (fail)
     go_big_quiet_want
     go_big_quiet_op
     refine⟨_,λs=>aG s (λW hW=>(Pr.out W).mono λe w' h=>⟨h.1,h.2▸hW⟩),?_⟩
     go_big_quiet_on
     have hA:=L5.out;have hS:=HS.out
     repeat go_big_quiet_step (fail)
     go_big_quiet_want
     go_big_quiet_op
     refine⟨_,λs=>aG s (λW hW=>(HO.out W).mono λe w' h=>⟨h.1,h.2▸hW⟩),?_⟩
     go_big_quiet_on
     repeat go_big_quiet_step (fail)
     refine wpQuiet_nil ?_;intro w5 h5;have eB:=h5.out;clear h5 hne hc hA hS;go_wp2_with fail;go_ret;exact⟨by rw[zb.out];rfl,eB.bel⟩
theorem ah.ahead{W:World}{base:Nat}{e:TypeId}{m:Nat}{n:Nat}{f:Nat->List Value}(h:ah W base e m (.slice a n cap) n f)(hf:∀i,(f i).length=m){k:Nat}(hk:k<=n):ah W base e m (.slice a k cap) k f:=by
 refine⟨dC hf k,?_⟩;rcases h.2 with⟨hv,h0⟩|⟨g,cap',cur,hv,hb,hg,hn,hc,hs,ht⟩
 ·injection hv with h1 h2 h3
  have ke:k=0:=by omega
  subst h1 h3 ke;exact .inl ⟨rfl,rfl⟩
 ·injection hv with h1 h2 h3
  subst h1 h3;refine .inr ⟨g,cap,cur,rfl,hb,hg,by omega,hc,hs,?_⟩;have h1:k*m<=n*m:=Nat.mul_le_mul_right m hk;have h2:cur.toList.take (k*m)=(Cs f n).take (k*m):=by rw[<-ht,List.take_take,Nat.min_eq_left h1]
  rw[h2];have h3:Cs f n=Cs f k++Cs (λi=>f (k+i)) (n-k):=by rw[wL];congr 1;omega
  rw[h3,List.take_left' (dC hf k)]
def Yk:Value->Nat
 | .slice _ n _=>n
 |_=>0
structure uL(w:World)(p b off:Nat)(x:Im)(cs:Array Value)(q g:Nat)(c:Nat->Bool)(is:List Nat)(v:Value)(W:World):Prop where
 s:ji w p b off x cs q W
 c:az W g 3 1 (x.ni+1) (He c)
 r:ah W (g+1) 3 1 v is.length (gZ is)
 bel:Below w.heap.size w W
section
variable {w:World} {p b off:Nat} {x:Im} {cs:Array Value} {q g:Nat} {c:Nat->Bool} {is:List Nat} {v:Value} {W W':World}
theorem uL.below(h:uL w p b off x cs q g c is v W)(hb:Below W.heap.size W W'):uL w p b off x cs q g c is v W':=
 ⟨h.s.below hb,h.c.below hb,ah.below h.r hb,h.bel.trans (hb.mono h.bel.size)⟩
theorem uL.mark(h:uL w p b off x cs q g c is v W)(ht:t<x.ni+1)(h1:p≠g)(h2:b≠g)(h3:q≠g)(h4:w.heap.size<=g):uL w p b off x cs q g (af c t true) is v (W.setCell ⟨g,t,none⟩ (.int .i64 1)):=by
 have ho:an g W (W.setCell ⟨g,t,none⟩ (.int .i64 1)):=an.setCell W ⟨g,t,none⟩ _;have hm:=L7.mark (w:=w) (p:=p) (b:=b) (off:=off) (x:=x) (cs:=cs) (q:=q) (g:=g) (m:=c) (W:=W) ⟨h.s,h.c⟩ ht h1 h2 h3 h4;exact⟨hm.s,hm.o,eT h.r ho (λe=>by have:=(World.ownsRow.lt h.r g e).1;omega),h.bel.trans ((ho.below (Nat.le_refl _)).mono h4)⟩
theorem uL.pop(h:uL w p b off x cs q g c (is++[t]) (.slice a (is.length+1) cap) W):uL w p b off x cs q g c is (.slice a is.length cap) W:=by
 refine⟨h.s,h.c,?_,h.bel⟩;have h1:=h.r;rw[List.length_append] at h1;exact ah.congr (ah.ahead h1 (pV _) (Nat.le_succ _)) λi hi=>(pW is t i hi).symm
theorem uL.app(h:uL w p b off x cs q g c is v W)(hp:p<w.heap.size)(hb:b<w.heap.size)(hq:q<w.heap.size)(kf:w.heap.size<=g){v':Value}{d:Nat}(hg:W.grownBy W' v.ownBlock)(ho:W'.ownsRow (g+1) 3 1 v' (is.length+1) (Cs (gZ is) is.length++[.int .i64 (d:Int)])):uL w p b off x cs q g c (is++[d]) v' W':=by
 have lG:∀r,v.ownBlock=some r->g+1<=r:=λr e=>(World.ownsRow.lt h.r r e).1
 refine⟨h.s.new hp hb hq hg (λr e=>by have:=lG r e;omega),h.c.grown hg (λe=>by have:=lG _ e.symm;omega),?_,h.bel.grown hg h.bel.size (λr e=>by have:=lG r e;omega)⟩;rw[List.length_append];show ah W' (g+1) 3 1 v' (is.length+1) (gZ (is++[d]));refine ah.append (f:=gZ (is++[d])) (news:=[.int .i64 (d:Int)]) ?_ ?_
 ·rw[<-gC λk hk=>pW is d k hk];exact ho
 ·show _=Cs _ 1
  rw[lN];show _=[]++gZ (is++[d]) (is.length+0);rw[Nat.add_zero,pU];rfl
end
def lK(w:World)(x:Im)(u:Nat->List Nat)(e:Ending)(w':World):Prop:=
 Below w.heap.size w w'/\pD (aD (x.jd (x.reach u)) (x.ni+1)) 11 e
theorem lK.no{u:Nat->List Nat}{w':World}(h:aD (x.jd (x.reach u)) (x.ni+1)=false)(hg:Below w.heap.size w w'):lK w x u (.panicked (r8 11)) w':=⟨hg,.inr ⟨h,rfl⟩⟩
theorem tb(p b off cap:Nat)(x:Im)(hx:x.Ok)(ds ak own sl:Value)(q ug base:Nat)(u:Nat->List Nat)(hU:∀t,(∀d∈u t,d<=x.ni)/\(u t).length<=600000)(w:World)(hpw:p<w.heap.size)(rL:b<w.heap.size)(Av:q<w.heap.size)(hup:ug≠p)
  (h:ji w p b off x (XC b off cap x ds (.slice (some ⟨q,0,none⟩) (x.ni+1) (x.ni+1)) ak own sl (.slice (some ⟨ug,0,none⟩) (x.ni+1) (x.ni+1))) q w) (hu:sG w base ug (x.ni+1) u):
  Calls Tryz.prog 85 #[.pointer (some ⟨p,0,none⟩)] w λe w'=>lK w x u e w':=by
 have HX:=hid hx;have hni:x.ni<=256:=eK hx.may;have acP:1<=x.ni:=Nat.mul_pos (by have:=(dL hx.may).1;omega) (by have:=dL hx.may;omega);have c11:w.cell? ⟨p,11,none⟩=some (.slice (some ⟨q,0,none⟩) (x.ni+1) (x.ni+1)):=h.a.cell (i:=11) rfl;obtain⟨g,hg⟩:∃g,g=w.heap.size:=⟨_,rfl⟩;have oC:p≠g:=by omega
 have hbg:b≠g:=by omega
 have BG:q≠g:=by omega
 have hmk:(Instr.makeSlice 37 (.int .i64 ((x.ni:Int)+1)) (.int .i64 ((x.ni:Int)+1))).run Tryz.prog w= .ok (.slice (some ⟨g,0,none⟩) (x.ni+1) (x.ni+1)) (w.alloc (.cells (madeCells #[.int .i64 0] ((x.ni+1)*1)) 3)):=by
  rw[hg];exact jJ (x.ni+1) (by omega) w
 obtain⟨W1,hW1⟩:∃W1,W1=w.alloc (.cells (madeCells #[.int .i64 0] ((x.ni+1)*1)) 3):=⟨_,rfl⟩;have hb1:Below w.heap.size w W1:=by rw[hW1];exact(Below.refl _ _).alloc (Nat.le_refl _) _
 have hsz1:W1.heap.size=g+1:=by rw[hW1,hg];simp
 have hr1:az W1 g 3 1 (x.ni+1) (He λ_=>false):=by
  rw[hW1,hg];exact(az.made (m:=1) w #[.int .i64 0] rfl (by omega) (x.ni+1) _)
 have kf:w.heap.size<=g:=by omega
 have aV:uL w p b off x (XC b off cap x ds (.slice (some ⟨q,0,none⟩) (x.ni+1) (x.ni+1)) ak own sl (.slice (some ⟨ug,0,none⟩) (x.ni+1) (x.ni+1))) q g (af (λ_=>false) 1 true) [] (.slice none 0 0) (W1.setCell ⟨g,1,none⟩ (.int .i64 1)):=
  uL.mark ⟨h.below hb1,hr1,ah.nil _ _ _ _ _,hb1⟩ (by omega) oC hbg BG kf
 have c1:=hr1.jU (show 1<x.ni+1 by omega) (v:=.int .i64 0) rfl;have f1:=hr1.soft 1;obtain⟨W2,hW2⟩:∃W2,W2=W1.setCell ⟨g,1,none⟩ (.int .i64 1):=⟨_,rfl⟩;rw[<-hW2] at aV;have gI:W2.heap.size=g+1:=by rw[hW2,<-hsz1];simp
 have hW3:Below W2.heap.size W2 (W2.alloc (.cells #[.int .i64 1] 3)):=(Below.refl _ _).alloc (Nat.le_refl _) _;have cf:Hid (uL w p b off x (XC b off cap x ds (.slice (some ⟨q,0,none⟩) (x.ni+1) (x.ni+1)) ak own sl (.slice (some ⟨ug,0,none⟩) (x.ni+1) (x.ni+1))) q g (af (λ_=>false) 1 true) [1] (.slice (some ⟨W1.heap.size,0,none⟩) 1 1) (W2.alloc (.cells #[.int .i64 1] 3))):=by
  rw[show W1.heap.size=W2.heap.size by omega];have h1:=aV.below hW3;exact⟨h1.s,h1.c,⟨rfl,.inr ⟨_,1,#[.int .i64 1],rfl,by omega,heap_alloc_new W2 _,by decide,by unfold maxLen;omega,rfl,rfl⟩⟩,h1.bel⟩
 obtain⟨ua,uc,Qn⟩:=hu.iG h.a hup;have R1:=hid Qn;clear Qn;rw[<-hW1] at hmk;obtain⟨cs,hcs⟩:∃cs,cs=XC b off cap x ds (.slice (some ⟨q,0,none⟩) (x.ni+1) (x.ni+1)) ak own sl (.slice (some ⟨ug,0,none⟩) (x.ni+1) (x.ni+1)):=⟨_,rfl⟩;have gj:Hid (∀W,At W p 105 cs->W.cell? ⟨p,11,none⟩=some (.slice (some ⟨q,0,none⟩) (x.ni+1) (x.ni+1))/\W.cell? ⟨p,15,none⟩=some (.slice (some ⟨ug,0,none⟩) (x.ni+1) (x.ni+1))):=λW h=>by
  rw[hcs] at h;exact⟨h.cell (i:=11) rfl,h.cell (i:=15) rfl⟩
 rw[<-hcs] at cf;have sH:=hid kf;have HU:=hid hU;clear h aV hb1 hr1 hW1 hx kf hcs hg hu hU hsz1 gI hW3;go_enter Tryz.func85,Tryz.ntmps85;go_wp2_with fail;rw[<-hW2];go_wp2_with fail;clear c11 hmk c1 f1 hW2;go_loopw [3] (λv wr=>∃(f:Nat) (c:Nat->Bool) (is:List Nat) (a:Option Addr) (cap:Nat),v= .slice a is.length cap/\x.ot u f (c,is.reverse)=x.reach u/\aE c (x.ni+1)+f=x.ni+2+is.length/\f<=x.ni+2/\(∀t∈is,t<x.ni+1)/\uL w p b off x cs q g c is v wr) (λv wr=>OG wr g (x.ni+1)+Yk v)
 case atStart=>exact⟨x.ni+2,_,[1],_,_,rfl,rfl,by rw[fH (by omega) rfl,kX (u:=0) (Nat.zero_le _) (λk _=>by simp)];simp;omega,Nat.le_refl _,λt h=>by simp at h;omega,cf.out⟩
 case round=>
  clear cf;obtain⟨f,c,is,a,cap',rfl,Dt,hcn,Nq,hlt,st⟩:=hrel;have hcl:=eF c (x.ni+1);obtain⟨f,rfl⟩:∃f',f=f'+1:=⟨f-1,by omega⟩;rcases List.eq_nil_or_concat is with rfl|⟨is,t,rfl⟩
  ·have HP:Hid (x.reach u=c):=Dt.symm
   have ST:=hid st;clear Dt hcn hcl hlt Nq st;obtain⟨c11,c15⟩:=gj.out _ ST.out.s.a;go_wp2_with fail;clear c11 c15;go_loopw [72] (λv wr=>∃k:Nat,k<=x.ni+1/\v= .int .i64 (k:Int)/\(∀t,t<k->x.jd c t=true)/\uL w p b off x cs q g c [] (.slice a 0 cap') wr) (λv _=>x.ni+1-(intOf v).toNat)
   case atStart=>exact⟨0,Nat.zero_le _,rfl,λt h=>by omega,ST.out⟩
   case round=>
    clear ST;obtain⟨k,hk,rfl,hP,st⟩:=hrel;have lL:=hid hP;have ST:=hid st;clear hP st;obtain⟨c11,c15⟩:=gj.out _ ST.out.s.a
    by_cases hkn:k<x.ni+1
    ·have hlt':(k:Int)<(x.ni:Int)+1:=by omega
     have k0:(0:Int)<=(k:Int):=by omega
     have cK:wr.cell? ⟨q,k*16,none⟩=some (.int .u8 (x.ino k).kind):=ST.out.s.ino (t:=k) hkn 0 rfl;have cC:=ST.out.c.jU hkn (v:=.int .i64 (if c k then 1 else 0)) rfl;have iE:Hid (x.jd c k=((x.ino k).kind !=2||c k)):=rfl;have ct:Hid (x.jd c k=false->∀W',Below w.heap.size w W'->lK w x u (.panicked (r8 11)) W'):=λh W' hg=> .no (by rw[HP.out];exact bJ (p:=x.jd c) hkn h) hg
     have zh:Hid (x.jd c k=true->∀t,t<k+1->x.jd c t=true):=λhc t ht=>by
      rcases Nat.lt_succ_iff_lt_or_eq.1 ht with h|h
      ·exact lL.out t h
      ·rw[h];exact hc
     obtain⟨kd,fE⟩:∃kd,kd=(x.ino k).kind:=⟨_,rfl⟩;rw[<-fE] at cK iE;clear fE
     by_cases h2:kd=2
     ·cases mE:c k with
      |true=>
       have q2:(kd !=2)=false:=by simp[h2]
       rw[mE,if_pos rfl] at cC;have HF:=hid (zh.out (by rw[iE.out,mE];simp));clear mE h2;go_wp2_with fail;refine(gy 11 _).mono ?_;rintro e w3 ⟨rfl,rfl⟩;go_wp2_with fail;go_roundw
       case rel=>(try((repeat apply Exists.intro);refine⟨?_,rfl⟩));exact⟨k+1,by omega,by first|rfl|go_num,HF.out,ST.out⟩
       case measure=>simp[intOf]<;>omega
      |false=>
       have q2:(kd !=2)=false:=by simp[h2]
       rw[mE,if_neg (by decide)] at cC;have HF:=hid (ct.out (by rw[iE.out,mE,q2];rfl));clear mE h2;go_wp2_with fail;refine(gU 11 _).mono ?_;rintro e w3 ⟨rfl,rfl⟩;exact⟨rfl,HF.out _ ST.out.bel⟩
     ·have q2:(kd !=2)=true:=by simp[h2]
      have HF:=hid (zh.out (by rw[iE.out,q2];rfl));clear cC h2;go_wp2_with fail;refine(gy 11 _).mono ?_;rintro e w3 ⟨rfl,rfl⟩;go_wp2_with fail;go_roundw
      case rel=>(try((repeat apply Exists.intro);refine⟨?_,rfl⟩));exact⟨k+1,by omega,by first|rfl|go_num,HF.out,ST.out⟩
      case measure=>simp[intOf]<;>omega
    ·obtain rfl:k=x.ni+1:=by omega
     go_wp2_with fail;refine bodyPost_end (results_none rfl _ _ _) rfl ⟨ST.out.bel,.inl ⟨(aP _ _).2 (by rw[HP.out];exact lL.out),rfl⟩⟩
  ·rw[List.concat_eq_append,List.length_append] at hcn
   rw[List.concat_eq_append] at Dt hlt st ⊢;rw[List.length_append] at st ⊢;rw[List.reverse_append] at Dt;have htn:t<x.ni+1:=hlt t (by simp);have A6:Hid (∀t∈is,t<x.ni+1):=λd hd=>hlt d (by simp[hd])
   obtain⟨m,hm⟩:∃m,m=is.length:=⟨_,rfl⟩;have HPO:Hid (x.ot u f ((u t).foldl x.ey (c,is.reverse))=x.reach u):=Dt;have VZ:aE c (x.ni+1)+f=x.ni+2+m:=by simp at hcn;omega
   have hzr:=uM st.c;have hown:=st.r;rw[List.length_append] at hown;have yo:is.length+[t].length=m+1:=by rw[hm];rfl
   rw[yo] at hown st ⊢;obtain⟨r,cc,e⟩:=qY hown;injection e with e1 e2 e3
   subst e1;subst e3;have hcap:m<=cap':=by
    obtain⟨_,cq,e5,_,_,h5,_⟩:=ah.nM hown (Nat.succ_pos m);injection e5 with _ _ e5
    omega
   have cT:wr.cell? ⟨r,m,none⟩=some (.int .i64 (t:Int)):=by
    have:=ah.bI hown (pV _) m (Nat.lt_succ_self _) 0 (.int .i64 (t:Int)) (by rw[hm,pU];rfl);simpa using this
   have ST:Hid (uL w p b off x cs q g c is (.slice (some ⟨r,0,none⟩) m cap') wr):=by
    have st':=st;rw[hm] at st' ⊢;exact uL.pop st'
   obtain⟨c11,c15⟩:=gj.out _ ST.out.s.a;obtain⟨cu,_⟩:=R1.out _ ST.out.s.gr t htn;obtain⟨n,hn⟩:∃n,n=(u t).length:=⟨_,rfl⟩;have HN:=hid hn;obtain⟨ra,UZ⟩:∃a,a=ua t:=⟨_,rfl⟩;obtain⟨rc,hrc⟩:∃c,c=uc t:=⟨_,rfl⟩;have XA:Hid (∀W,w.grownBy W (some p)->cY W ra 1 n (gZ (u t))):=λW hW=>by rw[UZ,hn];exact(R1.out W hW t htn).2
   have hlen:=(HU.out t).2;rw[<-hn] at hlen;rw[<-hn,<-UZ,<-hrc] at cu;have HM:=hid hm;have OR:m<=257:=by omega
   have m0:(0:Int)<=(m:Int):=by omega
   have m1:(m:Int)<(m:Int)+1:=by omega
   clear hn UZ hrc Dt hcn hlt st hown yo e2 hm;have ht':(t:Int)<(x.ni:Int)+1:=by omega
   have t0:(0:Int)<=(t:Int):=by omega
   go_wp2_with fail;clear cT c11 c15 cu hcap;have Td:f<=x.ni+2:=by omega
   obtain⟨mm,hmm⟩:∃mm,mm=OG wr g (x.ni+1)+(m+1):=⟨_,rfl⟩;have TR:Hid (mm=f):=by show _=_;omega
   go_loopw [3,39] (λv uu wr=>∃(j:Nat) (c':Nat->Bool) (fx:List Nat) (a:Option Addr) (cap':Nat),j<=n/\uu= .int .i64 (j:Int)/\v= .slice a fx.length cap'/\((u t).take j).foldl x.ey (c,is.reverse)=(c',fx.reverse)/\aE c' (x.ni+1)+f=x.ni+2+fx.length/\(∀t∈fx,t<x.ni+1)/\uL w p b off x cs q g c' fx v wr) (λ_ uu _=>n-(intOf uu).toNat)
   case atStart=>exact⟨0,c,is,_,cap',Nat.zero_le _,rfl,by rw[<-HM.out],rfl,by rw[<-HM.out];exact VZ,A6.out,by first|exact ST.out|(rw[<-HM.out];exact ST.out)⟩
   case round=>
    clear ST;obtain⟨j,c',fx,a',cap2,hj,rfl,rfl,hfo,DC,jX,st⟩:=hrel;have ss:=hid hfo;have HL:=hid jX;have ST:=hid st;clear hfo jX st
    by_cases hjn:j<n
    ·have hj':(j:Int)<(n:Int):=by omega
     have j0:(0:Int)<=(j:Int):=by omega
     obtain⟨b',off',Ge,lF⟩:∃b' off',ra=some ⟨b',off',none⟩/\aF wr b' off' 1 n (gZ (u t)):=by
      rcases XA.out _ ST.out.s.gr with h|h
      ·omega
      ·exact h
     subst Ge;obtain⟨d,hd⟩:∃d,d=(u t).getD j 0:=⟨_,rfl⟩;have cd:wr.cell? ⟨b',off'+j,none⟩=some (.int .i64 (d:Int)):=by
      have:=lF j hjn 0 (.int .i64 (((u t).getD j 0:Nat):Int)) rfl;rw[<-hd,Nat.mul_one,Nat.add_zero] at this;exact this
     have tX:(u t)[j]? =some d:=by
      rw[hd,List.getD_eq_getElem?_getD,List.getElem?_eq_getElem (by rw[<-HN.out];exact hjn)];rfl
     have lY:d<=x.ni:=(HU.out t).1 d (List.mem_of_getElem? tX);have DA:d<x.ni+1:=by omega
     have F8:(d:Int)<(x.ni:Int)+1:=by omega
     have d0:(0:Int)<=(d:Int):=by omega
     obtain⟨c11,c15⟩:=gj.out _ ST.out.s.a;have HST:Hid (((u t).take (j+1)).foldl x.ey (c,is.reverse)=if(x.ino d).kind=2/\c' d=false then(af c' d true,d::fx.reverse) else(c',fx.reverse)):=by
      show _=_;rw[List.take_add_one,tX,List.foldl_append,ss.out]
      rfl
     have cK:wr.cell? ⟨q,d*16,none⟩=some (.int .u8 (x.ino d).kind):=ST.out.s.ino (t:=d) DA 0 rfl;have cC:=ST.out.c.jU DA (v:=.int .i64 (if c' d then 1 else 0)) rfl;have fC:=ST.out.c.soft d;obtain⟨kd,fE⟩:∃kd,kd=(x.ino d).kind:=⟨_,rfl⟩;rw[<-fE] at cK HST;clear fE hd tX lF;have ym:¬(kd=2/\c' d=false)->Hid (((u t).take (j+1)).foldl x.ey (c,is.reverse)=(c',fx.reverse)):=λh=>by
      show _=_;rw[HST.out,if_neg h]
     by_cases h2:kd=2
     ·cases mE:c' d with
      |true=>
       have q2:(kd==2)=true:=by simp[h2]
       have HF:=ym (by rw[mE];simp);rw[mE,if_pos rfl] at cC;clear mE h2 fC ym;go_wp2_with fail;go_roundw
       case rel=>(try((repeat apply Exists.intro);refine⟨?_,rfl⟩));exact⟨j+1,c',fx,_,_,by omega,by first|rfl|go_num,rfl,HF.out,DC,HL.out,ST.out⟩
       case measure=>simp[intOf]<;>omega
      |false=>
       have q2:(kd==2)=true:=by simp[h2]
       have HF:Hid (((u t).take (j+1)).foldl x.ey (c,is.reverse)=(af c' d true,(fx++[d]).reverse)):=by
        show _=_;rw[HST.out,if_pos ⟨h2,mE⟩,List.reverse_append];rfl
       rw[mE,if_neg (by decide)] at cC;have Cc:Hid (aE (af c' d true) (x.ni+1)+f=x.ni+2+(fx++[d]).length):=by
        show _=_;rw[fH DA mE,List.length_append];simp;omega
       have je:Hid (∀t∈fx++[d],t<x.ni+1):=λt ht=>by
        rcases List.mem_append.1 ht with h|h
        ·exact HL.out t h
        ·simp at h;omega
       have RN:=hid (ST.out.mark (t:=d) DA oC hbg BG sH.out);have hil:fx.length<=600000:=by have:=eF c' (x.ni+1);omega
       obtain⟨W4,OX⟩:∃W4,W4=wr.setCell ⟨g,d,none⟩ (.int .i64 1):=⟨_,rfl⟩;rw[<-OX] at RN;obtain⟨i0,hi0,hz0,hz1,hz2⟩:=oz;have hown2:World.ownsRow (W4.alloc (.cells #[.int .i64 (d:Int)] 3)) (g+1) 3 1 (.slice a' fx.length cap2) fx.length (Cs (gZ fx) fx.length):=World.ownsRow.alloc RN.out.r _;have hnews:∀i u,([.int .i64 (d:Int)]:List Value)[i]? =some u->(W4.alloc (.cells #[.int .i64 (d:Int)] 3)).cell? ((⟨W4.heap.size,0,none⟩:Addr).add i)=some u:=λi u hu=>by
        cases i with
        |zero=>
         injection hu with hu
         subst hu;exact(At.new W4 3 #[.int .i64 (d:Int)]).cell (i:=0) rfl
        |succ i=>cases hu
       have h1c:∀u∈([.int .i64 (d:Int)]:List Value),u.oneCell'=true:=λu hu=>by simp at hu;subst hu;rfl
       have hbase:g+1<=(W4.alloc (.cells #[.int .i64 (d:Int)] 3)).heap.size:=by have:=RN.out.c.lt;simp;omega
       have vX:Below W4.heap.size W4 (W4.alloc (.cells #[.int .i64 (d:Int)] 3)):=(Below.refl _ _).alloc (Nat.le_refl _) _;have nR:=hid (RN.out.below vX);clear mE h2 ym ST RN vX;subst OX;go_wp2_with (first|(refine dt rfl 37 1 0 (.tmp 63) rfl (.int .i64 (d:Int)) rfl _ _ (lz (d:Int) _) ?_)|(refine wpList_append_own _ rfl (.tmp 62) (.tmp 64) 37 rfl (g+1) 3 i0 (.int .i64 0) 1 8 Tryz.underlying37 hi0 hz0 hz1 hz2 rfl (by decide) (.slice a' fx.length cap2) fx.length _ rfl hown2 ⟨(wr.setCell ⟨g,d,none⟩ (.int .i64 1)).heap.size,0,none⟩ 1 1 [.int .i64 (d:Int)] rfl rfl hnews h1c (by unfold maxLen;omega) (by omega) hbase ?_))
       intro v' PH rG Dy _;have fv:=hid (nR.out.app hpw rL Av sH.out (d:=d) Dy rG);obtain⟨ga,gc,rfl⟩:=qY rG;clear nR hown2 hnews h1c hbase rG Dy;go_wp2_with fail;go_roundw
       case rel=>(try((repeat apply Exists.intro);refine⟨?_,rfl⟩));exact⟨j+1,_,fx++[d],_,_,by omega,by first|rfl|go_num,by rw[List.length_append];rfl,HF.out,Cc.out,je.out,fv.out⟩
       case measure=>simp[intOf]<;>omega
     ·have q2:(kd==2)=false:=by simp[h2]
      have HF:=ym (λh=>h2 h.1);clear cC h2 fC ym;go_wp2_with fail;go_roundw
      case rel=>(try((repeat apply Exists.intro);refine⟨?_,rfl⟩));exact⟨j+1,c',fx,_,_,by omega,by first|rfl|go_num,rfl,HF.out,DC,HL.out,ST.out⟩
      case measure=>simp[intOf]<;>omega
    ·obtain rfl:j=n:=by omega
     have uH:Hid (x.ot u f (c',fx.reverse)=x.reach u):=by
      have h1:=ss.out;rw[HN.out,List.take_length] at h1;have h2:=HPO.out;rw[h1] at h2;exact h2
     have hz2:=uM ST.out.c;go_wp2_with fail;go_roundw
     case rel=>(try((repeat apply Exists.intro);refine⟨?_,rfl⟩));exact⟨f,c',fx,_,_,rfl,uH.out,DC,Td,HL.out,ST.out⟩
     case measure=>simp[Yk]<;>omega
theorem sd{z:Nat->Int}(hz:bm z)(I:Int)(i:Nat)(h0:I=(i:Int))(hi:i<=2048)(w:World):
  Calls Tryz.prog 134 #[aL z,.int .i64 I] w λe w'=>e= .returned (.int .i64 ((aE (bt z) i:Nat):Int))/\Below w.heap.size w w':=by
 rw[oJ hz,h0];exact wD (bt z) i hi w
structure Pz(w:World)(p b off:Nat)(x:Im)(cs:Array Value)(q db:Nat)(ef:Nat)(W:World):Prop where
 s:ji w p b off x cs q W
 d:aF W db ef 3 x.g (df (rB (x.L 1)) (rI (x.L 1)) (rD (x.L 1)))
 dl:db<w.heap.size
 bel:Below w.heap.size w W
theorem Pz.below{W:World}(h:Pz w p b off x cs q db ef W)(hb:Below W.heap.size W W'):Pz w p b off x cs q db ef W':=
 ⟨h.s.below hb,aF.below h.d hb (Nat.lt_of_lt_of_le h.dl h.bel.size),h.dl,h.bel.trans (hb.mono h.bel.size)⟩
structure sw(w:World)(p b off:Nat)(x:Im)(cs:Array Value)(q db:Nat)(ef:Nat)(G:Nat)(u v n:Int)(W:World):Prop where
 s:Pz w p b off x cs q db ef W
 g:At W G 67 #[.int .i64 u,.int .i64 v,.int .i64 n]
 lo:w.heap.size<=G
theorem sw.below{u n:Int}{W:World}(h:sw w p b off x cs q db ef G u v n W)(hb:Below W.heap.size W W'):sw w p b off x cs q db ef G u v n W':=
 ⟨h.s.below hb,h.g.below hb h.g.lt,h.lo⟩
theorem sw.set{u n:Int}{W:World}(h:sw w p b off x cs q db ef G u v n W)(hp:p<w.heap.size)(hb:b<w.heap.size)(hq:q<w.heap.size)(i:Nat)(z:Value){u' v' n':Int}(he:(#[.int .i64 u,.int .i64 v,.int .i64 n]:Array Value).setIfInBounds i z= #[.int .i64 u',.int .i64 v',.int .i64 n']):
  sw w p b off x cs q db ef G u' v' n' (W.setCell ⟨G,i,none⟩ z):=by
 have ho:an G W (W.setCell ⟨G,i,none⟩ z):=an.setCell W ⟨G,i,none⟩ z;have hl:=h.lo;have hd:=h.s.dl;refine⟨⟨h.s.s.only ho (by omega) (by omega) (by omega) hl,aF.only h.s.d ho (by omega),hd,h.s.bel.trans ((ho.below (Nat.le_refl _)).mono hl)⟩,?_,hl⟩;have:=h.g.xw i z;rw[he] at this;exact this
theorem wu(p b off cap dc:Nat)(x:Im)(hx:x.Ok)(ak own sl un:Value)(q db ef:Nat)(w:World)(hpw:p<w.heap.size)(rL:b<w.heap.size)(Av:q<w.heap.size)(Tf:db<w.heap.size)
  (h:ji w p b off x (XC b off cap x (.slice (some ⟨db,ef,none⟩) x.g dc) (.slice (some ⟨q,0,none⟩) (x.ni+1) (x.ni+1)) ak own sl un) q w)
  (hd:aF w db ef 3 x.g (df (rB (x.L 1)) (rI (x.L 1)) (rD (x.L 1)))):
  Calls Tryz.prog 86 #[.pointer (some ⟨p,0,none⟩)] w λe w'=>pD (aD x.jc x.g) 12 e/\Below w.heap.size w w':=by
 have HX:=hid hx;obtain⟨h1,h2,h3,h4,h5,h6,h7,h8,h9,h10,h11⟩:=dL hx.may;have fY:=hx.iu;have hni:x.ni<=256:=eK hx.may;obtain⟨cs,hcs⟩:∃cs,cs=XC b off cap x (.slice (some ⟨db,ef,none⟩) x.g dc) (.slice (some ⟨q,0,none⟩) (x.ni+1) (x.ni+1)) ak own sl un:=⟨_,rfl⟩;have gj:Hid (∀W,At W p 105 cs->W.cell? ⟨p,0,none⟩=some (.slice (some ⟨b,off,none⟩) x.n cap)/\W.cell? ⟨p,10,none⟩=some (.slice (some ⟨db,ef,none⟩) x.g dc)/\W.cell? ⟨p,11,none⟩=some (.slice (some ⟨q,0,none⟩) (x.ni+1) (x.ni+1))/\W.cell? ⟨p,6,none⟩=some (.int .i64 (x.g:Int))/\W.cell? ⟨p,7,none⟩=some (.int .i64 (x.s:Int))/\W.cell? ⟨p,8,none⟩=some (.int .i64 (x.i:Int))/\XG p x.g x.s x.i x.j W):=λW h=>by
  rw[hcs] at h;exact⟨h.cell (i:=0) rfl,h.cell (i:=10) rfl,h.cell (i:=11) rfl,h.cell (i:=6) rfl,h.cell (i:=7) rfl,h.cell (i:=8) rfl,XG.of h⟩
 rw[<-hcs] at h;have cX:Hid (Pz w p b off x cs q db ef w):=⟨h,hd,Tf,Below.refl _ _⟩;have c6:=(gj.out _ h.a).2.2.2.1;clear h hcs hx hd;have hzd:=nZ;go_enter Tryz.func86,Tryz.ntmps86;go_wp2_with fail;clear c6;go_loopw [11] (λu wr=>∃k:Nat,k<=x.g/\u= .int .i64 (k:Int)/\(∀γ,γ<k->x.jc γ=true)/\Pz w p b off x cs q db ef wr) (λu _=>x.g-(intOf u).toNat)
 case atStart=>exact⟨0,Nat.zero_le _,rfl,λq h=>by omega,cX.out⟩
 case round=>
  clear cX;obtain⟨k,hk,rfl,hP,st⟩:=hrel;have lL:=hid hP;have ST:=hid st;clear hP st
  by_cases hlt:k<x.g
  ·have hlt':(k:Int)<(x.g:Int):=by omega
   have ct:Hid (x.jc k=false->pD (aD x.jc x.g) 12 (.panicked (r8 12))):=λh=> .inr ⟨bJ hlt h,rfl⟩
   have zh:Hid (x.jc k=true->∀γ,γ<k+1->x.jc γ=true):=λhc γ hγ=>by
    rcases Nat.lt_succ_iff_lt_or_eq.1 hγ with h|h
    ·exact lL.out γ h
    ·rw[h];exact hc
   go_wp2_with fail;refine(iU p x.g x.s x.i x.j k HX.out.may hlt wr (gj.out _ ST.out.s.a).2.2.2.2.2.2).mono ?_;rintro e w1 ⟨rfl,hb1⟩;have aV:=ST.out.below hb1;have HQ:Hid (2+x.j+k*x.s=x.st k):=rfl;rw[HQ.out];obtain⟨Q,hQ⟩:∃Q,Q=x.st k:=⟨_,rfl⟩;have Ia:=hid hQ;have Tk:Q<x.n:=by have:=HX.out.st hlt (d:=0) (by omega);rw[Nat.add_zero] at this;omega
   have hQ1:Q+1<x.n:=by have:=HX.out.st hlt (d:=1) (by omega);omega
   have adR:(Q:Int)<(x.n:Int):=by omega
   have adP:(Q:Int)+1<(x.n:Int):=by omega
   have Qn0:(0:Int)<=(Q:Int):=by omega
   have Qn1:(0:Int)<=(Q:Int)+1:=by omega
   have gX:Hid (sw w p b off x cs q db ef w1.heap.size 0 0 0 (w1.alloc (.cells #[.int .i64 0,.int .i64 0,.int .i64 0] 67))):=
    ⟨aV.below ((Below.refl _ _).alloc (Nat.le_refl _) _),At.new _ _ _,aV.bel.size⟩
   rw[<-hQ];clear hQ HQ ST aV hb1;go_wp2_with fail;obtain⟨G,hG⟩:∃G,G=w1.heap.size:=⟨_,rfl⟩;rw[<-hG] at gX ⊢;clear hG;have hb0:=gW (bt (x.L Q)) x.s;obtain⟨c0,hc0⟩:∃c,c=aE (bt (x.L Q)) x.s:=⟨_,rfl⟩;have Ow:=hid hc0;have SE:Hid (∀W,Calls Tryz.prog 134 #[aL (x.L Q),.int .i64 (x.s:Int)] W λe w'=>e= .returned (.int .i64 ((c0:Nat):Int))/\Below W.heap.size W w'):=λW=>by rw[hc0];exact sd (HX.out.jg Q) _ x.s rfl (by omega) W
   rw[<-hc0] at hb0;clear hc0;have Wh:(c0:Int)<=(x.s:Int):=by omega
   refine aA (sw w p b off x cs q db ef G 0 0 0) 20 (by kernel_rfl) (by kernel_rfl) (by kernel_rfl) (by kernel_rfl) (by kernel_rfl) (by decide) (gX.out.below (Below.refl _ _).drew) ?_;clear gX;simp only[List.take,List.drop];intro hne;have AE:∀z:aT (sw w p b off x cs q db ef G 0 0 0),z.W.cell? ⟨p,0,none⟩=some (.slice (some ⟨b,off,none⟩) x.n cap):=λz=>(gj.out _ z.h.s.s.a).1
   have Wb:∀z:aT (sw w p b off x cs q db ef G 0 0 0),z.W.cell? ⟨p,7,none⟩=some (.int .i64 (x.s:Int)):=λz=>(gj.out _ z.h.s.s.a).2.2.2.2.1
   repeat go_big_quiet_step (fail)
   refine aH rfl 32 (.tmp 27) rfl b (off+Q*256) rfl (dW x.L Q) _ (λW h=>aF.range h.s.s.i Q Tk) Tryz.underlying32 rfl (by rw[aZ];exact au) ?_;refine ae ?_
   repeat go_big_quiet_step (fail)
   go_big_quiet_want
   go_big_quiet_op
   refine⟨_,λs=>aG s (λW hW=>(SE.out W).mono λe w' h=>⟨h.1,hW.below h.2⟩),?_⟩
   go_big_quiet_on
   repeat go_big_quiet_step (fail)
   refine wpQuiet_nil ?_;intro w6 h6';have gX:=hid h6'.out;clear h6' hne AE Wb;have cG0:=gX.out.g.cell (i:=0) (v:=.int .i64 0) rfl;have ZY:w6.frozen? ⟨G,0,none⟩=false:=ag gX.out.g 0;have LJ:Hid (sw w p b off x cs q db ef G ((x.s:Int)-(c0:Int)) 0 0 (w6.setCell ⟨G,0,none⟩ (.int .i64 ((x.s:Int)-(c0:Int))))):=gX.out.set hpw rL Av 0 _ rfl;clear gX;go_wp2_with fail;obtain⟨F,hF⟩:∃F,F=(x.s:Int)-(c0:Int):=⟨_,rfl⟩;have HF:=hid hF;rw[<-hF] at LJ ⊢;clear hF;generalize w6.setCell ⟨G,0,none⟩ (.int .i64 F)=w7 at LJ ⊢;clear cG0 ZY hb0 Wh SE;have hb1:=gW (bt (x.L (Q+1))) x.i;obtain⟨c1,hc1⟩:∃c,c=aE (bt (x.L (Q+1))) x.i:=⟨_,rfl⟩;have iX:=hid hc1;have D3:Hid (∀W,Calls Tryz.prog 134 #[aL (x.L (Q+1)),.int .i64 (x.i:Int)] W λe w'=>e= .returned (.int .i64 ((c1:Nat):Int))/\Below W.heap.size W w'):=λW=>by rw[hc1];exact sd (HX.out.jg (Q+1)) _ x.i rfl (by omega) W
   rw[<-hc1] at hb1;clear hc1;have Wg:(c1:Int)<=(x.i:Int):=by omega
   refine aA (sw w p b off x cs q db ef G F 0 0) 21 (by kernel_rfl) (by kernel_rfl) (by kernel_rfl) (by kernel_rfl) (by kernel_rfl) (by decide) (LJ.out.below (Below.refl _ _).drew) ?_;clear LJ;simp only[List.take,List.drop];intro hne;have AE:∀z:aT (sw w p b off x cs q db ef G F 0 0),z.W.cell? ⟨p,0,none⟩=some (.slice (some ⟨b,off,none⟩) x.n cap):=λz=>(gj.out _ z.h.s.s.a).1
   have Wa:∀z:aT (sw w p b off x cs q db ef G F 0 0),z.W.cell? ⟨p,8,none⟩=some (.int .i64 (x.i:Int)):=λz=>(gj.out _ z.h.s.s.a).2.2.2.2.2.1
   repeat go_big_quiet_step (fail)
   refine aH rfl 32 (.tmp 48) rfl b (off+(Q+1)*256) rfl (dW x.L (Q+1)) _ (λW h=>aF.range h.s.s.i (Q+1) hQ1) Tryz.underlying32 rfl (by rw[aZ];exact au) ?_;refine ae ?_
   repeat go_big_quiet_step (fail)
   go_big_quiet_want
   go_big_quiet_op
   refine⟨_,λs=>aG s (λW hW=>(D3.out W).mono λe w' h=>⟨h.1,hW.below h.2⟩),?_⟩
   go_big_quiet_on
   repeat go_big_quiet_step (fail)
   refine wpQuiet_nil ?_;intro w8 WJ;have gX:=hid WJ.out;clear WJ hne AE Wa;have WT:=gX.out.g.cell (i:=1) (v:=.int .i64 0) rfl;have WM:w8.frozen? ⟨G,1,none⟩=false:=ag gX.out.g 1;have LJ:Hid (sw w p b off x cs q db ef G F ((x.i:Int)-(c1:Int)) 0 (w8.setCell ⟨G,1,none⟩ (.int .i64 ((x.i:Int)-(c1:Int))))):=gX.out.set hpw rL Av 1 _ rfl;have c8:=(gj.out _ LJ.out.s.s.a).2.2.2.2.2.1;clear gX;go_wp2_with fail;clear c8;obtain⟨E,hE⟩:∃E,E=(x.i:Int)-(c1:Int):=⟨_,rfl⟩;have HE:=hid hE;clear hE WT WM hb1 Wg D3;go_loopw [63] (λu wr=>∃d:Nat,d<=x.i/\u= .int .i64 (d:Int)/\sw w p b off x cs q db ef G F E ((aE (λb=>(x.ino (k*x.i+b+1)).kind==2) d:Nat):Int) wr) (λu _=>x.i-(intOf u).toNat)
   case atStart=>exact⟨0,Nat.zero_le _,rfl,by rw[HE.out];exact LJ.out⟩
   case round=>
    clear LJ;obtain⟨d,hd,rfl,st⟩:=hrel;have ST:=hid st;clear st
    by_cases hdi:d<x.i
    ·have VU:(d:Int)<(x.i:Int):=by omega
     have d0:(0:Int)<=(d:Int):=by omega
     have hkn:k*x.i+d+1<x.ni+1:=by
      have h1:=Nat.mul_le_mul_right x.i (show k+1<=x.g from hlt);rw[Nat.succ_mul] at h1;unfold Im.ni;omega
     obtain⟨cn,hcn⟩:∃cn,cn=aE (λb=>(x.ino (k*x.i+b+1)).kind==2) d:=⟨_,rfl⟩;have QZ:cn<=d:=by rw[hcn];exact gW _ _
     obtain⟨t,ht⟩:∃t,t=k*x.i+d+1:=⟨_,rfl⟩;have hnx:aE (λb=>(x.ino (k*x.i+b+1)).kind==2) (d+1)=cn+((x.ino t).kind==2).toNat:=by rw[dU,<-hcn,ht]
     have pk:=hid hnx;have Sn:Hid (∀W,Calls Tryz.prog 135 #[bN x.g x.s x.i x.j,.int .i64 (k:Int),.int .i64 (d:Int)] W λe w'=>e= .returned (.int .i64 ((t:Nat):Int))/\Below W.heap.size W w'):=λW=>by rw[ht];exact s7 x.g x.s x.i x.j k d HX.out.may hlt hdi W
     rw[<-ht] at hkn;rw[<-hcn] at ST;clear ht hcn hnx;have Vw:(t:Int)<(x.ni:Int)+1:=by omega
     have t0:(0:Int)<=(t:Int):=by omega
     obtain⟨kd,fE⟩:∃kd,kd=(x.ino t).kind:=⟨_,rfl⟩;have Ca:Hid (∀W,sw w p b off x cs q db ef G F E (cn:Int) W->W.cell? ⟨q,t*16,none⟩=some (.int .u8 kd)):=λW h=>by rw[fE];exact h.s.s.ino (t:=t) hkn 0 rfl
     rw[<-fE] at pk;clear fE;go_wp2_with fail;refine ai (sw w p b off x cs q db ef G F E (cn:Int)) (by kernel_rfl) (by kernel_rfl) (ST.out.below (Below.refl _ _).drew) ?_;clear ST;intro hne;have F9:∀z:aT (sw w p b off x cs q db ef G F E (cn:Int)),z.W.cell? ⟨p,11,none⟩=some (.slice (some ⟨q,0,none⟩) (x.ni+1) (x.ni+1)):=λz=>(gj.out _ z.h.s.s.a).2.2.1
     have mE:∀z:aT (sw w p b off x cs q db ef G F E (cn:Int)),z.W.cell? ⟨q,t*16,none⟩=some (.int .u8 kd):=λz=>Ca.out _ z.h
     repeat go_big_quiet_step (fail)
     refine aH rfl 23 (.tmp 72) rfl p 6 rfl (aa x.g x.s x.i x.j).toList _ (λW h=>(gj.out _ h.s.s.a).2.2.2.2.2.2) Tryz.underlying23 rfl (by kernel_rfl) ?_;refine ae ?_
     repeat go_big_quiet_step (fail)
     go_big_quiet_want
     go_big_quiet_op
     refine⟨_,λs=>aG s (λW hW=>(Sn.out W).mono λe w' h=>⟨h.1,hW.below h.2⟩),?_⟩
     go_big_quiet_on
     repeat go_big_quiet_step (fail)
     refine wpQuiet_nil ?_;intro w9 Gi;have gX:=hid Gi.out;clear Gi hne F9 mE;have cG2:=gX.out.g.cell (i:=2) (v:=.int .i64 (cn:Int)) rfl;have fG2:w9.frozen? ⟨G,2,none⟩=false:=ag gX.out.g 2;have VY:cn<=64:=by omega
     have cn0:(0:Int)<=(cn:Int):=by omega
     by_cases hk2:kd=2
     ·have q2:(kd==2)=true:=by simp[hk2]
      have HN:Hid (((aE (λb=>(x.ino (k*x.i+b+1)).kind==2) (d+1):Nat):Int)=(cn:Int)+1):=by show _=_;rw[pk.out,q2];rfl
      have fv:Hid (sw w p b off x cs q db ef G F E ((cn:Int)+1) (w9.setCell ⟨G,2,none⟩ (.int .i64 ((cn:Int)+1)))):=gX.out.set hpw rL Av 2 _ rfl;clear hk2 gX;go_wp2_with fail;go_roundw
      case rel=>(try((repeat apply Exists.intro);refine⟨?_,rfl⟩));exact⟨d+1,by omega,by first|rfl|go_num,by rw[HN.out];exact fv.out⟩
      case measure=>simp[intOf]<;>omega
     ·have q2:(kd==2)=false:=by simp[hk2]
      have HN:Hid (((aE (λb=>(x.ino (k*x.i+b+1)).kind==2) (d+1):Nat):Int)=(cn:Int)):=by show _=_;rw[pk.out,q2];rfl
      clear hk2;go_wp2_with fail;go_roundw
      case rel=>(try((repeat apply Exists.intro);refine⟨?_,rfl⟩));exact⟨d+1,by omega,by first|rfl|go_num,by rw[HN.out];exact gX.out⟩
      case measure=>simp[intOf]<;>omega
    ·obtain rfl:d=x.i:=by omega
     obtain⟨N,hN⟩:∃N:Int,N=((aE (λb=>(x.ino (k*x.i+b+1)).kind==2) x.i:Nat):Int):=⟨_,rfl⟩;have sZ:∀W,(binOp .eql 67 (.agg #[.int .i64 F,.int .i64 E,.int .i64 N]) (.agg #[.int .i64 (rB (x.L 1) k),.int .i64 (rI (x.L 1) k),.int .i64 (rD (x.L 1) k)])).run Tryz.prog W= .ok (.bool (Gw F E N (rB (x.L 1) k) (rI (x.L 1) k) (rD (x.L 1) k))) W:=λW=>ng _ _ _ _ _ _ W
     have iE:Hid (x.jc k=Gw F E N (rB (x.L 1) k) (rI (x.L 1) k) (rD (x.L 1) k)):=by
      show _=_;rw[HF.out,HE.out,Ow.out,iX.out,Ia.out,hN];rfl
     have k0:(0:Int)<=(k:Int):=by omega
     rw[<-hN] at ST;clear hN;obtain⟨c,hc⟩:∃c,c=Gw F E N (rB (x.L 1) k) (rI (x.L 1) k) (rD (x.L 1) k):=⟨_,rfl⟩;rw[<-hc] at sZ iE;clear hc;go_wp2_with fail;refine aA (sw w p b off x cs q db ef G F E N) 9 (by kernel_rfl) (by kernel_rfl) (by kernel_rfl) (by kernel_rfl) (by kernel_rfl) (by decide) (ST.out.below (Below.refl _ _).drew) ?_;clear ST;simp only[List.take,List.drop];intro hne;have Nu:∀z:aT (sw w p b off x cs q db ef G F E N),z.W.cell? ⟨p,10,none⟩=some (.slice (some ⟨db,ef,none⟩) x.g dc):=λz=>(gj.out _ z.h.s.s.a).2.1
     refine aH rfl 67 (.tmp 4) rfl G 0 rfl [.int .i64 F,.int .i64 E,.int .i64 N] _ (λW h=>h.g.range) Tryz.underlying67 rfl (by kernel_rfl) ?_;refine ae ?_
     repeat go_big_quiet_step (fail)
     refine aH rfl 67 (.tmp 92) rfl db (ef+k*3) rfl [.int .i64 (rB (x.L 1) k),.int .i64 (rI (x.L 1) k),.int .i64 (rD (x.L 1) k)] _ (λW h=>aF.range h.s.d k hlt) Tryz.underlying67 rfl (by kernel_rfl) ?_;refine ae ?_
     repeat go_big_quiet_step (fail)
     refine wpQuiet_nil ?_;intro w9 Gi;have gX:=hid Gi.out;clear Gi hne Nu sZ;go_wp2_with fail;refine(bw 12 c _).mono ?_;rintro e po ⟨hS,rfl⟩;rcases hS with⟨hct,rfl⟩|⟨hct,rfl⟩
     rotate_left
     ·exact⟨rfl,ct.out (iE.out.trans hct),gX.out.s.bel⟩
     have Ba:=hid (zh.out (iE.out.trans hct));clear hct;go_wp2_with fail;go_roundw
     case rel=>(try((repeat apply Exists.intro);refine⟨?_,rfl⟩));exact⟨k+1,by omega,by first|rfl|go_num,Ba.out,gX.out.s⟩
     case measure=>simp[intOf]<;>omega
  ·obtain rfl:k=x.g:=by omega
   go_wp2_with fail;refine bodyPost_end (results_none rfl _ _ _) rfl ⟨.inl ⟨(aP _ _).2 lL.out,rfl⟩,ST.out.bel⟩
end Go.Proofs.YtphamecphmbipaaGreatDoor
