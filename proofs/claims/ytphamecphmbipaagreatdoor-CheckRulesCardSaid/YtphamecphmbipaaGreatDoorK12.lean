/- Texts of this claim, merged. -/
import Derived.Test.YtphamecphmbipaaGreatDoorK11
set_option linter.unusedVariables false
set_option maxRecDepth 100000
set_option maxHeartbeats 16000000

namespace Go.Proofs.YtphamecphmbipaaGreatDoor
open Go.RowKit
open Lib (hid)
variable {g s i j b:Nat} {γ:Int}
theorem s8(G S I J:Int)(w:World):Calls Tryz.prog 126 #[bN G S I J] w λe w'=>e= .returned (.int .i64 (oV G S I J))/\Below w.heap.size w w':=by
 have HA:=hid (At.new w 23 (aa G S I J));have HL:Hid (Below w.heap.size w (w.alloc (.cells (aa G S I J) 23))):=(Below.refl _ _).alloc (Nat.le_refl _) _;go_enter Tryz.func126,Tryz.ntmps126;have hA:=HA.out;go_wp2_with (first|(refine ar rfl 23 _ rfl _ _ _ rfl hA Tryz.underlying23 rfl (by kernel_rfl) ?_))
 refine(eu G S I J _).mono ?_;rintro e w1 ⟨rfl,hb1⟩;have gJ:=hA.below hb1 hA.lt;have fR:Below w.heap.size w w1:=HL.out.trans (hb1.mono HL.out.size);clear hA HA HL hb1;cases hm:aM G S I J with
 |false=>
  have HN:Hid (oV G S I J=0):=by show _=_;unfold oV;rw[hm];rfl
  clear hm;go_wp2_with fail;go_ret;exact⟨by rw[HN.out];rfl,fR⟩
 |true=>
  have HN:Hid (oV G S I J=2+J+G*S):=by show _=_;unfold oV;rw[hm];rfl
  obtain⟨h1,h2,h3,h4,h5,h6,h7,h8,h9,h10,h11⟩:=(aX G S I J).1 hm;have hg0:0<=G*S:=Int.mul_nonneg (by omega) (by omega);have hw:IntKind.i64.wrap (G*S)=G*S:=IntWalk.i64_in _ (by omega);have hw1:IntKind.i64.wrap (2+J)=2+J:=IntWalk.i64_in _ (by omega);have hw2:IntKind.i64.wrap (2+J+G*S)=2+J+G*S:=IntWalk.i64_in _ (by omega);have c0:w1.cell? ⟨w.heap.size,0,none⟩=some (.int .i64 G):=gJ.cell (i:=0) rfl;have c1:w1.cell? ⟨w.heap.size,1,none⟩=some (.int .i64 S):=gJ.cell (i:=1) rfl;have c3:w1.cell? ⟨w.heap.size,3,none⟩=some (.int .i64 J):=gJ.cell (i:=3) rfl;clear hm h11;go_wp2_with fail;go_ret;exact⟨by rw[HN.out];rfl,fR⟩
def ru(G S I J k:Int):Bool:=aM G S I J&&(decide (0<=k)&&decide (k<G))
def zK(G S I J k:Int):Int:=if ru G S I J k then 2+J+k*S else 0
theorem vZ(G S I J k:Int)(w:World):Calls Tryz.prog 18 #[bN G S I J,.int .i64 k] w λe w'=>e= .returned (.tuple #[.int .i64 (zK G S I J k),.bool (ru G S I J k)])/\Below w.heap.size w w':=by
 have HA:=hid (At.new w 23 (aa G S I J));have HL:Hid (Below w.heap.size w (w.alloc (.cells (aa G S I J) 23))):=(Below.refl _ _).alloc (Nat.le_refl _) _;go_enter Tryz.func18,Tryz.ntmps18;have hA:=HA.out;go_wp2_with (first|(refine ar rfl 23 _ rfl _ _ _ rfl hA Tryz.underlying23 rfl (by kernel_rfl) ?_))
 refine(eu G S I J _).mono ?_;rintro e w1 ⟨rfl,hb1⟩;have gJ:=hA.below hb1 hA.lt;have fR:Below w.heap.size w w1:=HL.out.trans (hb1.mono HL.out.size);clear hA HA HL hb1;have c0:w1.cell? ⟨w.heap.size,0,none⟩=some (.int .i64 G):=gJ.cell (i:=0) rfl;have c1:w1.cell? ⟨w.heap.size,1,none⟩=some (.int .i64 S):=gJ.cell (i:=1) rfl;have c3:w1.cell? ⟨w.heap.size,3,none⟩=some (.int .i64 J):=gJ.cell (i:=3) rfl;cases hm:aM G S I J with
 |false=>
  have HN:Hid (ru G S I J k=false):=by show _=_;unfold ru;rw[hm];rfl
  clear hm;go_wp2_with fail
  go_ret2
  exact⟨by unfold zK;rw[HN.out];rfl,fR⟩
 |true=>
  obtain⟨h1,h2,h3,h4,h5,h6,h7,h8,h9,h10,h11⟩:=(aX G S I J).1 hm;have HD:Hid (ru G S I J k=(decide (0<=k)&&decide (k<G))):=by show _=_;unfold ru;rw[hm];rfl
  clear hm h11
  by_cases k0:k<0
  ·have HN:Hid (ru G S I J k=false):=by show _=_;rw[HD.out];simp;omega
   have q0:decide (k<0)=true:=decide_eq_true k0;go_wp2_with fail
   go_ret2
   exact⟨by unfold zK;rw[HN.out];rfl,fR⟩
  have q0:decide (k<0)=false:=decide_eq_false k0
  by_cases k1:G<=k
  ·have HN:Hid (ru G S I J k=false):=by show _=_;rw[HD.out];simp;omega
   have q1:decide (G<=k)=true:=decide_eq_true k1;go_wp2_with fail
   go_ret2
   exact⟨by unfold zK;rw[HN.out];rfl,fR⟩
  have q1:decide (G<=k)=false:=decide_eq_false k1;have HN:Hid (ru G S I J k=true):=by show _=_;rw[HD.out];simp;omega
  have hg0:0<=k*S:=Int.mul_nonneg (by omega) (by omega);have hg1:k*S<=4*512:=Int.mul_le_mul (by omega) h4 (by omega) (by omega);have hw:IntKind.i64.wrap (k*S)=k*S:=IntWalk.i64_in _ (by omega);have hw1:IntKind.i64.wrap (2+J)=2+J:=IntWalk.i64_in _ (by omega);have hw2:IntKind.i64.wrap (2+J+k*S)=2+J+k*S:=IntWalk.i64_in _ (by omega);go_wp2_with fail
  go_ret2
  exact⟨by unfold zK;rw[HN.out];rfl,fR⟩
structure Xo(w:World)(G S I J:Int)(W:World):Prop where
 g:At W w.heap.size 23 (aa G S I J)
 bel:Below w.heap.size w W
theorem yj:(Tryz.prog.info? 32).map (λi=>(i.zero,i.size,i.bytes))=some (some (aL λ_=>0),256,256):=by kernel_rfl
theorem xy(n:Nat)(hn:n<=2048)(W:World):(Instr.makeSlice 29 (.int .i64 (n:Int)) (.int .i64 (n:Int))).run Tryz.prog W= .ok (.slice (some ⟨W.heap.size,0,none⟩) n n) (W.alloc (.cells (madeCells (aL λ_=>0).cells (n*256)) 32)):=
 dg (P:=Tryz.prog) 29 32 (aL λ_=>0) 256 256 Tryz.underlying29 yj .i64 .i64 n (by omega) (by omega) W
theorem Aq(w:World)(n:Nat):az (w.alloc (.cells (madeCells (aL λ_=>0).cells (n*256)) 32)) w.heap.size 32 256 n (λ_=>Ks .u8 256 (λ_=>0)):=
 az.made (m:=256) w (Ks .u8 256 (λ_=>0)).toArray (by simp[Ks]) (by omega) n 32
def oQ:aK:=⟨2,1,1,0,λ_=>0,0⟩
def EY:Nat->Int:=over (λ_=>0) 0 64 oQ.byte
def O9(G S I J:Int):Nat->Int:=λ_=>sX G S I J
def Hr(I:Int):Nat->Int:=λi=>if i=0 then I-1 else I
def Hs:Nat->Int:=λi=>if i=0 then 1 else 0
def La(g s i j:Nat)(b:Nat):Nat->Int:=
 if b=0 then n7 g s i j 0 else if b=1 then kh g s i j g (O9 g s i j) (Hr i) Hs else if b=2 then kT 1 0
 else if b<2+j thenλ_=>0
 else if(b-(2+j))%s=0 then bZ (kQ (2+i/4) s)
 else if(b-(2+j))%s=1 then bZ (kQ (if(b-(2+j))/s=0 then 1 else 0) i)
 elseλ_=>0
def iw(g s i j:Nat)(b:Nat):Nat->Int:=if b=2+j+2 then EY else La g s i j b
theorem dL(hm:aM g s i j=true):1<=g/\g<=4/\16<=s/\s<=512/\4<=i/\i<=64/\i%4=0/\40<=j/\j<=256/\3+i/4<=s/\2+j+g*s<=2048:=by
 obtain⟨h1,h2,h3,h4,h5,h6,h7,h8,h9,h10,h11⟩:=(aX g s i j).1 hm;have e:((g*s:Nat):Int)=(g:Int)*(s:Int):=Int.natCast_mul _ _;rw[<-e] at h11;omega
theorem Ms:ny 0 oQ=true:=by decide
theorem EZ:oQ.Ok:=⟨by decide,by decide,by decide,by decide,λi=>⟨Int.le_refl 0,(by decide:(0:Int)<4294967296)⟩,by decide⟩
section
attribute [local go_sem] Oper.semAt_some
def s9(S t J:Int)(k:Nat):Int:=
 if k=0 then 0 else if k=1 then 1 else if k=2 then 2 else
 2+J+(((k-3)/4:Nat):Int)*S+(if(k-3)%4=0 then 0 else if(k-3)%4=1 then 1 else if(k-3)%4=2 then 2 else 2+t)
theorem mG(S t J:Int)(γ:Nat)(hi:i<4):s9 S t J (3+4*γ+i)=2+J+(γ:Int)*S+(if i=0 then 0 else if i=1 then 1 else if i=2 then 2 else 2+t):=by
 have e1:(3+4*γ+i-3)%4=i:=by omega
 have e2:(3+4*γ+i-3)/4=γ:=by omega
 unfold s9;rw[if_neg (by omega),if_neg (by omega),if_neg (by omega),e1,e2]
theorem nL(S t J:Int)(g:Nat):s9 S t J (3+4*g)=2+J+(g:Int)*S:=by
 have:=mG S t J g (i:=0) (by omega);rw[Nat.add_zero,if_pos rfl,Int.add_zero] at this;exact this
theorem MB{S t J:Int}(h1:16<=S)(h2:S<=512)(h3:0<=t)(h4:3+t<=S)(h5:40<=J)(h6:J<=256)(hg:g<=4)(k:Nat)(hk:k<3+4*g):
  ∃K Gg Sz Pl:Int,pw S t J k=aI K Gg (s9 S t J k) Sz Pl/\(0<=s9 S t J k/\0<=Sz/\0<=Pl/\Pl<=512/\s9 S t J k+Sz<=4000/\0<=K/\K<=7)/\s9 S t J k+Sz=s9 S t J (k+1):=by
 have Jz:(g:Int)*S<=4*512:=Int.mul_le_mul (by omega) h2 (by omega) (by omega)
 by_cases c0:k=0
 ·subst c0;exact⟨1,0,1,0,rfl,by show(0:Int)<=0/\(0:Int)<=1/\(0:Int)<=0/\(0:Int)<=512/\(0:Int)+1<=4000/\(0:Int)<=1/\(1:Int)<=7;decide,rfl⟩
 by_cases c1:k=1
 ·subst c1;exact⟨2,0,1,0,rfl,by show(0:Int)<=1/\(0:Int)<=1/\(0:Int)<=0/\(0:Int)<=512/\(1:Int)+1<=4000/\(0:Int)<=2/\(2:Int)<=7;decide,rfl⟩
 by_cases c2:k=2
 ·subst c2
  have:s9 S t J 3=2+J:=by have:=nL S t J 0;simpa using this
  exact⟨3,0,J,0,rfl,by show(0:Int)<=2/\0<=J/\(0:Int)<=0/\(0:Int)<=512/\2+J<=4000/\(0:Int)<=3/\(3:Int)<=7;omega,by rw[this];rfl⟩
 obtain⟨γ,i,hi,rfl⟩:∃γ i,i<4/\k=3+4*γ+i:=⟨(k-3)/4,(k-3)%4,by omega,by omega⟩;have hm0:0<=(γ:Int)*S:=Int.mul_nonneg (by omega) (by omega);have BH:((γ:Int)+1)*S<=(g:Int)*S:=Int.mul_le_mul_of_nonneg_right (by omega) (by omega);rw[Int.add_mul,Int.one_mul] at BH;have f0:=mG S t J γ (i:=0) (by omega);have f1:=mG S t J γ (i:=1) (by omega);have f2:=mG S t J γ (i:=2) (by omega);have f3:=mG S t J γ (i:=3) (by omega);have f4:s9 S t J (3+4*γ+3+1)=2+J+(γ:Int)*S+S:=by
  have:=nL S t J (γ+1);rw[show 3+4*γ+3+1=3+4*(γ+1) by omega,this,show((γ+1:Nat):Int)=(γ:Int)+1 by omega,Int.add_mul,Int.one_mul];omega
 rw[vv S t J γ hi];simp only[if_true,Nat.add_zero,Nat.reduceEqDiff,if_false,Int.add_zero] at f0 f1 f2 f3;generalize (γ:Int)*S=a at*;generalize (g:Int)*S=b at*;have:i=0\/i=1\/i=2\/i=3:=by omega
 rcases this with rfl|rfl|rfl|rfl
 ·rw[Nat.add_zero,show 3+4*γ+1=3+4*γ+1 from rfl,f0,f1]
  exact⟨4,γ,1,0,rfl,by omega,by omega⟩
 ·rw[show 3+4*γ+1+1=3+4*γ+2 from rfl,f1,f2]
  refine⟨5,γ,1,1,rfl,by omega,by omega⟩
 ·rw[show 3+4*γ+2+1=3+4*γ+3 from rfl,f2,f3]
  exact⟨6,γ,t,2,rfl,by omega,by omega⟩
 ·rw[f3,f4]
  exact⟨7,γ,S-2-t,2+t,by rw[if_neg (by decide),if_neg (by decide),if_neg (by decide)];unfold aI;rw[Int.add_assoc (2+J+a)],by omega,by omega⟩
def lg(G S I J x K A B:Int):Prop:=((aM G S I J=false\/x<0\/oV G S I J<=x)/\K=0/\A=0/\B=0)\/
 (aM G S I J=true/\∃(k:Nat) (Sz Pl:Int),(k:Int)<3+4*G/\pw S (I/4) J k=aI K A (s9 S (I/4) J k) Sz Pl/\s9 S (I/4) J k<=x/\x<s9 S (I/4) J (k+1)/\B=Pl+x-s9 S (I/4) J k)
theorem Ct(G S I J x:Int)(hx0:-9223372036854775808<=x)(hx1:x<=9223372036854775807)(w:World):
  Calls Tryz.prog 17 #[bN G S I J,.int .i64 x] w λe w'=>∃K A B:Int,e= .returned (.tuple #[.int .u8 K,.int .i64 A,.int .i64 B])/\lg G S I J x K A B/\Below w.heap.size w w':=by
 refine(callsIn_wide (n:=5)).1 (callsIn_of_wp_marks Tryz.func17 rfl trivial ?_ rfl);refine wpIn_wide.2 ?_;simp only[Tryz.ntmps17,List.size_toArray,List.length_cons,List.length_nil,Nat.reduceAdd,Nat.reduceSub,Array.replicate_succ,Array.replicate_zero,List.push_toArray,List.append_toArray,List.nil_append,List.cons_append];obtain⟨W,hW⟩:∃W,W=((((w.alloc (.cells (aa G S I J) 23)).alloc (.cells #[.int .i64 x] 3)).alloc (.cells #[.int .u8 0] 5)).alloc (.cells #[.int .i64 0] 3)).alloc (.cells #[.int .i64 0] 3):=⟨_,rfl⟩;have st0:sF w G S I J x 0 0 0 W:=by
  rw[hW];refine⟨((((At.new w _ _).alloc _).alloc _).alloc _).alloc _,?_,?_,?_,?_,((((((Below.refl _ _).alloc (Nat.le_refl _) _).alloc (by simp) _).alloc (by simp;omega) _).alloc (by simp;omega) _).alloc (by simp;omega) _)⟩
  ·have:=(((At.new (w.alloc (.cells (aa G S I J) 23)) 3 #[.int .i64 x]).alloc (.cells #[.int .u8 0] 5)).alloc (.cells #[.int .i64 0] 3)).alloc (.cells #[.int .i64 0] 3)
   simp only[World.size_alloc] at this;exact this
  ·have:=((At.new ((w.alloc (.cells (aa G S I J) 23)).alloc (.cells #[.int .i64 x] 3)) 5 #[.int .u8 0]).alloc (.cells #[.int .i64 0] 3)).alloc (.cells #[.int .i64 0] 3)
   simp only[World.size_alloc] at this;exact this
  ·have:=(At.new (((w.alloc (.cells (aa G S I J) 23)).alloc (.cells #[.int .i64 x] 3)).alloc (.cells #[.int .u8 0] 5)) 3 #[.int .i64 0]).alloc (.cells #[.int .i64 0] 3)
   simp only[World.size_alloc] at this;exact this
  ·have:=At.new ((((w.alloc (.cells (aa G S I J) 23)).alloc (.cells #[.int .i64 x] 3)).alloc (.cells #[.int .u8 0] 5)).alloc (.cells #[.int .i64 0] 3)) 3 #[.int .i64 0]
   simp only[World.size_alloc] at this;exact this
 have HW:=hid hW;have hg0:=st0.g;rw[hW] at hg0;have cX:=hid st0;clear hW st0;go_wp2_with (first|(refine ar rfl 23 (.tmp 2) rfl _ _ _ rfl hg0 Tryz.underlying23 rfl (by kernel_rfl) ?_))
 rw[<-HW.out];clear HW hg0;refine(eu G S I J W).mono ?_;rintro e w1 ⟨rfl,hb1⟩;have aV:=hid (cX.out.below hb1);clear cX hb1;have cx:w1.cell? ⟨w.heap.size+1,0,none⟩=some (.int .i64 x):=aV.out.x.cell (i:=0) rfl;have c2:w1.cell? ⟨w.heap.size+1+1,0,none⟩=some (.int .u8 0):=aV.out.k.cell (i:=0) rfl;have c3:w1.cell? ⟨w.heap.size+1+1+1,0,none⟩=some (.int .i64 0):=aV.out.a.cell (i:=0) rfl;have c4:w1.cell? ⟨w.heap.size+1+1+1+1,0,none⟩=some (.int .i64 0):=aV.out.b.cell (i:=0) rfl;have f2:w1.frozen? ⟨w.heap.size+1+1,0,none⟩=false:=ag aV.out.k 0;have f3:w1.frozen? ⟨w.heap.size+1+1+1,0,none⟩=false:=ag aV.out.a 0;have f4:w1.frozen? ⟨w.heap.size+1+1+1+1,0,none⟩=false:=ag aV.out.b 0;cases hm:aM G S I J with
 |false=>
  have HO:Hid (lg G S I J x 0 0 0):=.inl ⟨.inl hm,rfl,rfl,rfl⟩;clear hm;go_wp2_with fail;have hst:=((aV.out.IC 0).m8 0).m7 0;have r2:=hst.k.cell (i:=0) (v:=.int .u8 0) rfl;have r3:=hst.a.cell (i:=0) (v:=.int .i64 0) rfl;have r4:=hst.b.cell (i:=0) (v:=.int .i64 0) rfl;refine dV (v:=.tuple #[.int .u8 0,.int .i64 0,.int .i64 0]) ?_ ⟨0,0,0,rfl,HO.out,hst.bel⟩;simp only[Nat.add_assoc,Nat.reduceAdd] at*;simp[results,Tryz.f17,go_sem,r2,r3,r4]
 |true=>
 have HM:=hid hm;clear hm
 by_cases hneg:x<0
 ·have HO:Hid (lg G S I J x 0 0 0):=.inl ⟨.inr (.inl hneg),rfl,rfl,rfl⟩
  go_wp2_with fail;have hst:=((aV.out.IC 0).m8 0).m7 0;have r2:=hst.k.cell (i:=0) (v:=.int .u8 0) rfl;have r3:=hst.a.cell (i:=0) (v:=.int .i64 0) rfl;have r4:=hst.b.cell (i:=0) (v:=.int .i64 0) rfl;refine dV (v:=.tuple #[.int .u8 0,.int .i64 0,.int .i64 0]) ?_ ⟨0,0,0,rfl,HO.out,hst.bel⟩;simp only[Nat.add_assoc,Nat.reduceAdd] at*;simp[results,Tryz.f17,go_sem,r2,r3,r4]
 have hg1:=aV.out.g;clear c2 c3 c4 f2 f3 f4;go_wp2_with (first|(refine ar rfl 23 (.tmp 2) rfl _ _ _ rfl hg1 Tryz.underlying23 rfl (by kernel_rfl) ?_))
 refine(CY G S I J w1).mono ?_;rintro e w2 ⟨rfl,sD,hb2⟩;have cf:=hid (aV.out.below hb2);have vY:=aV.out.sz;have yx:=sD.lt;clear aV hg1 cx hb2;generalize w1.heap.size=B at*;clear w1;obtain⟨h1,h2,h3,h4,h5,h6,h7,h8,h9,h10,h11⟩:=(aX G S I J).1 HM.out;obtain⟨g,rfl⟩:∃g:Nat,G=(g:Int):=⟨G.toNat,by omega⟩;have hnb:oV (g:Int) S I J=2+J+(g:Int)*S:=by unfold oV;rw[HM.out];rfl
 go_wp2_with fail;apply xf (gf:=90) (lb:=#[.pointer (some ⟨B,0,none⟩)]) rfl (enters_of Tryz.func90 (by kernel_rfl) rfl)
  (z9 4 (by decide) B g S I J HM.out) (λk=>rfl) 117 (λk=>pw S (I/4) J k)
  (λk W=>Hid (s9 S (I/4) J k<=x)/\sF w g S I J x 0 0 0 W)
  (λc k W=>c= .ret/\∃K A B,Hid (lg g S I J x K A B)/\sF w g S I J x K A B W)
  (λk=>(aw.pure _ _).and (sF.loc (by omega)))
  (λc k=>(aw.pure _ _).and (aw.ex λK=>aw.ex λA=>aw.ex λB=>(aw.pure _ _).and (sF.loc (by omega))))
  (λk=>aw.at _ _ yx)
  ⟨(show(0:Int)<=x by omega),cf.out⟩ sD
 case assign=>
  intro l k W K hk hK;dsimp only;have HF:=hid (Fe (g:=g) (t:=I/4) h3 h4 (by omega) h10 h8 h9 (by omega) k (by rwa[Int.toNat_natCast] at hk));have rJ:(pw S (I/4) J k).size=5:=by obtain⟨K',Gg,Fr,Sz,Pl,he,_⟩:=HF.out;rw[he];rfl
  have hc1:(pw S (I/4) J k).all (·.oneCell')=true:=by obtain⟨K',Gg,Fr,Sz,Pl,he,_⟩:=HF.out;rw[he];exact GK _ _ _ _ _
  have Ay:(Tryz.prog.info? 117).map (·.size)=some (pw S (I/4) J k).size:=by rw[rJ];exact oy
  have hA:=At.new W 117 (aI 0 0 0 0 0);have hal:=nY;have hs0:(aI 0 0 0 0 0).size=(pw S (I/4) J k).size:=by rw[rJ];rfl
  clear rJ hk
  gi_wp2_with (first|(refine fy rfl 117 (.tmp 7) (.tmp 17) rfl W.heap.size (pw S (I/4) J k) (aI 0 0 0 0 0) rfl rfl hA Ay hs0 hc1 ?_))
  intro w4 O6 kv;have hb:=gR kv;clear kv hA;obtain⟨p,hp⟩:∃p,p=W.heap.size:=⟨_,rfl⟩;rw[<-hp] at O6 ⊢
  gi_wp2
  exact hK p w4 hp hb O6
 case body=>
  rintro l k p W hk ⟨HP,st⟩ hn hp;rw[Int.toNat_natCast] at hk;obtain⟨K,Gg,Sz,Pl,he,⟨b1,b2,b4,b5,b6,b7,b8⟩,yr⟩:=MB (g:=g) (t:=I/4) h3 h4 (by omega) h10 h8 h9 (by omega) k hk;have HE:=hid he;obtain⟨Fr,WA⟩:∃Fr,s9 S (I/4) J k=Fr:=⟨_,rfl⟩;have Oo:=hid WA;rw[WA] at he yr b1 b6 HP HE;clear WA;rw[he] at hp;have HC:=hid yr;have cx:W.cell? ⟨w.heap.size+1,0,none⟩=some (.int .i64 x):=st.x.cell (i:=0) rfl;have p2:W.cell? ⟨p,2,none⟩=some (.int .i64 Fr):=hp.cell (i:=2) rfl;have p3:W.cell? ⟨p,3,none⟩=some (.int .i64 Sz):=hp.cell (i:=3) rfl;have e0:IntKind.i64.wrap (Fr+Sz)=Fr+Sz:=IntWalk.i64_in _ (by omega);have ST:=hid st;have HN:=hid hn;have lL:=hid hp;clear yr st hn hp
  by_cases hlt:x<Fr+Sz
  ·have HO:Hid (lg g S I J x K Gg (Pl+x-Fr)):=.inr ⟨HM.out,k,Sz,Pl,by omega,by rw[Oo.out];exact HE.out,by rw[Oo.out];exact HP.out,by rw[<-HC.out];exact hlt,by rw[Oo.out]⟩
   have e1:IntKind.i64.wrap (Pl+x)=Pl+x:=IntWalk.i64_in _ (by omega);have e2:IntKind.i64.wrap (Pl+x-Fr)=Pl+x-Fr:=IntWalk.i64_in _ (by omega)
   gi_wp2
   refine Mv.qt (AW w g S I J x K Gg (Pl+x-Fr) p (aI K Gg Fr Sz Pl) w2.heap.size W) ⟨0,undef⟩ (by kernel_rfl) (by kernel_rfl) (by kernel_rfl) (by kernel_rfl) ?_ ?_
   ·exact⟨⟨ST.out.g,ST.out.x,ST.out.k,ST.out.a,ST.out.b,ST.out.bel.drew⟩,lL.out,yL W 1⟩
   intro hne;have hp0:∀y:aT (λW'=>∃s,AW w g S I J x K Gg (Pl+x-Fr) p (aI K Gg Fr Sz Pl) w2.heap.size W s W'),y.W.cell? ⟨p,0,none⟩=some (.int .u8 K):=λy=>by obtain⟨s,h⟩:=y.h;exact h.p.cell (i:=0) rfl
   have hp1:∀y:aT (λW'=>∃s,AW w g S I J x K Gg (Pl+x-Fr) p (aI K Gg Fr Sz Pl) w2.heap.size W s W'),y.W.cell? ⟨p,1,none⟩=some (.int .i64 Gg):=λy=>by obtain⟨s,h⟩:=y.h;exact h.p.cell (i:=1) rfl
   have hp2:∀y:aT (λW'=>∃s,AW w g S I J x K Gg (Pl+x-Fr) p (aI K Gg Fr Sz Pl) w2.heap.size W s W'),y.W.cell? ⟨p,2,none⟩=some (.int .i64 Fr):=λy=>by obtain⟨s,h⟩:=y.h;exact h.p.cell (i:=2) rfl
   have FX:∀y:aT (λW'=>∃s,AW w g S I J x K Gg (Pl+x-Fr) p (aI K Gg Fr Sz Pl) w2.heap.size W s W'),y.W.cell? ⟨p,4,none⟩=some (.int .i64 Pl):=λy=>by obtain⟨s,h⟩:=y.h;exact h.p.cell (i:=4) rfl
   have hpx:∀y:aT (λW'=>∃s,AW w g S I J x K Gg (Pl+x-Fr) p (aI K Gg Fr Sz Pl) w2.heap.size W s W'),y.W.cell? ⟨w.heap.size+1,0,none⟩=some (.int .i64 x):=λy=>by obtain⟨s,h⟩:=y.h;exact h.s.x.cell (i:=0) rfl
   (refine Mv.aO 11 (by kernel_rfl) ?_;simp only[List.take,List.drop])
   iterate 11 go_big_quiet_step (fail)
   refine wpQuiet_nil ?_;refine Mv.fj rfl 5 (.tmp 4) (.tmp 26) rfl (w.heap.size+1+1) 0 (.int .u8 K) rfl rfl BB rfl ⟨1,undef⟩ (λW' hW=>⟨⟨_,hW.s.k.cell (i:=0) rfl⟩,ag hW.s.k 0,hW.s1⟩) ?_;refine Mv.frame ?_ (by simp only[Act.put];exact rfl);refine Mv.fj rfl 3 (.tmp 5) (.tmp 28) rfl (w.heap.size+1+1+1) 0 (.int .i64 Gg) rfl rfl yh rfl ⟨2,undef⟩ (λW' hW=>⟨⟨_,hW.s.a.cell (i:=0) rfl⟩,ag hW.s.a 0,hW.s2⟩) ?_;refine Mv.frame ?_ (by simp only[Act.put];exact rfl);refine Mv.fj rfl 3 (.tmp 6) (.tmp 35) rfl (w.heap.size+1+1+1+1) 0 (.int .i64 (Pl+x-Fr)) rfl rfl yh rfl ⟨3,undef⟩ (λW' hW=>⟨⟨_,hW.s.b.cell (i:=0) rfl⟩,ag hW.s.b 0,hW.s3⟩) ?_;refine Mv.frame ?_ (by simp only[Act.put];exact rfl);refine Mv.bu ?_;intro W5 h5;clear hne hp0 hp1 hp2 FX hpx
   gi_wp2
   exact⟨h5.iG,rfl,K,Gg,_,HO,h5.s⟩
  ·have QA:Hid (s9 S (I/4) J (k+1)<=x):=by show _<=_;rw[<-HC.out];omega
   gi_wp2
   exact⟨KeepsFrom.refl _ _,⟨QA,ST.out⟩,HN.out⟩
 case done=>
  rintro D W hD ⟨HP,st⟩ hK;have HO:Hid (lg g S I J x 0 0 0):=.inl ⟨.inr (.inr (by
   have:=HP.out;rw[Int.toNat_natCast,nL] at this;rw[hnb];exact this)),rfl,rfl,rfl⟩
  have c2:W.cell? ⟨w.heap.size+1+1,0,none⟩=some (.int .u8 0):=st.k.cell (i:=0) rfl;have c3:W.cell? ⟨w.heap.size+1+1+1,0,none⟩=some (.int .i64 0):=st.a.cell (i:=0) rfl;have c4:W.cell? ⟨w.heap.size+1+1+1+1,0,none⟩=some (.int .i64 0):=st.b.cell (i:=0) rfl;have f2:W.frozen? ⟨w.heap.size+1+1,0,none⟩=false:=ag st.k 0;have f3:W.frozen? ⟨w.heap.size+1+1+1,0,none⟩=false:=ag st.a 0;have f4:W.frozen? ⟨w.heap.size+1+1+1+1,0,none⟩=false:=ag st.b 0;have ST:=hid st;have HK:=hid hK;clear st hK;go_wp2_with fail;have hst:=((ST.out.IC 0).m8 0).m7 0;have JK:=((((an.setCell _ _ _).block D (by simp;omega)).trans (((an.setCell _ _ _).block D (by simp;omega)).trans ((an.setCell W ⟨w.heap.size+2,0,none⟩ (.int .u8 0)).block D (by simp;omega)))).trans HK.out:((((W.setCell ⟨w.heap.size+2,0,none⟩ (.int .u8 0)).setCell ⟨w.heap.size+3,0,none⟩ (.int .i64 0)).setCell ⟨w.heap.size+4,0,none⟩ (.int .i64 0))).heap[D]? =some (.deferred (some [])));have r2:=dp (D:=D) (o':=.deferred none) JK rfl (hst.k.cell (i:=0) (v:=.int .u8 0) rfl);have r3:=dp (D:=D) (o':=.deferred none) JK rfl (hst.a.cell (i:=0) (v:=.int .i64 0) rfl);have r4:=dp (D:=D) (o':=.deferred none) JK rfl (hst.b.cell (i:=0) (v:=.int .i64 0) rfl);refine dB (v:=.tuple #[.int .u8 0,.int .i64 0,.int .i64 0]) (D:=D) JK ?_ ⟨0,0,0,rfl,HO.out,eG hst.bel _ (Nat.le_refl _) (by omega)⟩;simp only[Nat.add_assoc,Nat.reduceAdd] at*;simp[results,Tryz.f17,go_sem,r2,r3,r4]
 case stop=>
  rintro D c k W hD hk ⟨rfl,K,A,B',HO,st⟩ hK;have ST:=hid st;have HK:=hid hK;clear st hK;go_wp2_with fail;have r2:=dp (D:=D) (o':=.deferred none) HK.out rfl (ST.out.k.cell (i:=0) (v:=.int .u8 K) rfl);have r3:=dp (D:=D) (o':=.deferred none) HK.out rfl (ST.out.a.cell (i:=0) (v:=.int .i64 A) rfl);have r4:=dp (D:=D) (o':=.deferred none) HK.out rfl (ST.out.b.cell (i:=0) (v:=.int .i64 B') rfl);refine dB (v:=.tuple #[.int .u8 K,.int .i64 A,.int .i64 B']) (D:=D) HK.out ?_ ⟨K,A,B',rfl,HO.out,eG ST.out.bel _ (Nat.le_refl _) (by omega)⟩;simp only[Nat.add_assoc,Nat.reduceAdd] at*;simp[results,Tryz.f17,go_sem,r2,r3,r4]
end
def sz:Nat->Int:=n7 2 16 8 40 7
theorem xp(G S I J O:Int):bm (n7 G S I J O):=by
 unfold n7;split
 ·exact oa (oB _)
 ·intro i;show(0:Int)<=0/\(0:Int)<256;decide
theorem uo(G S I J:Int)(n:Nat)(b i d:Nat->Int):bm (kh G S I J n b i d):=by
 unfold kh;split
 ·exact oa (oB _)
 ·intro i;show(0:Int)<=0/\(0:Int)<256;decide
theorem C9{γ d:Nat}(hs:16<=s)(hj:40<=j)(hd:d<s):
  iw g s i j (2+j+γ*s+d)=if γ=0/\d=2 then EY else if d=0 then bZ (kQ (2+i/4) s) else if d=1 then bZ (kQ (if γ=0 then 1 else 0) i) elseλ_=>0:=by
 have hsub:2+j+γ*s+d-(2+j)=s*γ+d:=by rw[Nat.mul_comm];omega
 have Nh:(2+j+γ*s+d-(2+j))%s=d:=by rw[hsub,Nat.mul_add_mod,Nat.mod_eq_of_lt hd]
 have hdiv:(2+j+γ*s+d-(2+j))/s=γ:=by rw[hsub,Nat.mul_add_div (by omega),Nat.div_eq_of_lt hd];rfl
 unfold iw La
 by_cases e:γ=0/\d=2
 ·obtain⟨rfl,rfl⟩:=e
  rw[if_pos (by omega),if_pos ⟨rfl,rfl⟩]
 ·rw[if_neg e,Nh,hdiv]
  have e2:¬2+j+γ*s+d=2+j+2:=by
   intro h;apply e;rcases Nat.eq_zero_or_pos γ with rfl|hγ
   ·exact⟨rfl,by omega⟩
   ·have:1*s<=γ*s:=Nat.mul_le_mul_right s hγ
    omega
  rw[if_neg e2,if_neg (by omega),if_neg (by omega),if_neg (by omega),if_neg (by omega)]
theorem FB(hj:40<=j)(h:3<=b)(hb:b<2+j):iw g s i j b=λ_=>0:=by
 unfold iw La;rw[if_neg (by omega),if_neg (by omega),if_neg (by omega),if_neg (by omega),if_pos hb]
theorem P7(hj:40<=j):iw g s i j 0=n7 g s i j 0:=by unfold iw La;rw[if_neg (by omega),if_pos rfl]
theorem P6(hj:40<=j):iw g s i j 1=kh g s i j g (O9 g s i j) (Hr i) Hs:=by unfold iw La;rw[if_neg (by omega),if_neg (by omega),if_pos rfl]
theorem P5(hj:40<=j):iw g s i j 2=kT 1 0:=by unfold iw La;rw[if_neg (by omega),if_neg (by omega),if_neg (by omega),if_pos rfl]
theorem kz:bm (λ_=>0):=λ_=>⟨Int.le_refl 0,(by decide:(0:Int)<256)⟩
theorem Dz(s t:Int):bm (kT s t):=by
 unfold kT;split
 ·exact Es _
 ·exact kz
theorem CO:bm oQ.byte:=by
 intro i;unfold aK.byte
 repeat(first|split|exact gg _ _|exact⟨by decide,by decide⟩)
theorem Bv(g s i j b:Nat):bm (iw g s i j b):=by
 unfold iw La
 repeat(first|split|exact eY kz CO _ _|exact xp _ _ _ _ _|exact uo _ _ _ _ _ _ _ _|exact Dz _ _|exact kz|exact AV _)
def tS(s i:Nat)(K γ:Int):Nat->Bool:=if K=4 then kQ (2+i/4) s else if K=5 then kQ (if γ=0 then 1 else 0) i elseλ_=>false
def KS(g s i j b:Nat)(K γ O:Int):Nat->Int:=
 if b=0 then n7 g s i j 0 else if b=1 then kh g s i j g (O9 g s i j) (Hr i) Hs else if b=2 then kT 1 0
 else if O=1 then over (bZ (tS s i K γ)) 0 64 oQ.byte else bZ (tS s i K γ)
theorem GI:bZ (λ_=>false)=λ_=>0:=funext Ke
theorem Bz:tS s i 4 γ=kQ (2+i/4) s:=rfl
theorem x8:tS s i 5 γ=kQ (if γ=0 then 1 else 0) i:=by unfold tS;rw[if_neg (by decide),if_pos rfl]
theorem vJ{K:Int}(h4:K≠4)(h5:K≠5):tS s i K γ=λ_=>false:=by unfold tS;rw[if_neg h4,if_neg h5]
theorem Md(hm:aM g s i j=true)(hb:b<2+j+g*s):
  ∃K γ A O:Int,gN s (i/4) j b=tv K γ A O/\(1<=K/\K<=7)/\KS g s i j b K γ O=iw g s i j b:=by
 obtain⟨h1,h2,h3,h4,h5,h6,h7,h8,h9,h10,h11⟩:=dL hm
 by_cases b0:b=0
 ·subst b0
  exact⟨1,0,0,0,rfl,by omega,by rw[P7 h8];rfl⟩
 by_cases b1:b=1
 ·subst b1
  exact⟨2,0,0,0,rfl,by omega,by rw[P6 h8];rfl⟩
 by_cases b2:b=2
 ·subst b2
  refine⟨3,0,((2:Nat):Int)-2,0,?_,by omega,by rw[P5 h8];rfl⟩;unfold gN;rw[if_neg (by omega),if_neg (by omega),if_pos (by omega)]
 have hrf:∀K γ O,KS g s i j b K γ O=if O=1 then over (bZ (tS s i K γ)) 0 64 oQ.byte else bZ (tS s i K γ):=λK γ O=>by
  unfold KS;rw[if_neg b0,if_neg b1,if_neg b2]
 by_cases bj:b<2+j
 ·refine⟨3,0,(b:Int)-2,0,?_,by omega,?_⟩
  ·unfold gN;rw[if_neg b0,if_neg b1,if_pos bj]
  ·rw[hrf,if_neg (by decide),vJ (by decide) (by decide),GI,FB h8 (by omega) bj]
 obtain⟨d,hd⟩:∃d,d=b-(2+j):=⟨_,rfl⟩;have yq:=Nat.div_add_mod d s;have OQ:=Nat.mod_lt d (show s>0 by omega);have hmk:iw g s i j b=if d=2 then EY else if d%s=0 then bZ (kQ (2+i/4) s) else if d%s=1 then bZ (kQ (if d/s=0 then 1 else 0) i) elseλ_=>0:=by
  unfold iw La;rw[<-hd,if_neg b0,if_neg b1,if_neg b2,if_neg bj]
  by_cases e:d=2
  ·rw[if_pos e,if_pos (by omega)]
  ·rw[if_neg e,if_neg (by omega)]
 have gn:gN s (i/4) j b=if d%s=0 then tv 4 (d/s:Nat) 0 0 else if d%s=1 then tv 5 (d/s:Nat) 1 0 else
   if d%s<2+i/4 then tv 6 (d/s:Nat) (d%s:Nat) (1+(d/s:Nat)*(4*((i/4:Nat):Int))+4*((d%s:Nat)-2)) else tv 7 (d/s:Nat) (d%s:Nat) 0:=by
  unfold gN;rw[if_neg b0,if_neg b1,if_neg bj,<-hd]
 by_cases m0:d%s=0
 ·refine⟨4,(d/s:Nat),0,0,by rw[gn,if_pos m0],by omega,?_⟩
  have:d≠2:=λe=>by rw[e,Nat.mod_eq_of_lt (by omega)] at m0;omega
  rw[hrf,if_neg (by decide),Bz,hmk,if_neg this,if_pos m0]
 by_cases m1:d%s=1
 ·refine⟨5,(d/s:Nat),1,0,by rw[gn,if_neg m0,if_pos m1],by omega,?_⟩
  have:d≠2:=λe=>by rw[e,Nat.mod_eq_of_lt (by omega)] at m1;omega
  rw[hrf,if_neg (by decide),x8,hmk,if_neg this,if_neg m0,if_pos m1]
  by_cases e:d/s=0
  ·rw[if_pos e,if_pos (by omega)]
  ·rw[if_neg e,if_neg (by omega)]
 by_cases mi:d%s<2+i/4
 ·refine⟨6,_,_,_,by rw[gn,if_neg m0,if_neg m1,if_pos mi],by omega,?_⟩
  rw[hrf,vJ (by decide) (by decide),GI,hmk]
  by_cases e:d=2
  ·have e1:d/s=0:=by rw[e,Nat.div_eq_of_lt (by omega)]
   have e2:d%s=2:=by rw[e,Nat.mod_eq_of_lt (by omega)]
   rw[if_pos e,if_pos (by rw[e1,e2];simp)];rfl
  ·rw[if_neg e,if_neg m0,if_neg m1,if_neg ?_]
   intro hO;have ht:1<=i/4:=by omega
   by_cases e1:d/s=0
   ·rw[e1,Nat.mul_zero] at yq
    rw[e1] at hO;simp at hO;omega
   ·have h1':(1:Int)*(4*((i/4:Nat):Int))<=((d/s:Nat):Int)*(4*((i/4:Nat):Int)):=Int.mul_le_mul_of_nonneg_right (by have:=Nat.one_le_iff_ne_zero.2 e1;exact_mod_cast this) (by omega)
    generalize ((d/s:Nat):Int)*(4*((i/4:Nat):Int))=X at h1' hO;omega
 ·refine⟨7,_,_,0,by rw[gn,if_neg m0,if_neg m1,if_neg mi],by omega,?_⟩
  have:d≠2:=λe=>by rw[e,Nat.mod_eq_of_lt (by omega)] at mi;omega
  rw[hrf,if_neg (by decide),vJ (by decide) (by decide),GI,hmk,if_neg this,if_neg m0,if_neg m1]
theorem Ch(f:Nat->List Value):∀n,1<=n->Cs f n=f 0++Cs (λk=>f (1+k)) (n-1):=λn hn=>by
 have:=wL f 1 (n-1);rw[show 1+(n-1)=n by omega] at this;rw[<-this];rfl
theorem G9(B:Int)(i n:Nat)(hn:1<=n):((Cs (df (λ_=>B) (λ_=>(i:Int)) (λ_=>0)) n).set 1 (.int .i64 ((i:Int)-1))).set 2 (.int .i64 1)=Cs (df (λ_=>B) (Hr (i:Int)) Hs) n:=by
 rw[Ch _ n hn,Ch (df (λ_=>B) (Hr (i:Int)) Hs) n hn];have:Cs (λk=>df (λ_=>B) (λ_=>(i:Int)) (λ_=>0) (1+k)) (n-1)=Cs (λk=>df (λ_=>B) (Hr (i:Int)) Hs (1+k)) (n-1):=gC λk _=>by
  unfold df Hr Hs;rw[if_neg (by omega),if_neg (by omega)]
 rw[this]
 rfl
end Go.Proofs.YtphamecphmbipaaGreatDoor
