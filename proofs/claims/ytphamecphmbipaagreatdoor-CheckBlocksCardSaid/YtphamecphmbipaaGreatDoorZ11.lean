/- Texts of this claim, merged. -/
import Derived.Test.YtphamecphmbipaaGreatDoorZ10
import Derived.Test.YtphamecphmbipaaGreatDoorZ09
set_option linter.unusedVariables false
set_option maxRecDepth 100000
set_option maxHeartbeats 16000000

namespace Go.Proofs.YtphamecphmbipaaGreatDoor
open Go.RowKit
variable {g s i j:Nat} {γ:Int}
theorem tt(G S I J:Int)(w:World):Calls Tryz.prog 126 #[bV G S I J] w λe w'=>e= .returned (.int .i64 (pj G S I J))/\Below w.heap.size w w':=by
 have HA:=ah (At.new w 23 (ai G S I J));have HL:Hd (Below w.heap.size w (w.alloc (.cells (ai G S I J) 23))):=ag.alloc af _;go_enter Tryz.func126,Tryz.ntmps126;have hA:=HA.Z;go_wp2_with (first|(refine aB rfl 23 _ rfl _ _ _ rfl hA Tryz.underlying23 rfl (by kernel_rfl) ?_))
 refine(eJ G S I J _).mono ?_;rintro e w1 ⟨rfl,hb1⟩;have gU:=hA.below hb1 hA.lt;have fW:Below w.heap.size w w1:=HL.Z.trans (hb1.mono HL.Z.size);clear hA HA HL hb1;cases hm:aT G S I J with
 |false=>
  have HN:Hd (pj G S I J=0):=by show _=_;unfold pj;rw[hm];rfl
  clear hm;go_wp2_with fail;go_ret;exact⟨by rw[HN.Z];rfl,fW⟩
 |true=>
  have HN:Hd (pj G S I J=2+J+G*S):=by show _=_;unfold pj;rw[hm];rfl
  obtain⟨h1,h2,h3,h4,h5,h6,h7,h8,h9,h10,h11⟩:=(bq G S I J).1 hm;have hg0:0<=G*S:=Int.mul_nonneg (by omega) (by omega);have hw:IntKind.i64.wrap (G*S)=G*S:=IntWalk.i64_in _ (by omega);have hw1:IntKind.i64.wrap (2+J)=2+J:=IntWalk.i64_in _ (by omega);have hw2:IntKind.i64.wrap (2+J+G*S)=2+J+G*S:=IntWalk.i64_in _ (by omega);have c0:w1.cell? ⟨w.heap.size,0,none⟩=some (.int .i64 G):=gU.cell (i:=0) rfl;have c1:w1.cell? ⟨w.heap.size,1,none⟩=some (.int .i64 S):=gU.cell (i:=1) rfl;have c3:w1.cell? ⟨w.heap.size,3,none⟩=some (.int .i64 J):=gU.cell (i:=3) rfl;clear hm h11;go_wp2_with fail;go_ret;exact⟨by rw[HN.Z];rfl,fW⟩
def rR(G S I J k:Int):Bool:=aT G S I J&&(decide (0<=k)&&decide (k<G))
def z7(G S I J k:Int):Int:=if rR G S I J k then 2+J+k*S else 0
theorem wG(G S I J k:Int)(w:World):Calls Tryz.prog 18 #[bV G S I J,.int .i64 k] w λe w'=>e= .returned (.tuple #[.int .i64 (z7 G S I J k),.bool (rR G S I J k)])/\Below w.heap.size w w':=by
 have HA:=ah (At.new w 23 (ai G S I J));have HL:Hd (Below w.heap.size w (w.alloc (.cells (ai G S I J) 23))):=ag.alloc af _;go_enter Tryz.func18,Tryz.ntmps18;have hA:=HA.Z;go_wp2_with (first|(refine aB rfl 23 _ rfl _ _ _ rfl hA Tryz.underlying23 rfl (by kernel_rfl) ?_))
 refine(eJ G S I J _).mono ?_;rintro e w1 ⟨rfl,hb1⟩;have gU:=hA.below hb1 hA.lt;have fW:Below w.heap.size w w1:=HL.Z.trans (hb1.mono HL.Z.size);clear hA HA HL hb1;have c0:w1.cell? ⟨w.heap.size,0,none⟩=some (.int .i64 G):=gU.cell (i:=0) rfl;have c1:w1.cell? ⟨w.heap.size,1,none⟩=some (.int .i64 S):=gU.cell (i:=1) rfl;have c3:w1.cell? ⟨w.heap.size,3,none⟩=some (.int .i64 J):=gU.cell (i:=3) rfl;cases hm:aT G S I J with
 |false=>
  have HN:Hd (rR G S I J k=false):=by show _=_;unfold rR;rw[hm];rfl
  clear hm;go_wp2_with fail
  go_ret2
  exact⟨by unfold z7;rw[HN.Z];rfl,fW⟩
 |true=>
  obtain⟨h1,h2,h3,h4,h5,h6,h7,h8,h9,h10,h11⟩:=(bq G S I J).1 hm;have HD:Hd (rR G S I J k=(decide (0<=k)&&decide (k<G))):=by show _=_;unfold rR;rw[hm];rfl
  clear hm h11
  by_cases k0:k<0
  ·have HN:Hd (rR G S I J k=false):=by show _=_;rw[HD.Z];simp;omega
   have q0:decide (k<0)=true:=decide_eq_true k0;go_wp2_with fail
   go_ret2
   exact⟨by unfold z7;rw[HN.Z];rfl,fW⟩
  have q0:decide (k<0)=false:=decide_eq_false k0
  by_cases k1:G<=k
  ·have HN:Hd (rR G S I J k=false):=by show _=_;rw[HD.Z];simp;omega
   have q1:decide (G<=k)=true:=decide_eq_true k1;go_wp2_with fail
   go_ret2
   exact⟨by unfold z7;rw[HN.Z];rfl,fW⟩
  have q1:decide (G<=k)=false:=decide_eq_false k1;have HN:Hd (rR G S I J k=true):=by show _=_;rw[HD.Z];simp;omega
  have hg0:0<=k*S:=Int.mul_nonneg (by omega) (by omega);have hg1:k*S<=4*512:=Int.mul_le_mul (by omega) h4 (by omega) (by omega);have hw:IntKind.i64.wrap (k*S)=k*S:=IntWalk.i64_in _ (by omega);have hw1:IntKind.i64.wrap (2+J)=2+J:=IntWalk.i64_in _ (by omega);have hw2:IntKind.i64.wrap (2+J+k*S)=2+J+k*S:=IntWalk.i64_in _ (by omega);go_wp2_with fail
  go_ret2
  exact⟨by unfold z7;rw[HN.Z];rfl,fW⟩
structure XV(w:World)(G S I J:Int)(W:World):Prop where
 g:At W w.heap.size 23 (ai G S I J)
 bel:Below w.heap.size w W
theorem yD:(Tryz.prog.info? 32).map (λi=>(i.zero,i.size,i.bytes))=some (some (aR λ_=>0),256,256):=by kernel_rfl
theorem xR(n:Nat)(hn:n<=2048)(W:World):(Instr.makeSlice 29 (.int .i64 (n:Int)) (.int .i64 (n:Int))).run Tryz.prog W= .ok (.slice (some ⟨W.heap.size,0,none⟩) n n) (W.alloc (.cells (madeCells (aR λ_=>0).cells (n*256)) 32)):=
 dx (P:=Tryz.prog) 29 32 (aR λ_=>0) 256 256 Tryz.underlying29 yD .i64 .i64 n (by omega) (by omega) W
theorem AJ(w:World)(n:Nat):aE (w.alloc (.cells (madeCells (aR λ_=>0).cells (n*256)) 32)) w.heap.size 32 256 n (λ_=>Ks .u8 256 (λ_=>0)):=
 aE.made (m:=256) w (Ks .u8 256 (λ_=>0)).toArray (by simp[Ks]) (by omega) n 32
def pc:aS:=⟨2,1,1,0,λ_=>0,0⟩
def Fl:Nat->Int:=over (λ_=>0) 0 64 pc.byte
def PG(G S I J:Int):Nat->Int:=λ_=>ti G S I J
def Iu(I:Int):Nat->Int:=λi=>if i=0 then I-1 else I
def Iv:Nat->Int:=λi=>if i=0 then 1 else 0
def LB(g s i j:Nat)(b:Nat):Nat->Int:=
 if b=0 then oz g s i j 0 else if b=1 then ky g s i j g (PG g s i j) (Iu i) Iv else if b=2 then lj 1 0
 else if b<2+j thenλ_=>0
 else if(b-(2+j))%s=0 then bZ (lf (2+i/4) s)
 else if(b-(2+j))%s=1 then bZ (lf (if(b-(2+j))/s=0 then 1 else 0) i)
 elseλ_=>0
def iL(g s i j:Nat)(b:Nat):Nat->Int:=if b=2+j+2 then Fl else LB g s i j b
theorem dX(hm:aT g s i j=true):1<=g/\g<=4/\16<=s/\s<=512/\4<=i/\i<=64/\i%4=0/\40<=j/\j<=256/\3+i/4<=s/\2+j+g*s<=2048:=by
 obtain⟨h1,h2,h3,h4,h5,h6,h7,h8,h9,h10,h11⟩:=(bq g s i j).1 hm;have e:((g*s:Nat):Int)=(g:Int)*(s:Int):=Int.natCast_mul _ _;rw[<-e] at h11;omega
theorem MW:nM 0 pc=true:=by decide
theorem Fm:pc.Ok:=⟨by decide,by decide,by decide,by decide,λi=>⟨Int.le_refl 0,(by decide:(0:Int)<4294967296)⟩,by decide⟩
section
attribute [local go_sem] Oper.semAt_some
def tu(S t J:Int)(k:Nat):Int:=
 if k=0 then 0 else if k=1 then 1 else if k=2 then 2 else
 2+J+(((k-3)/4:Nat):Int)*S+(if(k-3)%4=0 then 0 else if(k-3)%4=1 then 1 else if(k-3)%4=2 then 2 else 2+t)
theorem mP(S t J:Int)(γ:Nat)(hi:i<4):tu S t J (3+4*γ+i)=2+J+(γ:Int)*S+(if i=0 then 0 else if i=1 then 1 else if i=2 then 2 else 2+t):=by
 have e1:(3+4*γ+i-3)%4=i:=by omega
 have e2:(3+4*γ+i-3)/4=γ:=by omega
 unfold tu;rw[if_neg (by omega),if_neg (by omega),if_neg (by omega),e1,e2]
theorem nY(S t J:Int)(g:Nat):tu S t J (3+4*g)=2+J+(g:Int)*S:=by
 have:=mP S t J g (i:=0) (by omega);rw[Nat.add_zero,if_pos rfl,Int.add_zero] at this;exact this
theorem M8{S t J:Int}(h1:16<=S)(h2:S<=512)(h3:0<=t)(h4:3+t<=S)(h5:40<=J)(h6:J<=256)(hg:g<=4)(k:Nat)(hk:k<3+4*g):
  ∃K Gg Sz Pl:Int,pO S t J k=aP K Gg (tu S t J k) Sz Pl/\(0<=tu S t J k/\0<=Sz/\0<=Pl/\Pl<=512/\tu S t J k+Sz<=4000/\0<=K/\K<=7)/\tu S t J k+Sz=tu S t J (k+1):=by
 have J1:(g:Int)*S<=4*512:=Int.mul_le_mul (by omega) h2 (by omega) (by omega)
 by_cases c0:k=0
 ·subst c0;exact⟨1,0,1,0,rfl,by show(0:Int)<=0/\(0:Int)<=1/\(0:Int)<=0/\(0:Int)<=512/\(0:Int)+1<=4000/\(0:Int)<=1/\(1:Int)<=7;decide,rfl⟩
 by_cases c1:k=1
 ·subst c1;exact⟨2,0,1,0,rfl,by show(0:Int)<=1/\(0:Int)<=1/\(0:Int)<=0/\(0:Int)<=512/\(1:Int)+1<=4000/\(0:Int)<=2/\(2:Int)<=7;decide,rfl⟩
 by_cases c2:k=2
 ·subst c2
  have:tu S t J 3=2+J:=by have:=nY S t J 0;simpa using this
  exact⟨3,0,J,0,rfl,by show(0:Int)<=2/\0<=J/\(0:Int)<=0/\(0:Int)<=512/\2+J<=4000/\(0:Int)<=3/\(3:Int)<=7;omega,by rw[this];rfl⟩
 obtain⟨γ,i,hi,rfl⟩:∃γ i,i<4/\k=3+4*γ+i:=⟨(k-3)/4,(k-3)%4,by omega,by omega⟩;have hm0:0<=(γ:Int)*S:=Int.mul_nonneg (by omega) (by omega);have BU:((γ:Int)+1)*S<=(g:Int)*S:=Int.mul_le_mul_of_nonneg_right (by omega) (by omega);rw[Int.add_mul,Int.one_mul] at BU;have f0:=mP S t J γ (i:=0) (by omega);have f1:=mP S t J γ (i:=1) (by omega);have f2:=mP S t J γ (i:=2) (by omega);have f3:=mP S t J γ (i:=3) (by omega);have f4:tu S t J (3+4*γ+3+1)=2+J+(γ:Int)*S+S:=by
  have:=nY S t J (γ+1);rw[show 3+4*γ+3+1=3+4*(γ+1) by omega,this,show((γ+1:Nat):Int)=(γ:Int)+1 by omega,Int.add_mul,Int.one_mul];omega
 rw[vJ S t J γ hi];simp only[if_true,Nat.add_zero,Nat.reduceEqDiff,if_false,Int.add_zero] at f0 f1 f2 f3;generalize (γ:Int)*S=a at*;generalize (g:Int)*S=b at*;have:i=0\/i=1\/i=2\/i=3:=by omega
 rcases this with rfl|rfl|rfl|rfl
 ·rw[Nat.add_zero,show 3+4*γ+1=3+4*γ+1 from rfl,f0,f1]
  exact⟨4,γ,1,0,rfl,by omega,by omega⟩
 ·rw[show 3+4*γ+1+1=3+4*γ+2 from rfl,f1,f2]
  refine⟨5,γ,1,1,rfl,by omega,by omega⟩
 ·rw[show 3+4*γ+2+1=3+4*γ+3 from rfl,f2,f3]
  exact⟨6,γ,t,2,rfl,by omega,by omega⟩
 rw[f3,f4];exact⟨7,γ,S-2-t,2+t,by rw[if_neg (by decide),if_neg (by decide),if_neg (by decide)];unfold aP;rw[Int.add_assoc (2+J+a)],by omega,by omega⟩
def lC(G S I J x K A B:Int):Prop:=((aT G S I J=false\/x<0\/pj G S I J<=x)/\K=0/\A=0/\B=0)\/
 (aT G S I J=true/\∃(k:Nat) (Sz Pl:Int),(k:Int)<3+4*G/\pO S (I/4) J k=aP K A (tu S (I/4) J k) Sz Pl/\tu S (I/4) J k<=x/\x<tu S (I/4) J (k+1)/\B=Pl+x-tu S (I/4) J k)
theorem CH(G S I J x:Int)(hx0:-9223372036854775808<=x)(hx1:x<=9223372036854775807)(w:World):
  Calls Tryz.prog 17 #[bV G S I J,.int .i64 x] w λe w'=>∃K A B:Int,e= .returned (.tuple #[.int .u8 K,.int .i64 A,.int .i64 B])/\lC G S I J x K A B/\Below w.heap.size w w':=by
 refine(callsIn_wide (n:=5)).1 (callsIn_of_wp_marks Tryz.func17 rfl trivial ?_ rfl);refine wpIn_wide.2 ?_;simp only[Tryz.ntmps17,List.size_toArray,List.length_cons,List.length_nil,Nat.reduceAdd,Nat.reduceSub,Array.replicate_succ,Array.replicate_zero,List.push_toArray,List.append_toArray,List.nil_append,List.cons_append];obtain⟨W,hW⟩:=aa (((((w.alloc (.cells (ai G S I J) 23)).alloc (.cells #[.int .i64 x] 3)).alloc (.cells #[.int .u8 0] 5)).alloc (.cells #[.int .i64 0] 3)).alloc (.cells #[.int .i64 0] 3));have st0:sT w G S I J x 0 0 0 W:=by
  rw[hW];refine⟨((((At.new w _ _).alloc _).alloc _).alloc _).alloc _,?_,?_,?_,?_,(((((ag.alloc af _).alloc (by simp) _).alloc (by simp;omega) _).alloc (by simp;omega) _).alloc (by simp;omega) _)⟩
  ·have:=(((At.new (w.alloc (.cells (ai G S I J) 23)) 3 #[.int .i64 x]).alloc (.cells #[.int .u8 0] 5)).alloc (.cells #[.int .i64 0] 3)).alloc (.cells #[.int .i64 0] 3)
   simp only[World.size_alloc] at this;exact this
  ·have:=((At.new ((w.alloc (.cells (ai G S I J) 23)).alloc (.cells #[.int .i64 x] 3)) 5 #[.int .u8 0]).alloc (.cells #[.int .i64 0] 3)).alloc (.cells #[.int .i64 0] 3)
   simp only[World.size_alloc] at this;exact this
  ·have:=(At.new (((w.alloc (.cells (ai G S I J) 23)).alloc (.cells #[.int .i64 x] 3)).alloc (.cells #[.int .u8 0] 5)) 3 #[.int .i64 0]).alloc (.cells #[.int .i64 0] 3)
   simp only[World.size_alloc] at this;exact this
  have:=At.new ((((w.alloc (.cells (ai G S I J) 23)).alloc (.cells #[.int .i64 x] 3)).alloc (.cells #[.int .u8 0] 5)).alloc (.cells #[.int .i64 0] 3)) 3 #[.int .i64 0];simp only[World.size_alloc] at this;exact this
 have HW:=ah hW;have hg0:=st0.g;rw[hW] at hg0;have dt:=ah st0;clear hW st0;go_wp2_with (first|(refine aB rfl 23 (.tmp 2) rfl _ _ _ rfl hg0 Tryz.underlying23 rfl (by kernel_rfl) ?_))
 rw[<-HW.Z];clear HW hg0;refine(eJ G S I J W).mono ?_;rintro e w1 ⟨rfl,hb1⟩;have bh:=ah (dt.Z.below hb1);clear dt hb1;have cx:w1.cell? ⟨w.heap.size+1,0,none⟩=some (.int .i64 x):=bh.Z.x.cell (i:=0) rfl;have c2:w1.cell? ⟨w.heap.size+1+1,0,none⟩=some (.int .u8 0):=bh.Z.k.cell (i:=0) rfl;have c3:w1.cell? ⟨w.heap.size+1+1+1,0,none⟩=some (.int .i64 0):=bh.Z.a.cell (i:=0) rfl;have c4:w1.cell? ⟨w.heap.size+1+1+1+1,0,none⟩=some (.int .i64 0):=bh.Z.b.cell (i:=0) rfl;have f2:w1.frozen? ⟨w.heap.size+1+1,0,none⟩=false:=an bh.Z.k 0;have f3:w1.frozen? ⟨w.heap.size+1+1+1,0,none⟩=false:=an bh.Z.a 0;have f4:w1.frozen? ⟨w.heap.size+1+1+1+1,0,none⟩=false:=an bh.Z.b 0;cases hm:aT G S I J with
 |false=>
  have HO:Hd (lC G S I J x 0 0 0):=.inl ⟨.inl hm,rfl,rfl,rfl⟩;clear hm;go_wp2_with fail;have hst:=((bh.Z.I8 0).nB 0).nA 0;have r2:=hst.k.cell (i:=0) (v:=.int .u8 0) rfl;have r3:=hst.a.cell (i:=0) (v:=.int .i64 0) rfl;have r4:=hst.b.cell (i:=0) (v:=.int .i64 0) rfl;refine eo (v:=.tuple #[.int .u8 0,.int .i64 0,.int .i64 0]) ?_ ⟨0,0,0,rfl,HO.Z,hst.bel⟩;simp only[Nat.add_assoc,Nat.reduceAdd] at*;simp[results,Tryz.f17,go_sem,r2,r3,r4]
 |true=>
 have HM:=ah hm;clear hm
 by_cases hneg:x<0
 ·have HO:Hd (lC G S I J x 0 0 0):=.inl ⟨.inr (.inl hneg),rfl,rfl,rfl⟩
  go_wp2_with fail;have hst:=((bh.Z.I8 0).nB 0).nA 0;have r2:=hst.k.cell (i:=0) (v:=.int .u8 0) rfl;have r3:=hst.a.cell (i:=0) (v:=.int .i64 0) rfl;have r4:=hst.b.cell (i:=0) (v:=.int .i64 0) rfl;refine eo (v:=.tuple #[.int .u8 0,.int .i64 0,.int .i64 0]) ?_ ⟨0,0,0,rfl,HO.Z,hst.bel⟩;simp only[Nat.add_assoc,Nat.reduceAdd] at*;simp[results,Tryz.f17,go_sem,r2,r3,r4]
 have hg1:=bh.Z.g;clear c2 c3 c4 f2 f3 f4;go_wp2_with (first|(refine aB rfl 23 (.tmp 2) rfl _ _ _ rfl hg1 Tryz.underlying23 rfl (by kernel_rfl) ?_))
 refine(Di G S I J w1).mono ?_;rintro e w2 ⟨rfl,sR,hb2⟩;have bW:=ah (bh.Z.below hb2);have wF:=bh.Z.sz;have yP:=sR.lt;clear bh hg1 cx hb2;generalize w1.heap.size=B at*;clear w1;obtain⟨h1,h2,h3,h4,h5,h6,h7,h8,h9,h10,h11⟩:=(bq G S I J).1 HM.Z;obtain⟨g,rfl⟩:∃g:Nat,G=(g:Int):=⟨G.toNat,by omega⟩;have hnb:pj (g:Int) S I J=2+J+(g:Int)*S:=by unfold pj;rw[HM.Z];rfl
 go_wp2_with fail;apply xA (gf:=90) (lb:=#[.pointer (some ⟨B,0,none⟩)]) rfl (enters_of Tryz.func90 (by kernel_rfl) rfl)
  (Aq 4 (by decide) B g S I J HM.Z) (λk=>rfl) 117 (λk=>pO S (I/4) J k)
  (λk W=>Hd (tu S (I/4) J k<=x)/\sT w g S I J x 0 0 0 W)
  (λc k W=>c= .ret/\∃K A B,Hd (lC g S I J x K A B)/\sT w g S I J x K A B W)
  (λk=>(aC.pure _ _).and (sT.loc (by omega)))
  (λc k=>(aC.pure _ _).and (aC.ex λK=>aC.ex λA=>aC.ex λB=>(aC.pure _ _).and (sT.loc (by omega))))
  (λk=>aC.at _ _ yP)
  ⟨(show(0:Int)<=x by omega),bW.Z⟩ sR
 case assign=>
  intro l k W K hk hK;dsimp only;have HF:=ah (FA (g:=g) (t:=I/4) h3 h4 (by omega) h10 h8 h9 (by omega) k (by rwa[Int.toNat_natCast] at hk));have r5:(pO S (I/4) J k).size=5:=by obtain⟨K',Gg,Fr,Sz,Pl,he,_⟩:=HF.Z;rw[he];rfl
  have hc1:(pO S (I/4) J k).all (·.oneCell')=true:=by obtain⟨K',Gg,Fr,Sz,Pl,he,_⟩:=HF.Z;rw[he];exact Ha _ _ _ _ _
  have AP:(Tryz.prog.info? 117).map (·.size)=some (pO S (I/4) J k).size:=by rw[r5];exact oN
  have hA:=At.new W 117 (aP 0 0 0 0 0);have hal:=ot;have hs0:(aP 0 0 0 0 0).size=(pO S (I/4) J k).size:=by rw[r5];rfl
  clear r5 hk
  gi_wp2_with (first|(refine fQ rfl 117 (.tmp 7) (.tmp 17) rfl W.heap.size (pO S (I/4) J k) (aP 0 0 0 0 0) rfl rfl hA AP hs0 hc1 ?_))
  intro w4 PC ke;have hb:=ig ke;clear ke hA;obtain⟨p,hp⟩:=aa W.heap.size;rw[<-hp] at PC ⊢
  gi_wp2
  exact hK p w4 hp hb PC
 case body=>
  rintro l k p W hk ⟨HP,st⟩ hn hp;rw[Int.toNat_natCast] at hk;obtain⟨K,Gg,Sz,Pl,he,⟨b1,b2,b4,b5,b6,b7,b8⟩,yJ⟩:=M8 (g:=g) (t:=I/4) h3 h4 (by omega) h10 h8 h9 (by omega) k hk;have HE:=ah he;obtain⟨Fr,Xh⟩:=ae (tu S (I/4) J k);have OW:=ah Xh;rw[Xh] at he yJ b1 b6 HP HE;clear Xh;rw[he] at hp;have HC:=ah yJ;have cx:W.cell? ⟨w.heap.size+1,0,none⟩=some (.int .i64 x):=st.x.cell (i:=0) rfl;have p2:W.cell? ⟨p,2,none⟩=some (.int .i64 Fr):=hp.cell (i:=2) rfl;have p3:W.cell? ⟨p,3,none⟩=some (.int .i64 Sz):=hp.cell (i:=3) rfl;have e0:IntKind.i64.wrap (Fr+Sz)=Fr+Sz:=IntWalk.i64_in _ (by omega);have ST:=ah st;have HN:=ah hn;have lW:=ah hp;clear yJ st hn hp
  by_cases hlt:x<Fr+Sz
  ·have HO:Hd (lC g S I J x K Gg (Pl+x-Fr)):=.inr ⟨HM.Z,k,Sz,Pl,by omega,by rw[OW.Z];exact HE.Z,by rw[OW.Z];exact HP.Z,by rw[<-HC.Z];exact hlt,by rw[OW.Z]⟩
   have e1:IntKind.i64.wrap (Pl+x)=Pl+x:=IntWalk.i64_in _ (by omega);have e2:IntKind.i64.wrap (Pl+x-Fr)=Pl+x-Fr:=IntWalk.i64_in _ (by omega)
   gi_wp2
   refine Mv.qI (Be w g S I J x K Gg (Pl+x-Fr) p (aP K Gg Fr Sz Pl) w2.heap.size W) ⟨0,undef⟩ (by kernel_rfl) (by kernel_rfl) (by kernel_rfl) (by kernel_rfl) ?_ ?_
   ·exact⟨⟨ST.Z.g,ST.Z.x,ST.Z.k,ST.Z.a,ST.Z.b,ST.Z.bel.drew⟩,lW.Z,y9 W 1⟩
   intro hne;have hp0:∀y:a9 (λW'=>∃s,Be w g S I J x K Gg (Pl+x-Fr) p (aP K Gg Fr Sz Pl) w2.heap.size W s W'),y.W.cell? ⟨p,0,none⟩=some (.int .u8 K):=λy=>by obtain⟨s,h⟩:=y.h;exact h.p.cell (i:=0) rfl
   have hp1:∀y:a9 (λW'=>∃s,Be w g S I J x K Gg (Pl+x-Fr) p (aP K Gg Fr Sz Pl) w2.heap.size W s W'),y.W.cell? ⟨p,1,none⟩=some (.int .i64 Gg):=λy=>by obtain⟨s,h⟩:=y.h;exact h.p.cell (i:=1) rfl
   have hp2:∀y:a9 (λW'=>∃s,Be w g S I J x K Gg (Pl+x-Fr) p (aP K Gg Fr Sz Pl) w2.heap.size W s W'),y.W.cell? ⟨p,2,none⟩=some (.int .i64 Fr):=λy=>by obtain⟨s,h⟩:=y.h;exact h.p.cell (i:=2) rfl
   have Gk:∀y:a9 (λW'=>∃s,Be w g S I J x K Gg (Pl+x-Fr) p (aP K Gg Fr Sz Pl) w2.heap.size W s W'),y.W.cell? ⟨p,4,none⟩=some (.int .i64 Pl):=λy=>by obtain⟨s,h⟩:=y.h;exact h.p.cell (i:=4) rfl
   have hpx:∀y:a9 (λW'=>∃s,Be w g S I J x K Gg (Pl+x-Fr) p (aP K Gg Fr Sz Pl) w2.heap.size W s W'),y.W.cell? ⟨w.heap.size+1,0,none⟩=some (.int .i64 x):=λy=>by obtain⟨s,h⟩:=y.h;exact h.s.x.cell (i:=0) rfl
   (refine Mv.aX 11 (by kernel_rfl) ?_;simp only[List.take,List.drop])
   iterate 11 go_big_quiet_step (fail)
   refine wpQuiet_nil ?_;refine Mv.fy rfl 5 (.tmp 4) (.tmp 26) rfl (w.heap.size+1+1) 0 (.int .u8 K) rfl rfl BP rfl ⟨1,undef⟩ (λW' hW=>⟨⟨_,hW.s.k.cell (i:=0) rfl⟩,an hW.s.k 0,hW.s1⟩) ?_;refine Mv.frame ?_ (by simp only[Act.put];exact rfl);refine Mv.fy rfl 3 (.tmp 5) (.tmp 28) rfl (w.heap.size+1+1+1) 0 (.int .i64 Gg) rfl rfl yB rfl ⟨2,undef⟩ (λW' hW=>⟨⟨_,hW.s.a.cell (i:=0) rfl⟩,an hW.s.a 0,hW.s2⟩) ?_;refine Mv.frame ?_ (by simp only[Act.put];exact rfl);refine Mv.fy rfl 3 (.tmp 6) (.tmp 35) rfl (w.heap.size+1+1+1+1) 0 (.int .i64 (Pl+x-Fr)) rfl rfl yB rfl ⟨3,undef⟩ (λW' hW=>⟨⟨_,hW.s.b.cell (i:=0) rfl⟩,an hW.s.b 0,hW.s3⟩) ?_;refine Mv.frame ?_ (by simp only[Act.put];exact rfl);refine Mv.bI ?_;intro W5 h5;clear hne hp0 hp1 hp2 Gk hpx
   gi_wp2
   exact⟨h5.iU,rfl,K,Gg,_,HO,h5.s⟩
  have Q3:Hd (tu S (I/4) J (k+1)<=x):=by show _<=_;rw[<-HC.Z];omega
  gi_wp2
  exact⟨KeepsFrom.refl _ _,⟨Q3,ST.Z⟩,HN.Z⟩
 case done=>
  rintro D W hD ⟨HP,st⟩ hK;have HO:Hd (lC g S I J x 0 0 0):=.inl ⟨.inr (.inr (by
   have:=HP.Z;rw[Int.toNat_natCast,nY] at this;rw[hnb];exact this)),rfl,rfl,rfl⟩
  have c2:W.cell? ⟨w.heap.size+1+1,0,none⟩=some (.int .u8 0):=st.k.cell (i:=0) rfl;have c3:W.cell? ⟨w.heap.size+1+1+1,0,none⟩=some (.int .i64 0):=st.a.cell (i:=0) rfl;have c4:W.cell? ⟨w.heap.size+1+1+1+1,0,none⟩=some (.int .i64 0):=st.b.cell (i:=0) rfl;have f2:W.frozen? ⟨w.heap.size+1+1,0,none⟩=false:=an st.k 0;have f3:W.frozen? ⟨w.heap.size+1+1+1,0,none⟩=false:=an st.a 0;have f4:W.frozen? ⟨w.heap.size+1+1+1+1,0,none⟩=false:=an st.b 0;have ST:=ah st;have HK:=ah hK;clear st hK;go_wp2_with fail;have hst:=((ST.Z.I8 0).nB 0).nA 0;have Kb:=((((az.setCell _ _ _).block D (by simp;omega)).trans (((az.setCell _ _ _).block D (by simp;omega)).trans ((az.setCell W ⟨w.heap.size+2,0,none⟩ (.int .u8 0)).block D (by simp;omega)))).trans HK.Z:((((W.setCell ⟨w.heap.size+2,0,none⟩ (.int .u8 0)).setCell ⟨w.heap.size+3,0,none⟩ (.int .i64 0)).setCell ⟨w.heap.size+4,0,none⟩ (.int .i64 0))).heap[D]? =some (.deferred (some [])));have r2:=dD (D:=D) (o':=.deferred none) Kb rfl (hst.k.cell (i:=0) (v:=.int .u8 0) rfl);have r3:=dD (D:=D) (o':=.deferred none) Kb rfl (hst.a.cell (i:=0) (v:=.int .i64 0) rfl);have r4:=dD (D:=D) (o':=.deferred none) Kb rfl (hst.b.cell (i:=0) (v:=.int .i64 0) rfl);refine dQ (v:=.tuple #[.int .u8 0,.int .i64 0,.int .i64 0]) (D:=D) Kb ?_ ⟨0,0,0,rfl,HO.Z,eU hst.bel _ af (by omega)⟩;simp only[Nat.add_assoc,Nat.reduceAdd] at*;simp[results,Tryz.f17,go_sem,r2,r3,r4]
 rintro D c k W hD hk ⟨rfl,K,A,B',HO,st⟩ hK;have ST:=ah st;have HK:=ah hK;clear st hK;go_wp2_with fail;have r2:=dD (D:=D) (o':=.deferred none) HK.Z rfl (ST.Z.k.cell (i:=0) (v:=.int .u8 K) rfl);have r3:=dD (D:=D) (o':=.deferred none) HK.Z rfl (ST.Z.a.cell (i:=0) (v:=.int .i64 A) rfl);have r4:=dD (D:=D) (o':=.deferred none) HK.Z rfl (ST.Z.b.cell (i:=0) (v:=.int .i64 B') rfl);refine dQ (v:=.tuple #[.int .u8 K,.int .i64 A,.int .i64 B']) (D:=D) HK.Z ?_ ⟨K,A,B',rfl,HO.Z,eU ST.Z.bel _ af (by omega)⟩;simp only[Nat.add_assoc,Nat.reduceAdd] at*;simp[results,Tryz.f17,go_sem,r2,r3,r4]
end
def sz:Nat->Int:=oz 2 16 8 40 7
theorem xI(G S I J O:Int):bu (oz G S I J O):=by
 unfold oz;split
 ·exact oC (oQ _)
 intro i;show(0:Int)<=0/\(0:Int)<256;decide
theorem uH(G S I J:Int)(n:Nat)(b i d:Nat->Int):bu (ky G S I J n b i d):=by
 unfold ky;split
 ·exact oC (oQ _)
 intro i;show(0:Int)<=0/\(0:Int)<256;decide
theorem Dp{γ d:Nat}(hs:16<=s)(hj:40<=j)(hd:d<s):
  iL g s i j (2+j+γ*s+d)=if γ=0/\d=2 then Fl else if d=0 then bZ (lf (2+i/4) s) else if d=1 then bZ (lf (if γ=0 then 1 else 0) i) elseλ_=>0:=by
 have hsub:2+j+γ*s+d-(2+j)=s*γ+d:=by rw[Nat.mul_comm];omega
 have NJ:(2+j+γ*s+d-(2+j))%s=d:=by rw[hsub,Nat.mul_add_mod,Nat.mod_eq_of_lt hd]
 have hdiv:(2+j+γ*s+d-(2+j))/s=γ:=by rw[hsub,Nat.mul_add_div (by omega),Nat.div_eq_of_lt hd];rfl
 unfold iL LB
 by_cases e:γ=0/\d=2
 ·obtain⟨rfl,rfl⟩:=e
  rw[if_pos (by omega),if_pos ⟨rfl,rfl⟩]
 rw[if_neg e,NJ,hdiv];have e2:¬2+j+γ*s+d=2+j+2:=by
  intro h;apply e;rcases Nat.eq_zero_or_pos γ with rfl|hγ
  ·exact⟨rfl,by omega⟩
  have:1*s<=γ*s:=Nat.mul_le_mul_right s hγ;omega
 rw[if_neg e2,if_neg (by omega),if_neg (by omega),if_neg (by omega),if_neg (by omega)]
theorem FX{b:Nat}(hj:40<=j)(h:3<=b)(hb:b<2+j):iL g s i j b=λ_=>0:=by
 unfold iL LB;rw[if_neg (by omega),if_neg (by omega),if_neg (by omega),if_neg (by omega),if_pos hb]
theorem Qz(hj:40<=j):iL g s i j 0=oz g s i j 0:=by unfold iL LB;rw[if_neg (by omega),if_pos rfl]
theorem Qy(hj:40<=j):iL g s i j 1=ky g s i j g (PG g s i j) (Iu i) Iv:=by unfold iL LB;rw[if_neg (by omega),if_neg (by omega),if_pos rfl]
theorem Qx(hj:40<=j):iL g s i j 2=lj 1 0:=by unfold iL LB;rw[if_neg (by omega),if_neg (by omega),if_neg (by omega),if_pos rfl]
theorem ng:bu (λ_=>0):=λ_=>⟨Int.le_refl 0,(by decide:(0:Int)<256)⟩
theorem DQ(s t:Int):bu (lj s t):=by
 unfold lj;split
 ·exact EK _
 exact ng
theorem C7:bu pc.byte:=by
 intro i;unfold aS.byte
 repeat(first|split|exact gx _ _|exact⟨by decide,by decide⟩)
theorem BJ(g s i j b:Nat):bu (iL g s i j b):=by
 unfold iL LB
 repeat(first|split|exact eO ng C7 _ _|exact xI _ _ _ _ _|exact uH _ _ _ _ _ _ _ _|exact DQ _ _|exact ng|exact Bc _)
def uj(s i:Nat)(K γ:Int):Nat->Bool:=if K=4 then lf (2+i/4) s else if K=5 then lf (if γ=0 then 1 else 0) i elseλ_=>false
def Lk(g s i j b:Nat)(K γ O:Int):Nat->Int:=
 if b=0 then oz g s i j 0 else if b=1 then ky g s i j g (PG g s i j) (Iu i) Iv else if b=2 then lj 1 0
 else if O=1 then over (bZ (uj s i K γ)) 0 64 pc.byte else bZ (uj s i K γ)
theorem G8:bZ (λ_=>false)=λ_=>0:=funext KE
theorem BN:uj s i 4 γ=lf (2+i/4) s:=rfl
theorem yu:uj s i 5 γ=lf (if γ=0 then 1 else 0) i:=by unfold uj;rw[if_neg (by decide),if_pos rfl]
theorem vW{K:Int}(h4:K≠4)(h5:K≠5):uj s i K γ=λ_=>false:=by unfold uj;rw[if_neg h4,if_neg h5]
theorem ME{b:Nat}(hm:aT g s i j=true)(hb:b<2+j+g*s):
  ∃K γ A O:Int,gZ s (i/4) j b=tv K γ A O/\(1<=K/\K<=7)/\Lk g s i j b K γ O=iL g s i j b:=by
 obtain⟨h1,h2,h3,h4,h5,h6,h7,h8,h9,h10,h11⟩:=dX hm
 by_cases b0:b=0
 ·subst b0
  exact⟨1,0,0,0,rfl,by omega,by rw[Qz h8];rfl⟩
 by_cases b1:b=1
 ·subst b1
  exact⟨2,0,0,0,rfl,by omega,by rw[Qy h8];rfl⟩
 by_cases b2:b=2
 ·subst b2
  refine⟨3,0,((2:Nat):Int)-2,0,?_,by omega,by rw[Qx h8];rfl⟩;unfold gZ;rw[if_neg (by omega),if_neg (by omega),if_pos (by omega)]
 have hrf:∀K γ O,Lk g s i j b K γ O=if O=1 then over (bZ (uj s i K γ)) 0 64 pc.byte else bZ (uj s i K γ):=λK γ O=>by
  unfold Lk;rw[if_neg b0,if_neg b1,if_neg b2]
 by_cases bj:b<2+j
 ·refine⟨3,0,(b:Int)-2,0,?_,by omega,?_⟩
  ·unfold gZ;rw[if_neg b0,if_neg b1,if_pos bj]
  rw[hrf,if_neg (by decide),vW (by decide) (by decide),G8,FX h8 (by omega) bj]
 obtain⟨d,hd⟩:=aa (b-(2+j));have yI:=Nat.div_add_mod d s;have Pm:=Nat.mod_lt d (show s>0 by omega);have hmk:iL g s i j b=if d=2 then Fl else if d%s=0 then bZ (lf (2+i/4) s) else if d%s=1 then bZ (lf (if d/s=0 then 1 else 0) i) elseλ_=>0:=by
  unfold iL LB;rw[<-hd,if_neg b0,if_neg b1,if_neg b2,if_neg bj]
  by_cases e:d=2
  ·rw[if_pos e,if_pos (by omega)]
  rw[if_neg e,if_neg (by omega)]
 have gG:gZ s (i/4) j b=if d%s=0 then tv 4 (d/s:Nat) 0 0 else if d%s=1 then tv 5 (d/s:Nat) 1 0 else
   if d%s<2+i/4 then tv 6 (d/s:Nat) (d%s:Nat) (1+(d/s:Nat)*(4*((i/4:Nat):Int))+4*((d%s:Nat)-2)) else tv 7 (d/s:Nat) (d%s:Nat) 0:=by
  unfold gZ;rw[if_neg b0,if_neg b1,if_neg bj,<-hd]
 by_cases m0:d%s=0
 ·refine⟨4,(d/s:Nat),0,0,by rw[gG,if_pos m0],by omega,?_⟩
  have:d≠2:=λe=>by rw[e,Nat.mod_eq_of_lt (by omega)] at m0;omega
  rw[hrf,if_neg (by decide),BN,hmk,if_neg this,if_pos m0]
 by_cases m1:d%s=1
 ·refine⟨5,(d/s:Nat),1,0,by rw[gG,if_neg m0,if_pos m1],by omega,?_⟩
  have:d≠2:=λe=>by rw[e,Nat.mod_eq_of_lt (by omega)] at m1;omega
  rw[hrf,if_neg (by decide),yu,hmk,if_neg this,if_neg m0,if_pos m1]
  by_cases e:d/s=0
  ·rw[if_pos e,if_pos (by omega)]
  rw[if_neg e,if_neg (by omega)]
 by_cases mi:d%s<2+i/4
 ·refine⟨6,_,_,_,by rw[gG,if_neg m0,if_neg m1,if_pos mi],by omega,?_⟩
  rw[hrf,vW (by decide) (by decide),G8,hmk]
  by_cases e:d=2
  ·have e1:d/s=0:=by rw[e,Nat.div_eq_of_lt (by omega)]
   have e2:d%s=2:=by rw[e,Nat.mod_eq_of_lt (by omega)]
   rw[if_pos e,if_pos (by rw[e1,e2];simp)];rfl
  rw[if_neg e,if_neg m0,if_neg m1,if_neg ?_];intro hO;have ht:1<=i/4:=by omega
  by_cases e1:d/s=0
  ·rw[e1,Nat.mul_zero] at yI
   rw[e1] at hO;simp at hO;omega
  have h1':(1:Int)*(4*((i/4:Nat):Int))<=((d/s:Nat):Int)*(4*((i/4:Nat):Int)):=Int.mul_le_mul_of_nonneg_right (by have:=Nat.one_le_iff_ne_zero.2 e1;exact_mod_cast this) (by omega);generalize ((d/s:Nat):Int)*(4*((i/4:Nat):Int))=X at h1' hO;omega
 refine⟨7,_,_,0,by rw[gG,if_neg m0,if_neg m1,if_neg mi],by omega,?_⟩;have:d≠2:=λe=>by rw[e,Nat.mod_eq_of_lt (by omega)] at mi;omega
 rw[hrf,if_neg (by decide),vW (by decide) (by decide),G8,hmk,if_neg this,if_neg m0,if_neg m1]
theorem Cx(f:Nat->List Value):∀n,1<=n->Cs f n=f 0++Cs (λk=>f (1+k)) (n-1):=λn hn=>by
 have:=xg f 1 (n-1);rw[show 1+(n-1)=n by omega] at this;rw[<-this];rfl
theorem Hy(B:Int)(i n:Nat)(hn:1<=n):((Cs (df (λ_=>B) (λ_=>(i:Int)) (λ_=>0)) n).set 1 (.int .i64 ((i:Int)-1))).set 2 (.int .i64 1)=Cs (df (λ_=>B) (Iu (i:Int)) Iv) n:=by
 rw[Cx _ n hn,Cx (df (λ_=>B) (Iu (i:Int)) Iv) n hn];have:Cs (λk=>df (λ_=>B) (λ_=>(i:Int)) (λ_=>0) (1+k)) (n-1)=Cs (λk=>df (λ_=>B) (Iu (i:Int)) Iv (1+k)) (n-1):=iS λk _=>by
  unfold df Iu Iv;rw[if_neg (by omega),if_neg (by omega)]
 rw[this]
 rfl
end Go.Proofs.YtphamecphmbipaaGreatDoor
