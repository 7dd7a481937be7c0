/- Texts of this claim, merged. -/
import Derived.Test.YtphamecphmbipaaGreatDoorZ30
set_option linter.unusedVariables false
set_option maxRecDepth 100000
set_option maxHeartbeats 16000000

namespace Go.Proofs.YtphamecphmbipaaGreatDoor
open Go.RowKit
variable {q k p off i cap:Nat} {T:TypeId} {x:Im} {v v' ds ay pt:Value} {W' w:World} {o:Oper} {a:Act} {G:Value->World->Prop} {l:Nat->Bool}
theorem j1(q:Nat)(hq:q<11)(w:World):Calls Tryz.prog 152 #[.int .i64 (q:Int)] w λe w'=>e= .returned (.int .i64 ((Im.lvl q:Nat):Int))/\Below w.heap.size w w':=by
 have h0:(0:Int)<=(q:Int):=by omega
 by_cases h8:q<8
 ·have HE:Hd (Im.lvl q=0):=by show _=_;unfold Im.lvl;rw[if_pos h8]
  have h7:(q:Int)<=7:=by omega
  clear hq h8;go_enter Tryz.func152,Tryz.ntmps152;go_wp2_with fail;go_ret;exact⟨by rw[HE.Z];rfl,Below.refl _ _⟩
 have HE:Hd (((Im.lvl q:Nat):Int)=(q:Int)-7):=by show _=_;unfold Im.lvl;rw[if_neg h8];omega
 have h7:¬(q:Int)<=7:=by omega
 have Xp:(8:Int)<=(q:Int):=by omega
 have h10:(q:Int)<=10:=by omega
 clear hq h8;go_enter Tryz.func152,Tryz.ntmps152;go_wp2_with fail;go_ret;exact⟨by rw[HE.Z];rfl,Below.refl _ _⟩
theorem CT(W:World):(Instr.buildSlice 37 4 #[(0,.int .i64 1),(1,.int .i64 64),(2,.int .i64 4096),(3,.int .i64 262144)]).run Tryz.prog W= .ok (.slice (some ⟨W.heap.size,0,none⟩) 4 4) (W.alloc (.cells #[.int .i64 1,.int .i64 64,.int .i64 4096,.int .i64 262144] 3)):=by kernel_rfl
theorem pd(l:Nat)(hl:l<4)(w:World):Calls Tryz.prog 151 #[.int .i64 (l:Int)] w λe w'=>e= .returned (.int .i64 ((Im.gh l:Nat):Int))/\Below w.heap.size w w':=by
 have hbs:=CT;have HB:Hd (Below w.heap.size w (w.alloc (.cells #[.int .i64 1,.int .i64 64,.int .i64 4096,.int .i64 262144] 3))):=ag.alloc af _;have hA:=At.new w 3 #[.int .i64 1,.int .i64 64,.int .i64 4096,.int .i64 262144];obtain⟨v,hv⟩:=aa (((Im.gh l:Nat):Int):Int);have cl:(w.alloc (.cells #[.int .i64 1,.int .i64 64,.int .i64 4096,.int .i64 262144] 3)).cell? ⟨w.heap.size,l,none⟩=some (.int .i64 v):=by
  rw[hv];have:l=0\/l=1\/l=2\/l=3:=by omega
  rcases this with rfl|rfl|rfl|rfl
  ·exact hA.cell (i:=0) rfl
  ·exact hA.cell (i:=1) rfl
  ·exact hA.cell (i:=2) rfl
  exact hA.cell (i:=3) rfl
 rw[<-hv];have l0:(0:Int)<=(l:Int):=by omega
 have l1:¬(3:Int)<(l:Int):=by omega
 have l2:(l:Int)<4:=by omega
 clear hA hv hl;go_enter Tryz.func151,Tryz.ntmps151;go_wp2_with fail;go_ret;exact⟨rfl,HB.Z⟩
theorem GK(h:q<10):Im.fst (q+1)=Im.fst q+Im.gh (Im.lvl q):=by
 unfold Im.fst Im.lvl Im.gh
 by_cases h8:q<8
 ·rw[if_pos (by omega),if_pos (by omega),if_pos h8,Nat.pow_zero]
 have:q=8\/q=9:=by omega
 rcases this with rfl|rfl<;>rfl
theorem Oi(h:q<11):Im.fst q<=4168:=by unfold Im.fst;split<;>(try split)<;>omega
theorem vT(h:q<11):Im.lvl q<4:=by unfold Im.lvl;split<;>omega
theorem vH(q:Nat)(hq:q<11)(w:World):Calls Tryz.prog 150 #[.int .i64 (q:Int)] w λe w'=>e= .returned (.int .i64 ((Im.fst q:Nat):Int))/\Below w.heap.size w w':=by
 have hl0:(0:Int)<=((Im.lvl q:Nat):Int):=by omega
 go_enter Tryz.func150,Tryz.ntmps150;go_wp2_with fail;refine(j1 q hq _).mono ?_;rintro e w1 ⟨rfl,hb1⟩;have jS:=ah hb1;obtain⟨L,hL⟩:=aa (Im.lvl q:Nat);rw[<-hL] at hl0 ⊢;clear hb1 hL;go_wp2_with fail;go_loopw [3,4] (λu v wr=>∃k:Nat,k<=q/\u= .int .i64 ((Im.fst k:Nat):Int)/\v= .int .i64 (k:Int)/\Below w.heap.size w wr) (λ_ v _=>q-(intOf v).toNat)
 case atStart=>exact⟨0,Nat.zero_le _,rfl,rfl,jS.Z⟩
 clear jS;obtain⟨k,hk,rfl,rfl,hb⟩:=hrel;have HB:=ah hb;clear hb
 by_cases hlt:k<q
 ·have hlt':(k:Int)<(q:Int):=by omega
  have HST:=ah (GK (q:=k) (by omega));have NR:=Oi (q:=k) (by omega);obtain⟨F,hF⟩:=aa (Im.fst k);rw[<-hF] at NR HST ⊢;clear hF;go_wp2_with fail;refine(j1 k (by omega) _).mono ?_;rintro e w2 ⟨rfl,hb2⟩;have jQ:=ah (HB.Z.trans (hb2.mono HB.Z.size));clear HB hb2;go_wp2_with fail;refine(pd (Im.lvl k) (vT (by omega)) _).mono ?_;rintro e w3 ⟨rfl,hb3⟩;have EH:=ah (jQ.Z.trans (hb3.mono jQ.Z.size));have LL:Im.gh (Im.lvl k)<=262144:=by
   have h4:=vT (q:=k) (by omega);have:Im.lvl k=0\/Im.lvl k=1\/Im.lvl k=2\/Im.lvl k=3:=by omega
   rcases this with e|e|e|e<;>rw[e]<;>decide
  obtain⟨G,hG⟩:=aa (Im.gh (Im.lvl k));rw[<-hG] at LL HST ⊢;clear jQ hb3 hG;go_wp2_with fail;go_roundw
  case rel=>exact⟨k+1,by omega,by rw[HST.Z];go_num,by go_num,EH.Z⟩
  simp[intOf];omega
 obtain rfl:k=q:=by omega
 obtain⟨F,hF⟩:=aa (Im.fst k);rw[<-hF];have OY:=ah hF;clear hF;go_wp2_with fail;go_ret;exact⟨by rw[<-OY.Z];rfl,HB.Z⟩
theorem gb{W:World}{n:Nat}{P:Nat->Bool}(h:aE W q T 1 n (kH P))(hk:k<n):W.cell? ⟨q,k,none⟩=some (.bool (P k)):=h.j8 hk rfl
def knC(v:Value)(g s i j o:Nat)(ds ino ay pt:Value):Array Value:=#[v,.int .i64 (g:Int),.int .i64 (s:Int),.int .i64 (i:Int),.int .i64 (j:Int),.int .u32 (o:Int),.int .i64 (g:Int),.int .i64 (s:Int),.int .i64 (i:Int),.int .i64 (j:Int),ds,ino,ay,pt]
abbrev knX(b off cap:Nat)(x:Im)(ds ino ay pt:Value):Array Value:=knC (.slice (some ⟨b,off,none⟩) x.n cap) x.g x.s x.i x.j x.o ds ino ay pt
structure qz(p b off cap:Nat)(x:Im)(ds ino ay pt:Value)(W:World):Prop where
 a:At W p 157 (knX b off cap x ds ino ay pt)
 i:aM W b off 256 x.n (dR x.L)
 bl:b<W.heap.size
section
variable {p b off cap:Nat} {x:Im} {ds ino ay pt:Value} {W W':World}
theorem qz.below(h:qz p b off cap x ds ino ay pt W)(hb:Below W.heap.size W W'):qz p b off cap x ds ino ay pt W':=⟨h.a.below hb h.a.lt,aM.below h.i hb h.bl,Nat.lt_of_lt_of_le h.bl hb.size⟩
theorem qz.lT(h:qz p b off cap x ds ino ay pt W):W.rangeAt p 6 (ai x.g x.s x.i x.j).toList:=λk v hk=>by
 match k,hk with
 |0,hk=>injection hk with hk;subst hk;exact h.a.cell (i:=6) rfl
 |1,hk=>injection hk with hk;subst hk;exact h.a.cell (i:=7) rfl
 |2,hk=>injection hk with hk;subst hk;exact h.a.cell (i:=8) rfl
 |3,hk=>injection hk with hk;subst hk;exact h.a.cell (i:=9) rfl
 |k+4,hk=>cases hk
theorem qz.blk(h:qz p b off cap x ds ino ay pt W)(hq:q<x.n):W.rangeAt b (off+q*256) (dR x.L q):=aM.range h.i q hq
end
theorem gq(hx:x.Ok)(p b off cap:Nat)(ds ino ay pt:Value)(k d:Nat)(hk:k<x.g)(hd:d<2)(w:World)(h:qz p b off cap x ds ino ay pt w):
  Calls Tryz.prog 148 #[.pointer (some ⟨p,0,none⟩),.int .i64 (k:Int),.int .i64 (d:Int)] w λe w'=>∃q,e= .returned (.slice (some ⟨q,0,none⟩) 2048 2048)/\w.heap.size<=q/\aE w' q 4 1 2048 (kH (bt (x.L (x.st k+d))))/\Below w.heap.size w w':=by
 have hrg:=h.lT;have ST:=ah h;have hS:=hx.may;have hs2:2<x.s:=by have:=dX hx.may;omega
 have QR:x.st k+d<x.n:=hx.st hk (by omega);have gi:=hx.iK;have HX:=ah hx;have Cp:Hd (∀W,Calls Tryz.prog 69 #[bV x.g x.s x.i x.j,.int .i64 (k:Int)] W λe w'=>e= .returned (.tuple #[.int .i64 ((x.st k:Nat):Int),.bool true])/\Below W.heap.size W w'):=λW=>kW x.g x.s x.i x.j k hx.may hk W
 obtain⟨S,ZI⟩:=aa (x.st k);rw[<-ZI] at QR Cp ⊢;clear h hx hS hs2 hk ZI;go_enter Tryz.func148,Tryz.ntmps148;go_wp2_with (first|(refine aH rfl 23 (.tmp 12) rfl p 6 (ai x.g x.s x.i x.j).toList _ rfl hrg Tryz.underlying23 rfl (by kernel_rfl) ?_))
 refine(Cp.Z _).mono ?_;rintro e w1 ⟨rfl,hb1⟩;have bh:=ah (ST.Z.below hb1);have jS:=ah hb1;have cl:w1.cell? ⟨p,0,none⟩=some (.slice (some ⟨b,off,none⟩) x.n cap):=bh.Z.a.cell (i:=0) rfl;have DH:=bh.Z.blk QR;have hq':(S:Int)+(d:Int)<(x.n:Int):=by omega
 have hq0:(0:Int)<=(S:Int)+(d:Int):=by omega
 clear ST hrg hb1 Cp;go_wp2_with (first|(refine aH rfl 32 (.tmp 25) rfl b (off+(S+d)*256) (dR x.L (S+d)) _ rfl DH Tryz.underlying32 rfl (by rw[aZ];exact aA) ?_))
 refine(ru (x.L (S+d)) (HX.Z.jx _) w1).mono ?_;rintro e w2 ⟨q,rfl,hq1,hR,hb2⟩;have HR:Hd (w.heap.size<=q/\aE w2 q 4 1 2048 (kH (bt (x.L (S+d))))/\Below w.heap.size w w2):=⟨Nat.le_trans jS.Z.size hq1,hR,jS.Z.trans (hb2.mono jS.Z.size)⟩;clear bh jS cl DH hb2 hR hq1;go_wp2_with fail;go_ret;exact⟨q,rfl,HR.Z⟩
theorem xE(hx:x.Ok){b:Nat}(hb:b<x.n):∃K A B C:Int,gZ x.s (x.i/4) x.j b=tv K A B C/\(K==7)=x.data b/\(x.data b=true->A=(((b-(2+x.j))/x.s:Nat):Int)/\B=(((b-(2+x.j))%x.s:Nat):Int)):=by
 unfold gZ Im.data Im.own;rw[decide_eq_true hb]
 by_cases h0:b=0
 ·rw[if_pos h0];exact⟨_,_,_,_,rfl,by rw[decide_eq_false (by omega)];rfl,λh=>by rw[decide_eq_false (by omega)] at h;cases h⟩
 rw[if_neg h0]
 by_cases h1:b=1
 ·rw[if_pos h1];exact⟨_,_,_,_,rfl,by rw[decide_eq_false (by omega)];rfl,λh=>by rw[decide_eq_false (by omega)] at h;cases h⟩
 rw[if_neg h1]
 by_cases h2:b<2+x.j
 ·rw[if_pos h2];exact⟨_,_,_,_,rfl,by rw[decide_eq_false (by omega)];rfl,λh=>by rw[decide_eq_false (by omega)] at h;cases h⟩
 rw[if_neg h2,decide_eq_true (show 2+x.j<=b by omega)]
 by_cases h3:(b-(2+x.j))%x.s=0
 ·rw[if_pos h3];exact⟨_,_,_,_,rfl,by rw[decide_eq_false (by omega)];rfl,λh=>by rw[decide_eq_false (by omega)] at h;cases h⟩
 rw[if_neg h3]
 by_cases h4:(b-(2+x.j))%x.s=1
 ·rw[if_pos h4];exact⟨_,_,_,_,rfl,by rw[decide_eq_false (by omega)];rfl,λh=>by rw[decide_eq_false (by omega)] at h;cases h⟩
 rw[if_neg h4]
 by_cases h5:(b-(2+x.j))%x.s<2+x.i/4
 ·rw[if_pos h5];exact⟨_,_,_,_,rfl,by rw[decide_eq_false (by omega)];rfl,λh=>by rw[decide_eq_false (by omega)] at h;cases h⟩
 rw[if_neg h5];exact⟨_,_,_,_,rfl,by rw[decide_eq_true (by omega)];rfl,λ_=>⟨rfl,rfl⟩⟩
theorem Ak(hx:x.Ok)(p b off cap:Nat)(ds ino ay pt:Value)(q:Nat)(w:World)(h:qz p b off cap x ds ino ay pt w)(hq:q<x.n):
  Calls Tryz.prog 153 #[.pointer (some ⟨p,0,none⟩),.int .i64 (q:Int)] w λe w'=>e= .returned (.bool (x.data q))/\Below w.heap.size w w':=by
 have hrg:=h.lT;obtain⟨K,A,B,C,he,hK,_⟩:=xE hx hq;have hnn:=hx.n;have HW:Hd (∀W,Calls Tryz.prog 144 #[bV x.g x.s x.i x.j,.int .i64 (q:Int)] W λe w'=>e= .returned (.tuple #[.int .u8 K,.int .i64 A,.int .i64 B])/\Below W.heap.size W w'):=λW=>mD x.g x.s x.i x.j q hx.may (by rw[<-hnn];exact hq) K A B C he W
 obtain⟨D,hD⟩:=aa (x.data q);rw[<-hD] at hK ⊢;clear he hD hx hnn hq;go_enter Tryz.func153,Tryz.ntmps153;go_wp2_with (first|(refine aH rfl 23 (.tmp 11) rfl p 6 (ai x.g x.s x.i x.j).toList _ rfl hrg Tryz.underlying23 rfl (by kernel_rfl) ?_))
 refine(HW.Z _).mono ?_;rintro e w1 ⟨rfl,hb1⟩;have jS:=ah hb1;clear hrg h hb1 HW;go_wp2_with fail;go_ret;exact⟨rfl,jS.Z⟩
def zG(Q:List Im.Pt)(k:Nat):List Value:=match Q[k]? with
 |some y=>[.int .i64 (y.i:Int),.int .i64 (y.b:Int),.int .i64 (y.f:Int),.int .i64 ((Im.gh y.l:Nat):Int)]
 |none=>[.int .i64 0,.int .i64 0,.int .i64 0,.int .i64 0]
theorem qj(Q:List Im.Pt)(k:Nat):(zG Q k).length=4:=by unfold zG;split<;>rfl
theorem rA{Q:List Im.Pt}{y:Im.Pt}(h:Q[k]? =some y):zG Q k=[.int .i64 (y.i:Int),.int .i64 (y.b:Int),.int .i64 (y.f:Int),.int .i64 ((Im.gh y.l:Nat):Int)]:=by unfold zG;rw[h]
theorem BF:∀{Q:List Im.Pt} {k:Nat} {y:Im.Pt} {c:Nat},Q[k]? =some y->(∀(j:Nat) (z:Im.Pt),j<k->Q[j]? =some z->z.b≠c)->Im.bN Q c=if y.b=c then y.i else Im.bN (Q.drop (k+1)) c
 |[],k,y,c,h,_=>by cases h
 |z::Q,0,y,c,h,_=>by injection h with h;subst h;rfl
 |z::Q,k+1,y,c,h,hn=>by
  have h0:=hn 0 z (Nat.succ_pos _) rfl;rw[Im.bN,if_neg h0];exact BF (k:=k) h λj w hj hw=>hn (j+1) w (by omega) hw
theorem ub:∀{Q:List Im.Pt} {c:Nat},(∀(j:Nat) (z:Im.Pt),Q[j]? =some z->z.b≠c)->Im.bN Q c=0
 |[],c,_=>rfl
 |z::Q,c,h=>by
  rw[Im.bN,if_neg (h 0 z rfl)];exact ub λj w hw=>h (j+1) w hw
def KX(p:Nat)(Q:List Im.Pt)(v:Value)(W:World):Prop:=∃a cap,v= .slice a Q.length cap/\cU W a 4 Q.length (zG Q)
theorem KX.below{Q:List Im.Pt}{W:World}(h:KX p Q v W)(hb:Below W.heap.size W W'):KX p Q v W':=by
 obtain⟨a,cap,rfl,hr⟩:=h;exact⟨a,cap,rfl,hr.below (λe=>by have:=qj Q 0;rw[e] at this;cases this) hb⟩
theorem kS(p b off cap:Nat)(ds ino ay pt:Value)(Q:List Im.Pt)(hQ:Q.length<=4294967296)(c:Nat)(w:World)(h:qz p b off cap x ds ino ay pt w)(hp:KX p Q pt w):
  Calls Tryz.prog 74 #[.pointer (some ⟨p,0,none⟩),.int .i64 (c:Int)] w λe w'=>e= .returned (.int .i64 ((Im.bN Q c:Nat):Int))/\Below w.heap.size w w':=by
 obtain⟨a,cap',rfl,hr⟩:=hp;have cp:w.cell? ⟨p,13,none⟩=some (.slice a Q.length cap'):=h.a.cell (i:=13) rfl;have HR:=ah hr;obtain⟨n,hn⟩:=aa Q.length;have HN:=ah hn;rw[<-hn] at cp hQ;clear hr h hn;go_enter Tryz.func74,Tryz.ntmps74;go_wp2_with fail;go_loopw [5] (λu wr=>∃k:Nat,k<=n/\u= .int .i64 (k:Int)/\(∀(j:Nat) (z:Im.Pt),j<k->Q[j]? =some z->z.b≠c)/\wr=w) (λu _=>n-(intOf u).toNat)
 case atStart=>exact⟨0,Nat.zero_le _,rfl,λj z h=>by omega,rfl⟩
 obtain⟨k,hk,rfl,hno,rfl⟩:=hrel;have cY:=ah hno;clear hno
 by_cases hlt:k<n
 ·have hlt':(k:Int)<(n:Int):=by omega
  obtain⟨y,hy⟩:∃y,Q[k]? =some y:=⟨_,List.getElem?_eq_getElem (by rw[<-HN.Z];exact hlt)⟩;obtain⟨g,o',GB,lQ⟩:∃b' off',a=some ⟨b',off',none⟩/\aM wr b' off' 4 Q.length (zG Q):=by
   rcases HR.Z with h|h
   ·have:=HN.Z;omega
   exact h
  subst GB;have hk':k<Q.length:=by have:=HN.Z;omega
  have e:=rA hy;have c0:wr.cell? ⟨g,o'+k*4,none⟩=some (.int .i64 (y.i:Int)):=lQ k hk' 0 _ (by rw[e];rfl);have c1:wr.cell? ⟨g,o'+k*4+1,none⟩=some (.int .i64 (y.b:Int)):=lQ k hk' 1 _ (by rw[e];rfl);have HY:=ah hy;clear lQ e hk' hy
  by_cases QM:y.b=c
  ·have q0:((y.b:Int)==(c:Int))=true:=by simp[QM]
   have HE:Hd (Im.bN Q c=y.i):=by show _=_;rw[BF HY.Z cY.Z,if_pos QM]
   clear QM;go_wp2_with fail;go_ret;exact⟨by rw[HE.Z];rfl,Below.refl _ _⟩
  have q0:((y.b:Int)==(c:Int))=false:=by simp;omega
  have kJ:Hd (∀(j:Nat) (z:Im.Pt),j<k+1->Q[j]? =some z->z.b≠c):=λj z hj hz=>by
   rcases Nat.lt_succ_iff_lt_or_eq.1 hj with h|h
   ·exact cY.Z j z h hz
   subst h;have:=HY.Z;rw[hz] at this;injection this with this;rw[this];exact QM
  clear QM;go_wp2_with fail;go_roundw
  case rel=>first|exact⟨k+1,by omega,by go_num,kJ.Z,rfl⟩|exact⟨k+1,by omega,by go_num,kJ.Z,trivial⟩|exact⟨k+1,by omega,by go_num,kJ.Z⟩
  simp[intOf];omega
 obtain rfl:k=n:=by omega
 have HE:Hd (Im.bN Q c=0):=ub λj z hz=>cY.Z j z (by have:=(List.getElem?_eq_some_iff.1 hz).1;have:=HN.Z;omega) hz
 go_wp2_with fail;go_ret;exact⟨by rw[HE.Z];rfl,Below.refl _ _⟩
namespace Vp
section
variable {P:Program}
theorem Ll{W:World}{u:Value}(t:TypeId)(n:Nat)(x:Operand)(ho:o.op= .buildSlice t n #[(0,x)])(hx:a.eval x=u)(hr:(Instr.buildSlice t n #[(0,u)]).run P W= .ok v W'):(execOp a.eval o).run P W= .ok (.value v) W':=by
 simp[execOp,ho,hx,hr]
theorem Lm{W:World}{u:Value}(t:TypeId)(s x:Operand)(ho:o.op= .call {callee:=.builtin .append,args:=#[s,x],argTypes:=#[t,t]})(hs:a.eval s=u)(hx:a.eval x=v)(hr:(Builtin.append_ #[t,t] o.type #[u,v]).run P W= .ok v' W'):(execOp a.eval o).run P W= .ok (.value v') W':=by
 unfold execOp;simp only[ho,resolve,invoke,builtin,Sem.run_bind,Sem.run_pure,Result.andThen_ok,List.map_toArray,List.map_cons,List.map_nil,hs,hx,hr]
def Ay(b X K f T Ts tk:Nat)(pos:String):List Oper:=
 [{dst:=some b,op:=.move (.tmp 0),type:=tk,pos:=pos,after:=#[],guard:=none},
  {dst:=some (b+1),op:=.move (.tmp 0),type:=tk,pos:=pos,after:=#[],guard:=none},
  {dst:=some (b+2),op:=.nilCheck (.tmp (b+1)),type:=0,pos:=pos,after:=#[{on:=1,ground:=.data}],guard:=none},
  {dst:=some (b+3),op:=.fieldAddr K (.tmp (b+2)) f,type:=0,pos:=pos,after:=#[{on:=2,ground:=.data}],guard:=none},
  {dst:=some (b+4),op:=.load Ts (.tmp (b+3)),type:=Ts,pos:=pos,after:=#[{on:=3,ground:=.data}],guard:=none},
  {dst:=some (b+5),op:=.load T (.tmp X),type:=T,pos:=pos,after:=#[],guard:=none},
  {dst:=some (b+6),op:=.buildSlice Ts 1 #[(0,.tmp (b+5))],type:=Ts,pos:=pos,after:=#[{on:=5,ground:=.data}],guard:=none},
  {dst:=some (b+7),op:=.call {callee:=.builtin .append,args:=#[.tmp (b+4),.tmp (b+6)],argTypes:=#[Ts,Ts]},type:=Ts,pos:=pos,after:=#[{on:=4,ground:=.data},{on:=6,ground:=.data}],guard:=none},
  {dst:=some (b+8),op:=.nilCheck (.tmp b),type:=0,pos:=pos,after:=#[{on:=0,ground:=.data},{on:=0,ground:=.phase},{on:=1,ground:=.phase},{on:=2,ground:=.phase},{on:=3,ground:=.phase},{on:=4,ground:=.phase},{on:=5,ground:=.phase},{on:=6,ground:=.phase},{on:=7,ground:=.phase}],guard:=none},
  {dst:=some (b+9),op:=.fieldAddr K (.tmp (b+8)) f,type:=0,pos:=pos,after:=#[{on:=8,ground:=.data},{on:=0,ground:=.phase},{on:=1,ground:=.phase},{on:=2,ground:=.phase},{on:=3,ground:=.phase},{on:=4,ground:=.phase},{on:=5,ground:=.phase},{on:=6,ground:=.phase},{on:=7,ground:=.phase}],guard:=none},
  {dst:=none,op:=.store Ts (.tmp (b+9)) (.tmp (b+7)),type:=0,pos:=pos,after:=#[{on:=9,ground:=.data},{on:=7,ground:=.data},{on:=7,ground:=.chain},{on:=0,ground:=.phase},{on:=1,ground:=.phase},{on:=2,ground:=.phase},{on:=3,ground:=.phase},{on:=4,ground:=.phase},{on:=5,ground:=.phase},{on:=6,ground:=.phase},{on:=7,ground:=.phase}],guard:=none}]
def F4(p off T:Nat)(old:Value)(cells:Array Value)(G:Value->World->Prop)(l:Nat->Bool)(i:Nat)(v:Value)(W:World):Prop:=
 if i<=2\/i=8 then v= .pointer (some ⟨p,0,none⟩) else if i=3\/i=9 then v= .pointer (some ⟨p,off,none⟩) else if i=4 then v=old else if i=5 then v= .agg cells
 else if i=6 then∃g0,v= .slice (some ⟨g0,0,none⟩) 1 1/\(l 7=false->At W g0 T cells) else if i=7 then l 10=false->G v W else True
structure PO(B F:World->Prop)(l:Nat->Bool)(W:World):Prop where
 b:l 7=false->B W
 f:l 10=true->F W
 o6:l 6=true->l 5=true
 o7:l 7=true->l 4=true/\l 6=true
 Tq:l 10=true->l 7=true
theorem F4.up{T:Nat}{old:Value}{cells:Array Value}{l':Nat->Bool}{W:World}(h:F4 p off T old cells G l i v W)
  (h6:∀g0,i=6->l' 7=false->l 7=false/\(At W g0 T cells->At W' g0 T cells)) (h7:∀v,i=7->l' 10=false->l 10=false/\(G v W->G v W')):F4 p off T old cells G l' i v W':=by
 unfold F4 at h ⊢;split<;>rename_i c1
 ·rwa[if_pos c1] at h
 rw[if_neg c1] at h;split<;>rename_i c2
 ·rwa[if_pos c2] at h
 rw[if_neg c2] at h;split<;>rename_i c3
 ·rwa[if_pos c3] at h
 rw[if_neg c3] at h;split<;>rename_i c4
 ·rwa[if_pos c4] at h
 rw[if_neg c4] at h;split<;>rename_i c5
 ·rw[if_pos c5] at h
  obtain⟨g0,h1,h2⟩:=h;exact⟨g0,h1,λe=>(h6 g0 c5 e).2 (h2 (h6 g0 c5 e).1)⟩
 rw[if_neg c5] at h;split<;>rename_i c6
 ·rw[if_pos c6] at h
  exactλe=>(h7 v c6 e).2 (h (h7 v c6 e).1)
 trivial
theorem PO.next{B F:World->Prop}{W:World}(h:PO B F l W)(h7:(7==k)=false)(h10:(10==k)=false)(h6:k=6->l 5=true)(hb:B W->B W')(hf:F W->F W'):PO B F (λj=>j==k||l j) W':=by
 refine⟨λe=>hb (h.b (by simpa[h7] using e)),λe=>hf (h.f (by simpa[h10] using e)),λe=> ?_,λe=> ?_,λe=> ?_⟩
 ·by_cases c:k=6
  ·simp[h6 c]
  have:l 6=true:=by
   have e:(6==k||l 6)=true:=e;rw[show(6==k)=false by simp;omega] at e;exact e
  simp[h.o6 this]
 ·have:=h.o7 (by simpa[h7] using e)
  exact⟨by simp[this.1],by simp[this.2]⟩
 have:=h.Tq (by simpa[h10] using e);simp[this]
theorem F4.next{T:Nat}{old:Value}{cells:Array Value}{W:World}(h7:(7==k)=false)(h10:(10==k)=false)(h:F4 p off T old cells G l i v W):F4 p off T old cells G (λj=>j==k||l j) i v W:=
 h.up (λg0 _ e=>⟨by simpa[h7] using e,λh=>h⟩) (λv _ e=>⟨by simpa[h10] using e,λh=>h⟩)
theorem Br{id:Nat}{Q:Exit->Act->World->Prop}(b X K f T Ts tk:Nat)(pos:String)(p off Xb:Nat)(old:Value)(cells:Array Value)(B:World->Prop)(G:Value->World->Prop)(F:World->Prop)
  (hm:P.follows .mixedOrders=true) (hd:ft .any (Ay b X K f T Ts tk pos).toArray=true) (hB:Vl.kG (Ay b X K f T Ts tk pos) a.tmps.size=true) (N5:(List.range 11).all (λi=>Vl.dst (Ay b X K f T Ts tk pos) i !=some 0)=true) (hXX:(List.range 11).all (λi=>Vl.dst (Ay b X K f T Ts tk pos) i !=some X)=true)
  (h0:a.tmps.getD 0 undef= .pointer (some ⟨p,0,none⟩)) (hX:a.tmps.getD X undef= .pointer (some ⟨Xb,0,none⟩))
  (tq:∀W,(Instr.fieldAt K (.pointer (some ⟨p,0,none⟩)) f).run P W= .ok (.pointer (some ⟨p,off,none⟩)) W)
  (hTs:(P.info? Ts).map (·.size)=some 1) (hag:∀W,(isAgg Ts).run P W= .ok false W) (dT:TypeDesc) (hT:P.underlying T=some dT) (hTr:dT.isRow=true) (hTi:(P.info? T).map (·.size)=some cells.toList.length)
  (hbs:∀W,(Instr.buildSlice Ts 1 #[(0,.agg cells)]).run P W= .ok (.slice (some ⟨W.heap.size,0,none⟩) 1 1) (W.alloc (.cells cells T)))
  (hBb:∀W W',B W->Below W.heap.size W W'->B W') (ZW:∀v W W',G v W->Below W.heap.size W W'->G v W') (ZZ:∀W W',F W->Below W.heap.size W W'->F W') (hB0:B {w with drawn:=w.drawn+1})
  (hold:∀W,B W->W.cell? ⟨p,off,none⟩=some old) (hone:old.oneCell'=true) (hrow:∀W,B W->W.rangeAt Xb 0 cells.toList)
  (WO:∀W g0,B W->At W g0 T cells->∃v' W',(Builtin.append_ #[Ts,Ts] Ts #[old,.slice (some ⟨g0,0,none⟩) 1 1]).run P W= .ok v' W'/\G v' W')
  (hst:∀v W,G v W->(∃u,W.cell? ⟨p,off,none⟩=some u)/\W.frozen? ⟨p,off,none⟩=false/\v.oneCell'=true/\F (W.setCell ⟨p,off,none⟩ v))
  (hend:∀u0 u1 u2 u3 u4 u5 u6 u7 u8 u9 w',F w'->Q .normal ((((((((((a.put (some b) u0).put (some (b+1)) u1).put (some (b+2)) u2).put (some (b+3)) u3).put (some (b+4)) u4).put (some (b+5)) u5).put (some (b+6)) u6).put (some (b+7)) u7).put (some (b+8)) u8).put (some (b+9)) u9) w'):
  (Code.region id (Ay b X K f T Ts tk pos).toArray true).wp P Q a w:=by
 have hn:(Ay b X K f T Ts tk pos).length=11:=rfl;apply bG 0 (λl i v W=>F4 p off T old cells G l i v W) (λl W=>PO B F l W) (λ_=>True) a hm hd rfl hB
 ·intro l l' he i v W h
  rw[hn] at he;exact h.up (λg0 _ e=>⟨(he 7 (by decide) (by decide)).trans e,λh=>h⟩) (λv _ e=>⟨(he 10 (by decide) (by decide)).trans e,λh=>h⟩)
 ·intro l l' W he h
  rw[hn] at he;have e4:=he 4 (by decide) (by decide);have e5:=he 5 (by decide) (by decide);have e6:=he 6 (by decide) (by decide);have e7:=he 7 (by decide) (by decide);have e10:=he 10 (by decide) (by decide);exact⟨λe=>h.b (e7.trans e),λe=>h.f (e10.trans e),λe=>e5▸h.o6 (e6.trans e),λe=>by rw[<-e4,<-e6];exact h.o7 (e7.trans e),λe=>by rw[<-e7];exact h.Tq (e10.trans e)⟩
 ·exactλl W h=>trivial
 ·exactλl i v W W' h hb=>h.up (λg0 _ e=>⟨e,λh=>h.below hb h.lt⟩) (λv _ e=>⟨e,λh=>ZW v W W' h hb⟩)
 ·exactλl W W' h hb _=>⟨λe=>hBb W W' (h.b e) hb,λe=>ZZ W W' (h.f e) hb,h.o6,h.o7,h.Tq⟩
 ·exact⟨λ_=>hB0,(λe=>by cases e),(λe=>by cases e),(λe=>by cases e),λe=>by cases e⟩
 ·exactλR hR hne=>wpQuiet_nil rfl
 ·have q:∀(k:Nat) (l:Nat->Bool) (a1:Act) (W:World) {v:Value} {o:Oper},(7==k)=false->(10==k)=false->k≠6->(Ay b X K f T Ts tk pos)[k]? =some o->o.guard=none->l k=false->Vm.I (Ay b X K f T Ts tk pos) (Vp.W (Ay b X K f T Ts tk pos) 0 a λl i v W=>F4 p off T old cells G l i v W) (λl W=>PO B F l W) a l a1 W->(execOp a1.eval o).run P W= .ok (.value v) W->F4 p off T old cells G (λj=>j==k||l j) k v W->wpOp P (Ay b X K f T Ts tk pos).toArray Q k (Vm.I (Ay b X K f T Ts tk pos) (Vp.W (Ay b X K f T Ts tk pos) 0 a λl i v W=>F4 p off T old cells G l i v W) (λl W=>PO B F l W) a λj=>j==k||l j) a1 W:=λk l a1 W {v o} h7 h10 h6 hL hg hl h hr hv=>
   Vm.aJ h hB (by simpa using hL) hL hg hl v hr (λ_ _ hv=>hv.up λ_ hv=>hv.next h7 h10) (Vp.W.mk hv (Nat.not_lt_zero _)) (λs=>s.next h7 h10 (λe=>absurd e h6) (λh=>h) (λh=>h))
  refine⟨?_,?_,?_,?_,?_,?_,?_,?_,?_,?_,?_,trivial⟩
  ·exactλl a1 W hl hu h=>q 0 l a1 W rfl rfl (by decide) rfl rfl hl h (Vl.br (.tmp 0) rfl ((h.old 0 N5).trans h0)) rfl
  ·exactλl a1 W hl hu h=>q 1 l a1 W rfl rfl (by decide) rfl rfl hl h (Vl.br (.tmp 0) rfl ((h.old 0 N5).trans h0)) rfl
  ·exactλl a1 W hl hu h=>q 2 l a1 W rfl rfl (by decide) rfl rfl hl h (Vl.mC (.tmp (b+1)) rfl ⟨p,0,none⟩ ((h.vals 1 (b+1) (aq hu 1) rfl).post)) rfl
  ·exactλl a1 W hl hu h=>q 3 l a1 W rfl rfl (by decide) rfl rfl hl h (Vl.gB K (.tmp (b+2)) f rfl ((h.vals 2 (b+2) (aq hu 2) rfl).post) (tq W)) rfl
  ·intro l a1 W hl hu h
   have hB':B W:=h.st.b (by cases e:l 7 with|false=>rfl|true=>have:=(h.st.o7 e).1;rw[hl] at this;cases this);exact q 4 l a1 W rfl rfl (by decide) rfl rfl hl h (Vl.tY Ts (.tmp (b+3)) rfl p off ((h.vals 3 (b+3) (aq hu 3) rfl).post) (hold W hB') (hag W)) rfl
  ·intro l a1 W hl hu h
   have hB':B W:=h.st.b (by cases e:l 7 with|false=>rfl|true=>have:=h.st.o6 (h.st.o7 e).2;rw[hl] at this;cases this);exact q 5 l a1 W rfl rfl (by decide) rfl rfl hl h (Vl.jc T (.tmp X) rfl Xb 0 cells.toList dT ((h.old X hXX).trans hX) (hrow W hB') hT hTr hTi) rfl
  ·intro l a1 W hl hu h
   have u5:=aq hu 5 (by kernel_rfl);have e5:a1.tmps.getD (b+5) undef= .agg cells:=(h.vals 5 (b+5) u5 rfl).post;have hb:Below W.heap.size W (W.alloc (.cells cells T)):=ag.alloc af _;exact Vm.step h hB rfl rfl rfl hl (eZ (Ll Ts 1 (.tmp (b+5)) rfl e5 (hbs W)) ⟨_,rfl,λn d _ _ hv=>hv.up λ_ hv=>hv.up (λg0 _ e=>⟨e,λh=>h.below hb h.lt⟩) (λv _ e=>⟨e,λh=>ZW v _ _ h hb⟩),Vp.W.mk ⟨W.heap.size,rfl,λ_=>At.new W T cells⟩,h.st.next rfl rfl (λ_=>u5) (λh=>hBb _ _ h hb) (λh=>ZZ _ _ h hb)⟩)
  ·intro l a1 W hl hu h
   have u4:=aq hu 4 (by kernel_rfl);have u6:=aq hu 6 (by kernel_rfl);have e4:a1.tmps.getD (b+4) undef=old:=(h.vals 4 (b+4) u4 rfl).post;obtain⟨g0,e6,hA⟩:∃g0,a1.tmps.getD (b+6) undef= .slice (some ⟨g0,0,none⟩) 1 1/\(l 7=false->At W g0 T cells):=(h.vals 6 (b+6) u6 rfl).post;obtain⟨v',W',hr,hG⟩:=WO W g0 (h.st.b hl) (hA hl);exact Vm.step h hB rfl rfl rfl hl (eZ (Lm Ts (.tmp (b+4)) (.tmp (b+6)) rfl e4 e6 hr) ⟨_,rfl,λn d hi _ hv=>hv.up λ_ hv=>hv.up (λg0 _ e=>by cases e) (λv e7 _=>by subst e7;rw[hl] at hi;cases hi),Vp.W.mk (λ_=>hG),
    ⟨(λe=>by cases e),λe=>(by have:=h.st.Tq e;rw[hl] at this;cases this),λe=>h.st.o6 e,λ_=>⟨u4,u6⟩,λ_=>rfl⟩⟩)
  ·exactλl a1 W hl hu h=>q 8 l a1 W rfl rfl (by decide) rfl rfl hl h (Vl.mC (.tmp b) rfl ⟨p,0,none⟩ ((h.vals 0 b (aq hu 0) rfl).post)) rfl
  ·exactλl a1 W hl hu h=>q 9 l a1 W rfl rfl (by decide) rfl rfl hl h (Vl.gB K (.tmp (b+8)) f rfl ((h.vals 8 (b+8) (aq hu 8) rfl).post) (tq W)) rfl
  intro l a1 W hl hu h;have u7:=aq hu 7 (by kernel_rfl);have e9:a1.tmps.getD (b+9) undef= .pointer (some ⟨p,off,none⟩):=(h.vals 9 (b+9) (aq hu 9) rfl).post;have hG:l 10=false->G (a1.tmps.getD (b+7) undef) W:=(h.vals 7 (b+7) u7 rfl).post;obtain⟨⟨u,hc⟩,hf,h1,hF⟩:=hst _ W (hG hl);refine Vm.step h hB rfl rfl rfl hl (Vl.rG Ts (.tmp (b+9)) (.tmp (b+7)) rfl p off _ u e9 rfl hc hf hTs h1 ?_);refine⟨_,rfl,λn d hi _ hv=>hv.up λ_ hv=>hv.up (λg0 _ e=> ?_) (λv _ e=>by cases e),Vp.W.mk trivial,⟨λe=> ?_,λ_=>hF,h.st.o6,h.st.o7,λ_=>u7⟩⟩
  ·have e:l 7=false:=e;rw[u7] at e;cases e
  have e:l 7=false:=e;rw[u7] at e;cases e
 intro a' w' h hall;have e:=hall [b,b+1,b+2,b+3,b+4,b+5,b+6,b+7,b+8,b+9] (by rw[hn];simp[List.range_succ,Vl.dst,Ay]);rw[e];exact hend _ _ _ _ _ _ _ _ _ _ w' (h.st.f rfl)
end
end Vp
theorem tU(y:aS)(W:World):(Instr.buildSlice 86 1 #[(0,.agg y.arr)]).run Tryz.prog W= .ok (.slice (some ⟨W.heap.size,0,none⟩) 1 1) (W.alloc (.cells y.arr 63)):=by kernel_rfl
theorem AF:∃i,Tryz.prog.info? 63=some i/\i.zero=some aS.nil.val/\i.size=16/\i.bytes=80:=by
 have h:=mM;cases hq:Tryz.prog.info? 63 with
 |none=>rw[hq] at h;cases h
 |some i=>
  rw[hq] at h;injection h with h
  injection h with h1 h2
  injection h2 with h2 h3
  exact⟨i,rfl,h1,h2,h3⟩
theorem Ve(hx:x.Ok){t:Nat}(h1:1<=t)(h2:t<=x.ni):x.ib t<x.n:=by
 obtain⟨k1,k2,k3,k4,k5,k6,k7,k8,k9,k10,k11⟩:=dX hx.may;have hγ:(t-1)/x.i<x.g:=(Nat.div_lt_iff_lt_mul (by omega)).2 (by have:t<=x.g*x.i:=h2;omega);have hr:(t-1)%x.i<x.i:=Nat.mod_lt _ (by omega);have:=hx.st hγ (d:=2+(t-1)%x.i/4) (by omega);unfold Im.ib;rwa[Nat.add_assoc]
theorem dV.AW{S:Nat->Prop}{W:World}{row:Option Nat}(h:dV S w W)(hg:W.grownBy W' row)(hl:∀q,row=some q->w.heap.size<=q):dV S w W':=
 ⟨hg.os.trans h.os,hg.tape.trans h.tape,hg.output.trans h.output,Nat.le_trans h.size hg.size,λj hj hn=>(hg.block j (Nat.lt_of_lt_of_le hj h.size) (λe=>by have:=hl j e.symm;omega)).trans (h.block j hj hn)⟩
abbrev JP(p j:Nat):Prop:=j=p
theorem qz.Ff{b:Nat}{ino:Value}{W:World}(h:qz p b off cap x ds ino ay pt W)(mZ:b≠p)(v:Value):qz p b off cap x ds v ay pt (W.setCell ⟨p,11,none⟩ v):=
 ⟨h.a.xO 11 v,aM.only h.i (az.setCell W ⟨p,11,none⟩ v) mZ,by rw[(az.setCell W ⟨p,11,none⟩ v).size];exact h.bl⟩
structure Iz(w:World)(p b off cap:Nat)(x:Im)(ds ay pt v:Value)(n:Nat)(W:World):Prop where
 k:qz p b off cap x ds v ay pt W
 r:au W w.heap.size 63 16 v n (jL x)
 g:dV (JP p) w W
structure Mh(w:World)(p b off cap:Nat)(x:Im)(ds ay pt v:Value)(n q k:Nat)(W:World):Prop where
 s:Iz w p b off cap x ds ay pt v n W
 q:aE W q 4 1 2048 (kH (bt (x.L (x.st k+1))))
section
variable {w:World} {p b off cap:Nat} {x:Im} {ds ay pt v:Value} {n q k:Nat} {W W':World}
theorem Iz.below(h:Iz w p b off cap x ds ay pt v n W)(hb:Below W.heap.size W W'):Iz w p b off cap x ds ay pt v n W':=⟨h.k.below hb,h.r.below hb,h.g.trans (dV.b9 hb)⟩
theorem Mh.below(h:Mh w p b off cap x ds ay pt v n q k W)(hb:Below W.heap.size W W'):Mh w p b off cap x ds ay pt v n q k W':=⟨h.s.below hb,h.q.below hb⟩
end
structure K0(w:World)(p b off cap:Nat)(x:Im)(ds ay pt v:Value)(n q k X:Nat)(y:aS)(W:World):Prop where
 s:Mh w p b off cap x ds ay pt v n q k W
 y:bs W X 63 y
theorem K0.below{b:Nat}{n X:Nat}{y:aS}{W:World}(h:K0 w p b off cap x ds ay pt v n q k X y W)(hb:Below W.heap.size W W'):K0 w p b off cap x ds ay pt v n q k X y W':=⟨h.s.below hb,h.y.below hb h.y.lt⟩
structure T8(w:World)(p b off cap:Nat)(x:Im)(ds ay pt v:Value)(n q k:Nat)(v':Value)(W:World):Prop where
 s:qz p b off cap x ds v ay pt W
 r:au W w.heap.size 63 16 v' n (jL x)
 g:dV (JP p) w W
 q:aE W q 4 1 2048 (kH (bt (x.L (x.st k+1))))
theorem T8.below{b:Nat}{n:Nat}{W:World}(h:T8 w p b off cap x ds ay pt v n q k v' W)(hb:Below W.heap.size W W'):T8 w p b off cap x ds ay pt v n q k v' W':=⟨h.s.below hb,h.r.below hb,h.g.trans (dV.b9 hb),h.q.below hb⟩
def K4F(w:World)(p b off cap:Nat)(x:Im)(ds ay pt:Value)(n q k:Nat)(W:World):Prop:=∃v,Mh w p b off cap x ds ay pt v n q k W
theorem G9{W:World}{m n base size j:Nat}{e:TypeId}{f:Nat->List Value}{xs:List Value}(h:aE W q T m n f)(ho:W.ownsRow base e size v j xs)(he:e≠T):some q≠v.ownBlock:=by
 obtain⟨c,hc,_⟩:=h.blk
 exactλe2=>dJ hc ho he e2.symm
def K4P(w:World)(p b off cap:Nat)(x:Im)(ds ay pt:Value)(e:Ending)(w':World):Prop:=
 e= .returned (.bool (aK (λt=>x.ki (t+1)) x.ni))/\dV (JP p) w w'/\(aK (λt=>x.ki (t+1)) x.ni=true->∃v,Iz w p b off cap x ds ay pt v (x.ni+1) w')
theorem x3(hx:x.Ok)(p b off cap:Nat)(ds ino ay pt:Value)(w:World)(h:qz p b off cap x ds ino ay pt w)(mZ:b≠p):
  Calls Tryz.prog 116 #[.pointer (some ⟨p,0,none⟩)] w λe w'=>K4P w p b off cap x ds ay pt e w':=by
 have hM:=dX hx.may;have HX:=ah hx;have zH:x.i<=64:=by omega
 have hg4:x.g<=4:=by omega
 have hpw:p<w.heap.size:=h.a.lt;have r6:b<w.heap.size:=h.bl;have hbs:=tU .nil;have hbl:=gI;have cl:=h.a.cell (i:=11) rfl;have fl:=an h.a 11;have dt:Hd (Iz w p b off cap x ds ay pt (.slice (some ⟨w.heap.size,0,none⟩) 1 1) 1 ((w.setCell ⟨p,11,none⟩ (.slice (some ⟨w.heap.size,0,none⟩) 1 1)).alloc (.cells aS.nil.arr 63))):=by
  obtain⟨W1,hW1⟩:=aa (w.setCell ⟨p,11,none⟩ (.slice (some ⟨w.heap.size,0,none⟩) 1 1));have ho:az p w W1:=by rw[hW1];exact az.setCell _ ⟨p,11,none⟩ _
  have hk:qz p b off cap x ds (.slice (some ⟨w.heap.size,0,none⟩) 1 1) ay pt W1:=by rw[hW1];exact h.Ff mZ _
  rw[<-hW1];clear hW1;have hb1:Below W1.heap.size W1 (W1.alloc (.cells aS.nil.arr 63)):=ag.alloc af _;have hr:au (W1.alloc (.cells aS.nil.arr 63)) W1.heap.size 63 16 (.slice (some ⟨W1.heap.size,0,none⟩) 1 1) 1 (jL x):=by
   refine⟨rfl,.inr ⟨_,1,aS.nil.arr,rfl,Nat.le_refl _,heap_alloc_new W1 _,Nat.le_refl _,by unfold maxLen;omega,rfl,?_⟩⟩;rw[od];show _=[]++jL x 0;unfold jL;rw[x.yv];rfl
  rw[ho.size] at hr;exact⟨hk.below hb1,hr,dV.trans (S:=JP p) (dV.cE ho rfl) (dV.b9 hb1)⟩
 have SQ:Hd (∀k r,k<x.g->r<x.i->∀W,Calls Tryz.prog 108 #[bV x.g x.s x.i x.j,.int .i64 (k:Int),.int .i64 (r:Int)] W λe w'=>e= .returned (.int .i64 ((1+k*x.i+r:Nat):Int))/\Below W.heap.size W w'):=λk r hk hr W=>jZ x.g x.s x.i x.j k r hx.may hk hr hg4 zH W
 have xe:Hd (∀k r,k<x.g->r<x.i->∀W,Calls Tryz.prog 67 #[bV x.g x.s x.i x.j,.int .i64 ((1+k*x.i+r:Nat):Int)] W λe w'=>e= .returned (.tuple #[.int .i64 ((x.ib (1+k*x.i+r):Nat):Int),.int .i64 ((x.ia (1+k*x.i+r):Nat):Int),.bool true])/\Below W.heap.size W w'):=λk r hk hr W=>by
  refine(pf x.g x.s x.i x.j k r hx.may hk hr W).mono λe w' h=>⟨?_,h.2⟩
  have e1:(k*x.i+r)/x.i=k:=by rw[Nat.mul_comm,Nat.mul_add_div (by omega),Nat.div_eq_of_lt hr];rfl
  have e2:(k*x.i+r)%x.i=r:=by rw[Nat.mul_comm,Nat.mul_add_mod,Nat.mod_eq_of_lt hr]
  rw[h.1];unfold Im.ib Im.ia Im.st;rw[show 1+k*x.i+r-1=k*x.i+r by omega,e1,e2,show 64*(r%4)=r%4*64 by omega,show 2+x.j+k*x.s+(2+r/4)=2+x.j+k*x.s+2+r/4 by omega]
 have iT:Hd (∀k r,k<x.g->r<x.i->x.ib (1+k*x.i+r)<x.n/\x.ia (1+k*x.i+r)<=192/\x.ino (1+k*x.i+r)=dZ (x.L (x.ib (1+k*x.i+r))) ((x.ia (1+k*x.i+r):Nat):Int)/\k*x.i+r<x.ni/\x.ki (k*x.i+r+1)=(ea (x.L (x.ib (1+k*x.i+r))) ((x.ia (1+k*x.i+r):Nat):Int)==0&&(bt (x.L (x.st k+1)) r==((x.ino (1+k*x.i+r)).kind !=0)))):=λk r hk hr=>by
  have e1:(k*x.i+r)/x.i=k:=by rw[Nat.mul_comm,Nat.mul_add_div (by omega),Nat.div_eq_of_lt hr];rfl
  have e2:(k*x.i+r)%x.i=r:=by rw[Nat.mul_comm,Nat.mul_add_mod,Nat.mod_eq_of_lt hr]
  have hlt:k*x.i+r<x.ni:=by
   have:(k+1)*x.i<=x.g*x.i:=Nat.mul_le_mul_right _ hk;rw[Nat.succ_mul] at this;unfold Im.ni;omega
  have hib:=Ve hx (t:=1+k*x.i+r) (by omega) (by omega);refine⟨hib,x.LH _,?_,hlt,?_⟩
  ·unfold Im.ino;rw[if_pos ⟨by omega,by omega⟩]
  rw[show k*x.i+r+1=1+k*x.i+r by omega];unfold Im.ki Im.used;rw[show 1+k*x.i+r-1=k*x.i+r by omega,e1,e2]
 have HGI:Hd (x.ni=x.g*x.i/\x.ni<=256):=⟨rfl,eX hx.may⟩;clear h hx hM;go_enter Tryz.func116,Tryz.ntmps116;go_wp2_with (first|(refine er rfl 86 1 0 (.tmp 12) rfl aS.nil.val rfl _ _ (hbs _) ?_))
 clear cl fl hbs hbl;go_loopw [3,4,5,6,7,8,9,10] (λu _ _ _ _ _ _ _ wr=>∃(k:Nat) (v:Value),k<=x.g/\u= .int .i64 (k:Int)/\(∀t,t<k*x.i->x.ki (t+1)=true)/\Iz w p b off cap x ds ay pt v (k*x.i+1) wr) (λu _ _ _ _ _ _ _ _=>x.g-(intOf u).toNat)
 case atStart=>exact⟨0,_,Nat.zero_le _,rfl,λt h=>by omega,by rw[Nat.zero_mul];exact dt.Z⟩
 clear dt;obtain⟨k,v,hk,rfl,hP,st⟩:=hrel;have HP:=ah hP;have ST:=ah st;have c6:wr.cell? ⟨p,6,none⟩=some (.int .i64 (x.g:Int)):=st.k.a.cell (i:=6) rfl;clear hP st
 by_cases hlt:k<x.g
 ·have hlt':(k:Int)<(x.g:Int):=by omega
  go_wp2_with fail;refine(gq HX.Z p b off cap ds v ay pt k 1 hlt (by decide) wr ST.Z.k).mono ?_;rintro e w1 ⟨q,rfl,hq,hR,hb1⟩;have bh:Hd (Mh w p b off cap x ds ay pt v (k*x.i+0+1) q k w1):=⟨ST.Z.below hb1,hR⟩;have HP0:Hd (∀t,t<k*x.i+0->x.ki (t+1)=true):=HP.Z;have AN:w.heap.size<=q:=Nat.le_trans ST.Z.g.size hq;clear ST c6 hb1 hR hq HP;go_wp2_with fail;go_loopw [5,6,7,8,9,10] (λu _ _ _ _ _ wr=>∃(r:Nat) (v:Value),r<=x.i/\u= .int .i64 (r:Int)/\(∀t,t<k*x.i+r->x.ki (t+1)=true)/\Mh w p b off cap x ds ay pt v (k*x.i+r+1) q k wr) (λu _ _ _ _ _ _=>x.i-(intOf u).toNat)
  case atStart=>exact⟨0,_,Nat.zero_le _,rfl,HP0.Z,bh.Z⟩
  clear bh HP0 v;obtain⟨r,v,hr,rfl,hP,st⟩:=hrel;have HP:=ah hP;have ST:=ah st;have c8:wr.cell? ⟨p,8,none⟩=some (.int .i64 (x.i:Int)):=st.s.k.a.cell (i:=8) rfl;clear hP st
  by_cases Pf:r<x.i
  ·have ac0:(r:Int)<(x.i:Int):=by omega
   have r0:(0:Int)<=(r:Int):=by omega
   have r9:(r:Int)<2048:=by omega
   obtain⟨hib,Rl,yH,htn,mO⟩:=iT.Z k r hlt Pf;have OQ:=ah (SQ.Z k r hlt Pf);have OU:=ah (xe.Z k r hlt Pf);have HT:Hd (k*x.i+r+1=1+k*x.i+r):=by show _=_;omega
   obtain⟨t,ht⟩:=aa (1+k*x.i+r);rw[<-ht] at hib Rl yH mO OQ OU HT;have X5:=ah ht;have Ms:=ah mO;have HIE:=ah yH;have acO:t<=256:=by have:=HGI.Z.2;omega
   have SC:=ah htn;clear ht mO yH htn;go_wp2_with fail;refine ar (Mh w p b off cap x ds ay pt v (k*x.i+r+1) q k) (ST.Z.below ⟨rfl,rfl,rfl,Nat.le_refl _,λ_ _=>rfl⟩) ?_;clear ST c8;intro hne;iterate 3 go_big_quiet_step (fail)
   refine aO rfl 23 (.tmp 40) rfl p 6 rfl (ai x.g x.s x.i x.j).toList _ (λW h=>h.s.k.lT) Tryz.underlying23 rfl (by kernel_rfl) ?_;refine aj ?_;iterate 3 go_big_quiet_step (fail)
   refine aO rfl 23 (.tmp 44) rfl p 6 rfl (ai x.g x.s x.i x.j).toList _ (λW h=>h.s.k.lT) Tryz.underlying23 rfl (by kernel_rfl) ?_;refine aj ?_;iterate 2 go_big_quiet_step (fail)
   go_big_quiet_want
   go_big_quiet_op
   refine⟨_,λs=>aN s (λW hW=>(OQ.Z W).mono λe w' h=>⟨h.1,hW.below h.2⟩),?_⟩
   go_big_quiet_on
   go_big_quiet_want
   go_big_quiet_op
   refine⟨_,λs=>aN s (λW hW=>(OU.Z W).mono λe w' h=>⟨h.1,hW.below h.2⟩),?_⟩
   go_big_quiet_on
   repeat go_big_quiet_step (fail)
   refine wpQuiet_nil ?_;intro w2 h2;have bW:=ah h2.Z;have cL:w2.cell? ⟨p,0,none⟩=some (.slice (some ⟨b,off,none⟩) x.n cap):=h2.Z.s.k.a.cell (i:=0) rfl;have DH:=h2.Z.s.k.blk hib;have Eh:Hd (∀W,Calls Tryz.prog 149 #[aR (x.L (x.ib t)),.int .i64 ((x.ia t:Nat):Int)] W λe w'=>e= .returned (.tuple #[(x.ino t).val,.int .i64 (ea (x.L (x.ib t)) ((x.ia t:Nat):Int))])/\Below W.heap.size W w'):=λW=>by
    have h:=Fz (x.L (x.ib t)) (HX.Z.jx _) ((x.ia t:Nat):Int) W (by omega) (by omega);rwa[<-HIE.Z] at h
   obtain⟨E,hE⟩:=aa (ea (x.L (x.ib t)) ((x.ia t:Nat):Int));rw[<-hE] at Eh Ms;obtain⟨ib,Rj⟩:=aa (x.ib t);obtain⟨ia,Rk⟩:=aa (x.ia t);rw[<-Rj] at hib DH Eh ⊢;rw[<-Rk] at Rl Eh ⊢;have adD:(ib:Int)<(x.n:Int):=by omega
   clear h2 hne hE Rj Rk OQ OU HIE;go_wp2_with (first|(refine aH rfl 32 (.tmp 59) rfl b (off+ib*256) (dR x.L ib) _ rfl DH Tryz.underlying32 rfl (by rw[aZ];exact aA) ?_))
   refine(Eh.Z w2).mono ?_;rintro e w3 ⟨rfl,hb3⟩;have fh:=ah (bW.Z.below hb3);have hnew:=bs.new w3 .nil;have hal:=gI;clear bW cL DH hb3 Eh;obtain⟨y,hy⟩:=aa (x.ino t);rw[<-hy] at Ms ⊢;have Sy:=ah hy;clear hy;go_wp2_with (first|(refine bF rfl (.tmp 9) (.tmp 63) rfl w3.heap.size y .nil rfl rfl hnew ?_))
   intro w4 hi4 ke;have hb4:Below w3.heap.size w3 w4:=(ag.alloc af _).trans (ke.below af);obtain⟨X,hX⟩:=aa w3.heap.size;rw[<-hX] at hi4 ⊢;have ey:Hd (K0 w p b off cap x ds ay pt v (k*x.i+r+1) q k X y w4):=⟨fh.Z.below hb4,hi4⟩;have HXW:Hd (w.heap.size<=X):=by show _<=_;rw[hX];exact fh.Z.s.g.size
   clear fh hnew hal hb4 hi4 ke hX;go_wp2_with fail;obtain⟨B,hB⟩:=aa (bt (x.L (x.st k+1)) r);rw[<-hB] at Ms;have HBE:=ah hB;clear hB;obtain⟨kd,fV⟩:=aa ((y.kind !=0));rw[<-fV] at Ms;have adt:=fV.symm;clear fV
   by_cases mq:E=0
   ·have q0:(E !=0)=false:=by simp[mq]
    have jk:Hd (x.ki (k*x.i+r+1)=(B==kd)):=by show _=_;rw[Ms.Z,mq];rfl
    clear mq Ms;refine ar (K0 w p b off cap x ds ay pt v (k*x.i+r+1) q k X y) (ey.Z.below ⟨rfl,rfl,rfl,Nat.le_refl _,λ_ _=>rfl⟩) ?_;clear ey;intro hne;have cB:∀y':a9 (K0 w p b off cap x ds ay pt v (k*x.i+r+1) q k X y),y'.W.cell? ⟨q,r,none⟩=some (.bool B):=λy'=>by rw[HBE.Z];exact gb y'.h.s.q (by omega)
    have cK:∀y':a9 (K0 w p b off cap x ds ay pt v (k*x.i+r+1) q k X y),y'.W.cell? ⟨X,0,none⟩=some (.int .u8 y.kind):=λy'=>y'.h.y.cell (i:=0) rfl
    repeat go_big_quiet_step (fail)
    refine wpQuiet_nil ?_;intro w5 h5;have ed:=ah h5.Z;clear h5 hne cB cK
    by_cases Xn:B=kd
    ·subst Xn
     have gz:Hd (∀s,s<k*x.i+(r+1)->x.ki (s+1)=true):=λs hs=>by
      by_cases e:s=k*x.i+r
      ·rw[e,jk.Z];cases B<;>rfl
      exact HP.Z s (by omega)
     go_wp2_with fail
     ·rename_i h;exact absurd h (by cases B<;>decide)
     obtain⟨j0,hj,hz0,hz1,hz2⟩:=AF;have gi:k*x.i+r+1+1<=300:=by have:=SC.Z;have:=HGI.Z.2;omega
     obtain⟨n,hn⟩:=aa (k*x.i+r+1);have zN:=ah hn;have PQ:Hd (y.arr.toList=jL x n):=by show _=_;rw[Sy.Z,hn,HT.Z];rfl
     rw[<-hn] at ed gi;clear hn;show(Code.region _ (Vp.Ay 77 9 157 4 63 86 152 "ref.go:64").toArray true).wp _ _ _ _;refine Vp.Br 77 9 157 4 63 86 152 "ref.go:64" p 11 X v y.arr (K0 w p b off cap x ds ay pt v n q k X y) (T8 w p b off cap x ds ay pt v (n+1) q k) (K4F w p b off cap x ds ay pt (n+1) q k)
      (by kernel_rfl) (by kernel_rfl) (by kernel_rfl) (by kernel_rfl) (by kernel_rfl) (by rfl) (by rfl) (λW=>by kernel_rfl) (by kernel_rfl) (λW=>by kernel_rfl) _ Tryz.underlying63 rfl (oP y) (tU y) (λW W' h hb=>h.below hb) (λv W W' h hb=>h.below hb) (λW W' h hb=> ?f1) (ed.Z.below ⟨rfl,rfl,rfl,Nat.le_refl _,λ_ _=>rfl⟩) (λW h=>h.s.s.k.a.cell (i:=11) rfl) ?one (λW h=> ?row) (λW g0 h hA=> ?app) (λv' W h=> ?sto) ?fin
     case f1=>obtain⟨v',h⟩:=h;exact⟨v',h.below hb⟩
     case one=>obtain⟨a,c,rfl⟩:=au.form ed.Z.s.s.r;rfl
     case row=>exactλj u hj=>by rw[Nat.zero_add];exact At.cell (cs:=y.arr) h.y (by simpa using hj)
     case app=>
      have hown:=h.s.s.r;have hl:=λq hq=>(World.ownsRow.lt hown q hq).1
      obtain⟨v',W',hr,ho,hg,_⟩:=run_append_own (P:=Tryz.prog) W w.heap.size 86 86 63 j0 aS.nil.val 16 80 Tryz.underlying86 hj hz0 hz1 hz2 rfl (by decide) v n (Cs (jL x) n) hown ⟨g0,0,none⟩ 1 1 y.arr.toList rfl
       (λj u hj=>by rw[bA,Nat.zero_add];exact At.cell (cs:=y.arr) hA (by simpa using hj)) (λu hu=>yw y u hu) (by unfold maxLen;omega) (by omega) h.s.s.g.size
      refine⟨v',W',hr,⟨⟨dE h.s.s.k.a hg (λe=>by have:=hl p e;omega),aM.fX h.s.s.k.i hg h.s.s.k.bl (λe=>by have:=hl b e.symm;omega),Nat.lt_of_lt_of_le h.s.s.k.bl hg.size⟩,(by have h:=ho;rw[PQ.Z] at h;exact h),h.s.s.g.AW hg hl,h.s.q.grown hg (G9 h.s.q hown (by decide))⟩⟩
     case sto=>
      have ho:az p W (W.setCell ⟨p,11,none⟩ v'):=az.setCell W ⟨p,11,none⟩ v';refine⟨⟨_,h.s.a.cell (i:=11) rfl⟩,an h.s.a 11,by obtain⟨a,c,rfl⟩:=au.form h.r;rfl,v',⟨h.s.Ff mZ v',fm h.r ho (λe=>by have:=(World.ownsRow.lt h.r p e).1;omega),h.g.trans (dV.cE ho rfl)⟩,h.q.only ho (λe=>by obtain⟨c,hc,_⟩:=h.q.blk;exact At.dk h.s.a hc (by decide) e.symm)⟩
     intro u0 u1 u2 u3 u4 u5 u6 u7 u8 u9 w6 hF;obtain⟨v',h6⟩:=hF;rw[zN.Z] at h6;have jj:=ah h6;clear ed h6;simp only[Act.put,List.setIfInBounds_toArray,List.set_cons_succ,List.set_cons_zero];go_wp2_with fail;go_roundw
     case rel=>(try((repeat apply Exists.intro);refine⟨?_,rfl⟩));exact⟨r+1,v',by omega,by go_num,gz.Z,jj.Z⟩
     simp[intOf];omega
    have cY:Hd (aK (λt=>x.ki (t+1)) x.ni=false):=bR (p:=λt=>x.ki (t+1)) SC.Z (by show x.ki (k*x.i+r+1)=false;rw[jk.Z];cases B<;>cases kd<;>first|rfl|exact absurd rfl Xn);clear jk HBE;cases B<;>cases kd<;>first|exact absurd rfl Xn|skip
    all_goals
     go_wp2_with fail;go_ret;exact⟨by rw[cY.Z];rfl,ed.Z.s.s.g,λh=>by rw[cY.Z] at h;cases h⟩
   have q0:(E !=0)=true:=by simp[mq]
   have cY:Hd (aK (λt=>x.ki (t+1)) x.ni=false):=bR (p:=λt=>x.ki (t+1)) SC.Z (by show x.ki (k*x.i+r+1)=false;rw[Ms.Z];simp[mq]);clear mq Ms;refine ar (K0 w p b off cap x ds ay pt v (k*x.i+r+1) q k X y) (ey.Z.below ⟨rfl,rfl,rfl,Nat.le_refl _,λ_ _=>rfl⟩) ?_;clear ey;intro hne
   repeat go_big_quiet_step (fail)
   refine wpQuiet_nil ?_;intro w5 h5;have ed:=ah h5.Z;clear h5 hne;go_wp2_with fail;go_ret;exact⟨by rw[cY.Z];rfl,ed.Z.s.s.g,λh=>by rw[cY.Z] at h;cases h⟩
  obtain rfl:r=x.i:=by omega
  have HS:Hd (Iz w p b off cap x ds ay pt v ((k+1)*x.i+1) wr/\∀t,t<(k+1)*x.i->x.ki (t+1)=true):=by
   rw[Nat.succ_mul];exact⟨ST.Z.s,HP.Z⟩
  go_wp2_with fail;go_roundw
  case rel=>(try((repeat apply Exists.intro);refine⟨?_,rfl⟩));exact⟨k+1,_,by omega,by go_num,HS.Z.2,HS.Z.1⟩
  simp[intOf];omega
 obtain rfl:k=x.g:=by omega
 have HF:Hd (aK (λt=>x.ki (t+1)) x.ni=true):=(aY _ _).2 λt ht=>HP.Z t ht
 go_wp2_with fail;go_ret;exact⟨by rw[HF.Z];rfl,ST.Z.g,λ_=>⟨v,ST.Z⟩⟩
structure R3S(w:World)(p b off cap:Nat)(x:Im)(ds ino ay pt:Value)(q0 q1 k:Nat)(W:World):Prop where
 s:qz p b off cap x ds ino ay pt W
 a:aE W q0 4 1 2048 (kH (bt (x.L (x.st k))))
 c:aE W q1 4 1 2048 (kH (bt (x.L (x.st k+1))))
 bel:Below w.heap.size w W
theorem x4(hx:x.Ok)(p b off cap:Nat)(ds ino ay pt:Value)(w:World)(h:qz p b off cap x ds ino ay pt w):
  Calls Tryz.prog 115 #[.pointer (some ⟨p,0,none⟩)] w λe w'=>e= .returned (.bool (aK x.qy x.g))/\Below w.heap.size w w':=by
 have hM:=dX hx.may;have hown:x.own<=2048:=by unfold Im.own;omega
 have Ug:Hd (∀k,aK (x.rp k) 2048=x.qy k):=λk=>Im.rk3 x hown k
 have HX:=ah hx;have zH:x.i<=64:=by omega
 have hg4:x.g<=4:=by omega
 have hT:(x.i:Int).tdiv 4=((x.i/4:Nat):Int):=by rw[Int.tdiv_eq_ediv_of_nonneg (by omega)];omega
 obtain⟨T,hTe⟩:=aa (x.i/4);have EF:Hd (x.own=2+T):=by show _=_;unfold Im.own;rw[hTe]
 have hT9:T<=16:=by omega
 rw[<-hTe] at hT;have dt:=ah h;have c6:w.cell? ⟨p,6,none⟩=some (.int .i64 (x.g:Int)):=h.a.cell (i:=6) rfl;clear h hx hM hown hTe;go_enter Tryz.func115,Tryz.ntmps115;go_wp2_with fail;go_loopw [3,4,5,6] (λu _ _ _ wr=>∃k:Nat,k<=x.g/\u= .int .i64 (k:Int)/\(∀q,q<k->x.qy q=true)/\qz p b off cap x ds ino ay pt wr/\Below w.heap.size w wr) (λu _ _ _ _=>x.g-(intOf u).toNat)
 case atStart=>exact⟨0,Nat.zero_le _,rfl,λq h=>by omega,dt.Z,Below.refl _ _⟩
 clear dt c6;obtain⟨k,hk,rfl,hP,st,hb⟩:=hrel;have HP:=ah hP;have ST:=ah st;have HB:=ah hb;have c6:wr.cell? ⟨p,6,none⟩=some (.int .i64 (x.g:Int)):=st.a.cell (i:=6) rfl;clear hP st hb
 by_cases hlt:k<x.g
 ·have hlt':(k:Int)<(x.g:Int):=by omega
  go_wp2_with fail;refine(gq HX.Z p b off cap ds ino ay pt k 0 hlt (by decide) wr ST.Z).mono ?_;rintro e w1 ⟨q0,rfl,hq0,RE,hb1⟩;have bh:=ah (ST.Z.below hb1);have jS:=ah (HB.Z.trans (hb1.mono HB.Z.size));have SM:Hd (aE w1 q0 4 1 2048 (kH (bt (x.L (x.st k))))):=RE;clear ST HB c6 hb1 RE hq0;go_wp2_with fail;refine(gq HX.Z p b off cap ds ino ay pt k 1 hlt (by decide) w1 bh.Z).mono ?_;rintro e w2 ⟨q1,rfl,hq1,tr,hb2⟩;have bW:Hd (R3S w p b off cap x ds ino ay pt q0 q1 k w2):=⟨bh.Z.below hb2,SM.Z.below hb2,tr,jS.Z.trans (hb2.mono jS.Z.size)⟩;clear bh jS SM hb2 tr hq1;go_wp2_with fail;go_loopw [6] (λu wr=>∃n:Nat,n<=2048/\u= .int .i64 (n:Int)/\(∀m,m<n->x.rp k m=true)/\R3S w p b off cap x ds ino ay pt q0 q1 k wr) (λu _=>2048-(intOf u).toNat)
  case atStart=>exact⟨0,Nat.zero_le _,rfl,λq h=>by omega,bW.Z⟩
  clear bW;obtain⟨n,hn,rfl,hQ,st⟩:=hrel;have HQ:=ah hQ;have ST:=ah st;clear hQ st
  by_cases JV:n<2048
  ·have adr:(n:Int)<2048:=by omega
   have n0:(0:Int)<=(n:Int):=by omega
   have c7:wr.cell? ⟨p,7,none⟩=some (.int .i64 (x.s:Int)):=ST.Z.s.a.cell (i:=7) rfl;have c8:wr.cell? ⟨p,8,none⟩=some (.int .i64 (x.i:Int)):=ST.Z.s.a.cell (i:=8) rfl;have d0:=gb ST.Z.a JV;have d1:=gb ST.Z.c JV;have HF:Hd (x.rp k n= !(((decide (n<2+T)||decide (x.s<=n))&& !bt (x.L (x.st k)) n)||(decide (x.i<=n)&& !bt (x.L (x.st k+1)) n))):=by show _=_;rw[<-EF.Z];rfl
   have cY:Hd (x.rp k n=false->aK x.qy x.g=false):=λh=>bR hlt (by rw[<-Ug.Z k];exact bR JV h)
   have gz:Hd (x.rp k n=true->∀m,m<n+1->x.rp k m=true):=λh m hm=>by
    rcases Nat.lt_succ_iff_lt_or_eq.1 hm with h1|h1
    ·exact HQ.Z m h1
    rw[h1];exact h
   obtain⟨B0,hB0⟩:=aa (bt (x.L (x.st k)) n);obtain⟨B1,wF⟩:=aa (bt (x.L (x.st k+1)) n);rw[<-hB0,<-wF] at HF;rw[<-hB0] at d0;rw[<-wF] at d1;obtain⟨C1,GD⟩:=aa (decide (n<2+T));obtain⟨C2,Ex⟩:=aa (decide (x.s<=n));obtain⟨C3,Ew⟩:=aa (decide (x.i<=n));rw[<-GD,<-Ex,<-Ew] at HF;have g1:decide ((n:Int)<2+(T:Int))=C1:=by rw[GD,decide_eq_decide];omega
   have g2:decide ((x.s:Int)<=(n:Int))=C2:=by rw[Ex,decide_eq_decide];omega
   have g3:decide ((x.i:Int)<=(n:Int))=C3:=by rw[Ew,decide_eq_decide];omega
   have g2':decide (x.s<=n)=C2:=Ex.symm;have g3':decide (x.i<=n)=C3:=Ew.symm;clear hB0 wF GD Ex Ew;cases C1<;>cases C2<;>cases C3<;>cases B0<;>cases B1
   all_goals
    go_wp2_with fail
    first
    |(go_roundw
      case rel=>(try((repeat apply Exists.intro);refine⟨?_,rfl⟩));exact⟨n+1,by omega,by go_num,gz.Z HF.Z,ST.Z⟩
      simp[intOf];omega)
    |(go_ret
      exact⟨by rw[cY.Z HF.Z];rfl,ST.Z.bel⟩)
  obtain rfl:n=2048:=by omega
  have HF:Hd (∀q,q<k+1->x.qy q=true):=λq hq=>by
   rcases Nat.lt_succ_iff_lt_or_eq.1 hq with h1|h1
   ·exact HP.Z q h1
   rw[h1,<-Ug.Z k];exact(aY _ _).2 HQ.Z
  go_wp2_with fail;go_roundw
  case rel=>(try((repeat apply Exists.intro);refine⟨?_,rfl⟩));exact⟨k+1,by omega,by go_num,HF.Z,ST.Z.s,ST.Z.bel⟩
  simp[intOf];omega
 obtain rfl:k=x.g:=by omega
 go_wp2_with fail;go_ret;exact⟨by rw[(aY _ _).2 HP.Z];rfl,HB.Z⟩
end Go.Proofs.YtphamecphmbipaaGreatDoor
