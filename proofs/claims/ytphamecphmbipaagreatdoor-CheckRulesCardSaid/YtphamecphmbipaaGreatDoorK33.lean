/- Texts of this claim, merged. -/
import Derived.Test.YtphamecphmbipaaGreatDoorK32
set_option linter.unusedVariables false
set_option maxRecDepth 100000
set_option maxHeartbeats 16000000

namespace Go.Proofs.YtphamecphmbipaaGreatDoor
open Go.RowKit
open Lib (hid)
variable {q k b p off i cap:Nat} {T:TypeId} {x:Im} {v v' ds ak pt:Value} {W' w:World} {o:Oper} {a:Act} {G:Value->World->Prop} {l:Nat->Bool}
theorem jO(q:Nat)(hq:q<11)(w:World):Calls Tryz.prog 152 #[.int .i64 (q:Int)] w λe w'=>e= .returned (.int .i64 ((Im.lvl q:Nat):Int))/\Below w.heap.size w w':=by
 have h0:(0:Int)<=(q:Int):=by omega
 by_cases h8:q<8
 ·have HE:Hid (Im.lvl q=0):=by show _=_;unfold Im.lvl;rw[if_pos h8]
  have h7:(q:Int)<=7:=by omega
  clear hq h8;go_enter Tryz.func152,Tryz.ntmps152;go_wp2_with fail;go_ret;exact⟨by rw[HE.out];rfl,Below.refl _ _⟩
 ·have HE:Hid (((Im.lvl q:Nat):Int)=(q:Int)-7):=by show _=_;unfold Im.lvl;rw[if_neg h8];omega
  have h7:¬(q:Int)<=7:=by omega
  have WJ:(8:Int)<=(q:Int):=by omega
  have h10:(q:Int)<=10:=by omega
  clear hq h8;go_enter Tryz.func152,Tryz.ntmps152;go_wp2_with fail;go_ret;exact⟨by rw[HE.out];rfl,Below.refl _ _⟩
theorem CF(W:World):(Instr.buildSlice 37 4 #[(0,.int .i64 1),(1,.int .i64 64),(2,.int .i64 4096),(3,.int .i64 262144)]).run Tryz.prog W= .ok (.slice (some ⟨W.heap.size,0,none⟩) 4 4) (W.alloc (.cells #[.int .i64 1,.int .i64 64,.int .i64 4096,.int .i64 262144] 3)):=by kernel_rfl
theorem oR(l:Nat)(hl:l<4)(w:World):Calls Tryz.prog 151 #[.int .i64 (l:Int)] w λe w'=>e= .returned (.int .i64 ((Im.fL l:Nat):Int))/\Below w.heap.size w w':=by
 have hbs:=CF;have HB:Hid (Below w.heap.size w (w.alloc (.cells #[.int .i64 1,.int .i64 64,.int .i64 4096,.int .i64 262144] 3))):=(Below.refl _ _).alloc (Nat.le_refl _) _;have hA:=At.new w 3 #[.int .i64 1,.int .i64 64,.int .i64 4096,.int .i64 262144];obtain⟨v,hv⟩:∃v:Int,v=((Im.fL l:Nat):Int):=⟨_,rfl⟩;have cl:(w.alloc (.cells #[.int .i64 1,.int .i64 64,.int .i64 4096,.int .i64 262144] 3)).cell? ⟨w.heap.size,l,none⟩=some (.int .i64 v):=by
  rw[hv];have:l=0\/l=1\/l=2\/l=3:=by omega
  rcases this with rfl|rfl|rfl|rfl
  ·exact hA.cell (i:=0) rfl
  ·exact hA.cell (i:=1) rfl
  ·exact hA.cell (i:=2) rfl
  ·exact hA.cell (i:=3) rfl
 rw[<-hv];have l0:(0:Int)<=(l:Int):=by omega
 have l1:¬(3:Int)<(l:Int):=by omega
 have l2:(l:Int)<4:=by omega
 clear hA hv hl;go_enter Tryz.func151,Tryz.ntmps151;go_wp2_with fail;go_ret;exact⟨rfl,HB.out⟩
theorem Gn(h:q<10):Im.fst (q+1)=Im.fst q+Im.fL (Im.lvl q):=by
 unfold Im.fst Im.lvl Im.fL
 by_cases h8:q<8
 ·rw[if_pos (by omega),if_pos (by omega),if_pos h8,Nat.pow_zero]
 ·have:q=8\/q=9:=by omega
  rcases this with rfl|rfl<;>rfl
theorem NP(h:q<11):Im.fst q<=4168:=by unfold Im.fst;split<;>(try split)<;>omega
theorem vG(h:q<11):Im.lvl q<4:=by unfold Im.lvl;split<;>omega
theorem vt(q:Nat)(hq:q<11)(w:World):Calls Tryz.prog 150 #[.int .i64 (q:Int)] w λe w'=>e= .returned (.int .i64 ((Im.fst q:Nat):Int))/\Below w.heap.size w w':=by
 have hl0:(0:Int)<=((Im.lvl q:Nat):Int):=by omega
 go_enter Tryz.func150,Tryz.ntmps150;go_wp2_with fail;refine(jO q hq _).mono ?_;rintro e w1 ⟨rfl,hb1⟩;have jE:=hid hb1;obtain⟨L,hL⟩:∃L:Nat,L=Im.lvl q:=⟨_,rfl⟩;rw[<-hL] at hl0 ⊢;clear hb1 hL;go_wp2_with fail;go_loopw [3,4] (λu v wr=>∃k:Nat,k<=q/\u= .int .i64 ((Im.fst k:Nat):Int)/\v= .int .i64 (k:Int)/\Below w.heap.size w wr) (λ_ v _=>q-(intOf v).toNat)
 case atStart=>exact⟨0,Nat.zero_le _,rfl,rfl,jE.out⟩
 case round=>
  clear jE;obtain⟨k,hk,rfl,rfl,hb⟩:=hrel;have HB:=hid hb;clear hb
  by_cases hlt:k<q
  ·have hlt':(k:Int)<(q:Int):=by omega
   have HST:=hid (Gn (q:=k) (by omega));have Nq:=NP (q:=k) (by omega);obtain⟨F,hF⟩:∃F,F=Im.fst k:=⟨_,rfl⟩;rw[<-hF] at Nq HST ⊢;clear hF;go_wp2_with fail;refine(jO k (by omega) _).mono ?_;rintro e w2 ⟨rfl,hb2⟩;have j7:=hid (HB.out.trans (hb2.mono HB.out.size));clear HB hb2;go_wp2_with fail;refine(oR (Im.lvl k) (vG (by omega)) _).mono ?_;rintro e w3 ⟨rfl,hb3⟩;have uJ:=hid (j7.out.trans (hb3.mono j7.out.size));have Li:Im.fL (Im.lvl k)<=262144:=by
    have h4:=vG (q:=k) (by omega);have:Im.lvl k=0\/Im.lvl k=1\/Im.lvl k=2\/Im.lvl k=3:=by omega
    rcases this with e|e|e|e<;>rw[e]<;>decide
   obtain⟨G,hG⟩:∃G,G=Im.fL (Im.lvl k):=⟨_,rfl⟩;rw[<-hG] at Li HST ⊢;clear j7 hb3 hG;go_wp2_with fail;go_roundw
   case rel=>exact⟨k+1,by omega,by rw[HST.out];go_num,by go_num,uJ.out⟩
   case measure=>simp[intOf];omega
  ·obtain rfl:k=q:=by omega
   obtain⟨F,hF⟩:∃F,F=Im.fst k:=⟨_,rfl⟩;rw[<-hF];have Ot:=hid hF;clear hF;go_wp2_with fail;go_ret;exact⟨by rw[<-Ot.out];rfl,HB.out⟩
theorem fJ{W:World}{n:Nat}{P:Nat->Bool}(h:az W q T 1 n (kr P))(hk:k<n):W.cell? ⟨q,k,none⟩=some (.bool (P k)):=h.jU hk rfl
def knC(v:Value)(g s i j o:Nat)(ds ino ak pt:Value):Array Value:=#[v,.int .i64 (g:Int),.int .i64 (s:Int),.int .i64 (i:Int),.int .i64 (j:Int),.int .u32 (o:Int),.int .i64 (g:Int),.int .i64 (s:Int),.int .i64 (i:Int),.int .i64 (j:Int),ds,ino,ak,pt]
abbrev knX(b off cap:Nat)(x:Im)(ds ino ak pt:Value):Array Value:=knC (.slice (some ⟨b,off,none⟩) x.n cap) x.g x.s x.i x.j x.o ds ino ak pt
structure qj(p b off cap:Nat)(x:Im)(ds ino ak pt:Value)(W:World):Prop where
 a:At W p 157 (knX b off cap x ds ino ak pt)
 i:aF W b off 256 x.n (dW x.L)
 bl:b<W.heap.size
section
variable {p b off cap:Nat} {x:Im} {ds ino ak pt:Value} {W W':World}
theorem qj.below(h:qj p b off cap x ds ino ak pt W)(hb:Below W.heap.size W W'):qj p b off cap x ds ino ak pt W':=⟨h.a.below hb h.a.lt,aF.below h.i hb h.bl,Nat.lt_of_lt_of_le h.bl hb.size⟩
theorem qj.lH(h:qj p b off cap x ds ino ak pt W):W.rangeAt p 6 (aa x.g x.s x.i x.j).toList:=λk v hk=>by
 match k,hk with
 |0,hk=>injection hk with hk;subst hk;exact h.a.cell (i:=6) rfl
 |1,hk=>injection hk with hk;subst hk;exact h.a.cell (i:=7) rfl
 |2,hk=>injection hk with hk;subst hk;exact h.a.cell (i:=8) rfl
 |3,hk=>injection hk with hk;subst hk;exact h.a.cell (i:=9) rfl
 |k+4,hk=>cases hk
theorem qj.blk(h:qj p b off cap x ds ino ak pt W)(hq:q<x.n):W.rangeAt b (off+q*256) (dW x.L q):=aF.range h.i q hq
end
theorem fW(hx:x.Ok)(p b off cap:Nat)(ds ino ak pt:Value)(k d:Nat)(hk:k<x.g)(hd:d<2)(w:World)(h:qj p b off cap x ds ino ak pt w):
  Calls Tryz.prog 148 #[.pointer (some ⟨p,0,none⟩),.int .i64 (k:Int),.int .i64 (d:Int)] w λe w'=>∃q,e= .returned (.slice (some ⟨q,0,none⟩) 2048 2048)/\w.heap.size<=q/\az w' q 4 1 2048 (kr (bt (x.L (x.st k+d))))/\Below w.heap.size w w':=by
 have hrg:=h.lH;have ST:=hid h;have hS:=hx.may;have hs2:2<x.s:=by have:=dL hx.may;omega
 have Qp:x.st k+d<x.n:=hx.st hk (by omega);have fY:=hx.iu;have HX:=hid hx;have B9:Hid (∀W,Calls Tryz.prog 69 #[bN x.g x.s x.i x.j,.int .i64 (k:Int)] W λe w'=>e= .returned (.tuple #[.int .i64 ((x.st k:Nat):Int),.bool true])/\Below W.heap.size W w'):=λW=>kM x.g x.s x.i x.j k hx.may hk W
 obtain⟨S,Zc⟩:∃S,S=x.st k:=⟨_,rfl⟩;rw[<-Zc] at Qp B9 ⊢;clear h hx hS hs2 hk Zc;go_enter Tryz.func148,Tryz.ntmps148;go_wp2_with (first|(refine aB rfl 23 (.tmp 12) rfl p 6 (aa x.g x.s x.i x.j).toList _ rfl hrg Tryz.underlying23 rfl (by kernel_rfl) ?_))
 refine(B9.out _).mono ?_;rintro e w1 ⟨rfl,hb1⟩;have aV:=hid (ST.out.below hb1);have jE:=hid hb1;have cl:w1.cell? ⟨p,0,none⟩=some (.slice (some ⟨b,off,none⟩) x.n cap):=aV.out.a.cell (i:=0) rfl;have Hg:=aV.out.blk Qp;have hq':(S:Int)+(d:Int)<(x.n:Int):=by omega
 have hq0:(0:Int)<=(S:Int)+(d:Int):=by omega
 clear ST hrg hb1 B9;go_wp2_with (first|(refine aB rfl 32 (.tmp 25) rfl b (off+(S+d)*256) (dW x.L (S+d)) _ rfl Hg Tryz.underlying32 rfl (by rw[aZ];exact au) ?_))
 refine(qU (x.L (S+d)) (HX.out.jg _) w1).mono ?_;rintro e w2 ⟨q,rfl,hq1,hR,hb2⟩;have HR:Hid (w.heap.size<=q/\az w2 q 4 1 2048 (kr (bt (x.L (S+d))))/\Below w.heap.size w w2):=⟨Nat.le_trans jE.out.size hq1,hR,jE.out.trans (hb2.mono jE.out.size)⟩;clear aV jE cl Hg hb2 hR hq1;go_wp2_with fail;go_ret;exact⟨q,rfl,HR.out⟩
theorem xk(hx:x.Ok)(hb:b<x.n):∃K A B C:Int,gN x.s (x.i/4) x.j b=tv K A B C/\(K==7)=x.data b/\(x.data b=true->A=(((b-(2+x.j))/x.s:Nat):Int)/\B=(((b-(2+x.j))%x.s:Nat):Int)):=by
 unfold gN Im.data Im.own;rw[decide_eq_true hb]
 by_cases h0:b=0
 ·rw[if_pos h0];exact⟨_,_,_,_,rfl,by rw[decide_eq_false (by omega)];rfl,λh=>by rw[decide_eq_false (by omega)] at h;cases h⟩
 rw[if_neg h0]
 by_cases h1:b=1
 ·rw[if_pos h1];exact⟨_,_,_,_,rfl,by rw[decide_eq_false (by omega)];rfl,λh=>by rw[decide_eq_false (by omega)] at h;cases h⟩
 rw[if_neg h1]
 by_cases h2:b<2+x.j
 ·rw[if_pos h2];exact⟨_,_,_,_,rfl,by rw[decide_eq_false (by omega)];rfl,λh=>by rw[decide_eq_false (by omega)] at h;cases h⟩
 rw[if_neg h2,decide_eq_true (show 2+x.j<=b by omega)]
 by_cases h3:(b-(2+x.j))%x.s=0
 ·rw[if_pos h3];exact⟨_,_,_,_,rfl,by rw[decide_eq_false (by omega)];rfl,λh=>by rw[decide_eq_false (by omega)] at h;cases h⟩
 rw[if_neg h3]
 by_cases h4:(b-(2+x.j))%x.s=1
 ·rw[if_pos h4];exact⟨_,_,_,_,rfl,by rw[decide_eq_false (by omega)];rfl,λh=>by rw[decide_eq_false (by omega)] at h;cases h⟩
 rw[if_neg h4]
 by_cases h5:(b-(2+x.j))%x.s<2+x.i/4
 ·rw[if_pos h5];exact⟨_,_,_,_,rfl,by rw[decide_eq_false (by omega)];rfl,λh=>by rw[decide_eq_false (by omega)] at h;cases h⟩
 rw[if_neg h5];exact⟨_,_,_,_,rfl,by rw[decide_eq_true (by omega)];rfl,λ_=>⟨rfl,rfl⟩⟩
theorem zZ(hx:x.Ok)(p b off cap:Nat)(ds ino ak pt:Value)(q:Nat)(w:World)(h:qj p b off cap x ds ino ak pt w)(hq:q<x.n):
  Calls Tryz.prog 153 #[.pointer (some ⟨p,0,none⟩),.int .i64 (q:Int)] w λe w'=>e= .returned (.bool (x.data q))/\Below w.heap.size w w':=by
 have hrg:=h.lH;obtain⟨K,A,B,C,he,hK,_⟩:=xk hx hq;have hnn:=hx.n;have HW:Hid (∀W,Calls Tryz.prog 144 #[bN x.g x.s x.i x.j,.int .i64 (q:Int)] W λe w'=>e= .returned (.tuple #[.int .u8 K,.int .i64 A,.int .i64 B])/\Below W.heap.size W w'):=λW=>mr x.g x.s x.i x.j q hx.may (by rw[<-hnn];exact hq) K A B C he W
 obtain⟨D,hD⟩:∃D,D=x.data q:=⟨_,rfl⟩;rw[<-hD] at hK ⊢;clear he hD hx hnn hq;go_enter Tryz.func153,Tryz.ntmps153;go_wp2_with (first|(refine aB rfl 23 (.tmp 11) rfl p 6 (aa x.g x.s x.i x.j).toList _ rfl hrg Tryz.underlying23 rfl (by kernel_rfl) ?_))
 refine(HW.out _).mono ?_;rintro e w1 ⟨rfl,hb1⟩;have jE:=hid hb1;clear hrg h hb1 HW;go_wp2_with fail;go_ret;exact⟨rfl,jE.out⟩
def zl(Q:List Im.Pt)(k:Nat):List Value:=match Q[k]? with
 |some y=>[.int .i64 (y.i:Int),.int .i64 (y.b:Int),.int .i64 (y.f:Int),.int .i64 ((Im.fL y.l:Nat):Int)]
 |none=>[.int .i64 0,.int .i64 0,.int .i64 0,.int .i64 0]
theorem pS(Q:List Im.Pt)(k:Nat):(zl Q k).length=4:=by unfold zl;split<;>rfl
theorem qX{Q:List Im.Pt}{y:Im.Pt}(h:Q[k]? =some y):zl Q k=[.int .i64 (y.i:Int),.int .i64 (y.b:Int),.int .i64 (y.f:Int),.int .i64 ((Im.fL y.l:Nat):Int)]:=by unfold zl;rw[h]
theorem Bq:∀{Q:List Im.Pt} {k:Nat} {y:Im.Pt} {c:Nat},Q[k]? =some y->(∀(j:Nat) (z:Im.Pt),j<k->Q[j]? =some z->z.b≠c)->Im.bF Q c=if y.b=c then y.i else Im.bF (Q.drop (k+1)) c
 |[],k,y,c,h,_=>by cases h
 |z::Q,0,y,c,h,_=>by injection h with h;subst h;rfl
 |z::Q,k+1,y,c,h,hn=>by
  have h0:=hn 0 z (Nat.succ_pos _) rfl;rw[Im.bF,if_neg h0];exact Bq (k:=k) h λj w hj hw=>hn (j+1) w (by omega) hw
theorem tL:∀{Q:List Im.Pt} {c:Nat},(∀(j:Nat) (z:Im.Pt),Q[j]? =some z->z.b≠c)->Im.bF Q c=0
 |[],c,_=>rfl
 |z::Q,c,h=>by
  rw[Im.bF,if_neg (h 0 z rfl)];exact tL λj w hw=>h (j+1) w hw
def Ky(p:Nat)(Q:List Im.Pt)(v:Value)(W:World):Prop:=∃a cap,v= .slice a Q.length cap/\cY W a 4 Q.length (zl Q)
theorem Ky.below{Q:List Im.Pt}{W:World}(h:Ky p Q v W)(hb:Below W.heap.size W W'):Ky p Q v W':=by
 obtain⟨a,cap,rfl,hr⟩:=h;exact⟨a,cap,rfl,hr.below (λe=>by have:=pS Q 0;rw[e] at this;cases this) hb⟩
theorem kJ(p b off cap:Nat)(ds ino ak pt:Value)(Q:List Im.Pt)(hQ:Q.length<=4294967296)(c:Nat)(w:World)(h:qj p b off cap x ds ino ak pt w)(hp:Ky p Q pt w):
  Calls Tryz.prog 74 #[.pointer (some ⟨p,0,none⟩),.int .i64 (c:Int)] w λe w'=>e= .returned (.int .i64 ((Im.bF Q c:Nat):Int))/\Below w.heap.size w w':=by
 obtain⟨a,cap',rfl,hr⟩:=hp;have cp:w.cell? ⟨p,13,none⟩=some (.slice a Q.length cap'):=h.a.cell (i:=13) rfl;have HR:=hid hr;obtain⟨n,hn⟩:∃n,n=Q.length:=⟨_,rfl⟩;have HN:=hid hn;rw[<-hn] at cp hQ;clear hr h hn;go_enter Tryz.func74,Tryz.ntmps74;go_wp2_with fail;go_loopw [5] (λu wr=>∃k:Nat,k<=n/\u= .int .i64 (k:Int)/\(∀(j:Nat) (z:Im.Pt),j<k->Q[j]? =some z->z.b≠c)/\wr=w) (λu _=>n-(intOf u).toNat)
 case atStart=>exact⟨0,Nat.zero_le _,rfl,λj z h=>by omega,rfl⟩
 case round=>
  obtain⟨k,hk,rfl,hno,rfl⟩:=hrel;have ct:=hid hno;clear hno
  by_cases hlt:k<n
  ·have hlt':(k:Int)<(n:Int):=by omega
   obtain⟨y,hy⟩:∃y,Q[k]? =some y:=⟨_,List.getElem?_eq_getElem (by rw[<-HN.out];exact hlt)⟩;obtain⟨g,o',Ge,lF⟩:∃b' off',a=some ⟨b',off',none⟩/\aF wr b' off' 4 Q.length (zl Q):=by
    rcases HR.out with h|h
    ·have:=HN.out;omega
    ·exact h
   subst Ge;have hk':k<Q.length:=by have:=HN.out;omega
   have e:=qX hy;have c0:wr.cell? ⟨g,o'+k*4,none⟩=some (.int .i64 (y.i:Int)):=lF k hk' 0 _ (by rw[e];rfl);have c1:wr.cell? ⟨g,o'+k*4+1,none⟩=some (.int .i64 (y.b:Int)):=lF k hk' 1 _ (by rw[e];rfl);have HY:=hid hy;clear lF e hk' hy
   by_cases Qk:y.b=c
   ·have q0:((y.b:Int)==(c:Int))=true:=by simp[Qk]
    have HE:Hid (Im.bF Q c=y.i):=by show _=_;rw[Bq HY.out ct.out,if_pos Qk]
    clear Qk;go_wp2_with fail;go_ret;exact⟨by rw[HE.out];rfl,Below.refl _ _⟩
   ·have q0:((y.b:Int)==(c:Int))=false:=by simp;omega
    have ky:Hid (∀(j:Nat) (z:Im.Pt),j<k+1->Q[j]? =some z->z.b≠c):=λj z hj hz=>by
     rcases Nat.lt_succ_iff_lt_or_eq.1 hj with h|h
     ·exact ct.out j z h hz
     ·subst h;have:=HY.out;rw[hz] at this;injection this with this;rw[this];exact Qk
    clear Qk;go_wp2_with fail;go_roundw
    case rel=>first|exact⟨k+1,by omega,by go_num,ky.out,rfl⟩|exact⟨k+1,by omega,by go_num,ky.out,trivial⟩|exact⟨k+1,by omega,by go_num,ky.out⟩
    case measure=>simp[intOf];omega
  ·obtain rfl:k=n:=by omega
   have HE:Hid (Im.bF Q c=0):=tL λj z hz=>ct.out j z (by have:=(List.getElem?_eq_some_iff.1 hz).1;have:=HN.out;omega) hz
   go_wp2_with fail;go_ret;exact⟨by rw[HE.out];rfl,Below.refl _ _⟩
namespace Vp
section
variable {P:Program}
theorem KU{W:World}{u:Value}(t:TypeId)(n:Nat)(x:Operand)(ho:o.op= .buildSlice t n #[(0,x)])(hx:a.eval x=u)(hr:(Instr.buildSlice t n #[(0,u)]).run P W= .ok v W'):(execOp a.eval o).run P W= .ok (.value v) W':=by
 simp[execOp,ho,hx,hr]
theorem KW{W:World}{u:Value}(t:TypeId)(s x:Operand)(ho:o.op= .call {callee:=.builtin .append,args:=#[s,x],argTypes:=#[t,t]})(hs:a.eval s=u)(hx:a.eval x=v)(hr:(Builtin.append_ #[t,t] o.type #[u,v]).run P W= .ok v' W'):(execOp a.eval o).run P W= .ok (.value v') W':=by
 unfold execOp;simp only[ho,resolve,invoke,builtin,Sem.run_bind,Sem.run_pure,Result.andThen_ok,List.map_toArray,List.map_cons,List.map_nil,hs,hx,hr]
def Ag(b X K f T Ts tk:Nat)(pos:String):List Oper:=
 [{dst:=some b,op:=.move (.tmp 0),type:=tk,pos:=pos,after:=#[],guard:=none},
  {dst:=some (b+1),op:=.move (.tmp 0),type:=tk,pos:=pos,after:=#[],guard:=none},
  {dst:=some (b+2),op:=.nilCheck (.tmp (b+1)),type:=0,pos:=pos,after:=#[{on:=1,ground:=.data}],guard:=none},
  {dst:=some (b+3),op:=.fieldAddr K (.tmp (b+2)) f,type:=0,pos:=pos,after:=#[{on:=2,ground:=.data}],guard:=none},
  {dst:=some (b+4),op:=.load Ts (.tmp (b+3)),type:=Ts,pos:=pos,after:=#[{on:=3,ground:=.data}],guard:=none},
  {dst:=some (b+5),op:=.load T (.tmp X),type:=T,pos:=pos,after:=#[],guard:=none},
  {dst:=some (b+6),op:=.buildSlice Ts 1 #[(0,.tmp (b+5))],type:=Ts,pos:=pos,after:=#[{on:=5,ground:=.data}],guard:=none},
  {dst:=some (b+7),op:=.call {callee:=.builtin .append,args:=#[.tmp (b+4),.tmp (b+6)],argTypes:=#[Ts,Ts]},type:=Ts,pos:=pos,after:=#[{on:=4,ground:=.data},{on:=6,ground:=.data}],guard:=none},
  {dst:=some (b+8),op:=.nilCheck (.tmp b),type:=0,pos:=pos,after:=#[{on:=0,ground:=.data},{on:=0,ground:=.phase},{on:=1,ground:=.phase},{on:=2,ground:=.phase},{on:=3,ground:=.phase},{on:=4,ground:=.phase},{on:=5,ground:=.phase},{on:=6,ground:=.phase},{on:=7,ground:=.phase}],guard:=none},
  {dst:=some (b+9),op:=.fieldAddr K (.tmp (b+8)) f,type:=0,pos:=pos,after:=#[{on:=8,ground:=.data},{on:=0,ground:=.phase},{on:=1,ground:=.phase},{on:=2,ground:=.phase},{on:=3,ground:=.phase},{on:=4,ground:=.phase},{on:=5,ground:=.phase},{on:=6,ground:=.phase},{on:=7,ground:=.phase}],guard:=none},
  {dst:=none,op:=.store Ts (.tmp (b+9)) (.tmp (b+7)),type:=0,pos:=pos,after:=#[{on:=9,ground:=.data},{on:=7,ground:=.data},{on:=7,ground:=.chain},{on:=0,ground:=.phase},{on:=1,ground:=.phase},{on:=2,ground:=.phase},{on:=3,ground:=.phase},{on:=4,ground:=.phase},{on:=5,ground:=.phase},{on:=6,ground:=.phase},{on:=7,ground:=.phase}],guard:=none}]
def FI(p off T:Nat)(old:Value)(cells:Array Value)(G:Value->World->Prop)(l:Nat->Bool)(i:Nat)(v:Value)(W:World):Prop:=
 if i<=2\/i=8 then v= .pointer (some ⟨p,0,none⟩) else if i=3\/i=9 then v= .pointer (some ⟨p,off,none⟩) else if i=4 then v=old else if i=5 then v= .agg cells
 else if i=6 then∃g0,v= .slice (some ⟨g0,0,none⟩) 1 1/\(l 7=false->At W g0 T cells) else if i=7 then l 10=false->G v W else True
structure Pj(B F:World->Prop)(l:Nat->Bool)(W:World):Prop where
 b:l 7=false->B W
 f:l 10=true->F W
 o6:l 6=true->l 5=true
 o7:l 7=true->l 4=true/\l 6=true
 SO:l 10=true->l 7=true
theorem FI.up{T:Nat}{old:Value}{cells:Array Value}{l':Nat->Bool}{W:World}(h:FI p off T old cells G l i v W)
  (h6:∀g0,i=6->l' 7=false->l 7=false/\(At W g0 T cells->At W' g0 T cells)) (h7:∀v,i=7->l' 10=false->l 10=false/\(G v W->G v W')):FI p off T old cells G l' i v W':=by
 unfold FI at h ⊢;split<;>rename_i c1
 ·rwa[if_pos c1] at h
 rw[if_neg c1] at h;split<;>rename_i c2
 ·rwa[if_pos c2] at h
 rw[if_neg c2] at h;split<;>rename_i c3
 ·rwa[if_pos c3] at h
 rw[if_neg c3] at h;split<;>rename_i c4
 ·rwa[if_pos c4] at h
 rw[if_neg c4] at h;split<;>rename_i c5
 ·rw[if_pos c5] at h
  obtain⟨g0,h1,h2⟩:=h;exact⟨g0,h1,λe=>(h6 g0 c5 e).2 (h2 (h6 g0 c5 e).1)⟩
 rw[if_neg c5] at h;split<;>rename_i c6
 ·rw[if_pos c6] at h
  exactλe=>(h7 v c6 e).2 (h (h7 v c6 e).1)
 trivial
theorem Pj.next{B F:World->Prop}{W:World}(h:Pj B F l W)(h7:(7==k)=false)(h10:(10==k)=false)(h6:k=6->l 5=true)(hb:B W->B W')(hf:F W->F W'):Pj B F (λj=>j==k||l j) W':=by
 refine⟨λe=>hb (h.b (by simpa[h7] using e)),λe=>hf (h.f (by simpa[h10] using e)),λe=> ?_,λe=> ?_,λe=> ?_⟩
 ·by_cases c:k=6
  ·simp[h6 c]
  ·have:l 6=true:=by
    have e:(6==k||l 6)=true:=e;rw[show(6==k)=false by simp;omega] at e;exact e
   simp[h.o6 this]
 ·have:=h.o7 (by simpa[h7] using e)
  exact⟨by simp[this.1],by simp[this.2]⟩
 ·have:=h.SO (by simpa[h10] using e)
  simp[this]
theorem FI.next{T:Nat}{old:Value}{cells:Array Value}{W:World}(h7:(7==k)=false)(h10:(10==k)=false)(h:FI p off T old cells G l i v W):FI p off T old cells G (λj=>j==k||l j) i v W:=
 h.up (λg0 _ e=>⟨by simpa[h7] using e,λh=>h⟩) (λv _ e=>⟨by simpa[h10] using e,λh=>h⟩)
theorem Be{id:Nat}{Q:Exit->Act->World->Prop}(b X K f T Ts tk:Nat)(pos:String)(p off Xb:Nat)(old:Value)(cells:Array Value)(B:World->Prop)(G:Value->World->Prop)(F:World->Prop)
  (hm:P.follows .mixedOrders=true) (hd:eX .any (Ag b X K f T Ts tk pos).toArray=true) (hB:Vl.kq (Ag b X K f T Ts tk pos) a.tmps.size=true) (NC:(List.range 11).all (λi=>Vl.dst (Ag b X K f T Ts tk pos) i !=some 0)=true) (hXX:(List.range 11).all (λi=>Vl.dst (Ag b X K f T Ts tk pos) i !=some X)=true)
  (h0:a.tmps.getD 0 undef= .pointer (some ⟨p,0,none⟩)) (hX:a.tmps.getD X undef= .pointer (some ⟨Xb,0,none⟩))
  (s5:∀W,(Instr.fieldAt K (.pointer (some ⟨p,0,none⟩)) f).run P W= .ok (.pointer (some ⟨p,off,none⟩)) W)
  (hTs:(P.info? Ts).map (·.size)=some 1) (hag:∀W,(isAgg Ts).run P W= .ok false W) (dT:TypeDesc) (hT:P.underlying T=some dT) (hTr:dT.isRow=true) (hTi:(P.info? T).map (·.size)=some cells.toList.length)
  (hbs:∀W,(Instr.buildSlice Ts 1 #[(0,.agg cells)]).run P W= .ok (.slice (some ⟨W.heap.size,0,none⟩) 1 1) (W.alloc (.cells cells T)))
  (hBb:∀W W',B W->Below W.heap.size W W'->B W') (Zq:∀v W W',G v W->Below W.heap.size W W'->G v W') (Zt:∀W W',F W->Below W.heap.size W W'->F W') (hB0:B {w with drawn:=w.drawn+1})
  (hold:∀W,B W->W.cell? ⟨p,off,none⟩=some old) (hone:old.oneCell'=true) (hrow:∀W,B W->W.rangeAt Xb 0 cells.toList)
  (Wi:∀W g0,B W->At W g0 T cells->∃v' W',(Builtin.append_ #[Ts,Ts] Ts #[old,.slice (some ⟨g0,0,none⟩) 1 1]).run P W= .ok v' W'/\G v' W')
  (hst:∀v W,G v W->(∃u,W.cell? ⟨p,off,none⟩=some u)/\W.frozen? ⟨p,off,none⟩=false/\v.oneCell'=true/\F (W.setCell ⟨p,off,none⟩ v))
  (hend:∀u0 u1 u2 u3 u4 u5 u6 u7 u8 u9 w',F w'->Q .normal ((((((((((a.put (some b) u0).put (some (b+1)) u1).put (some (b+2)) u2).put (some (b+3)) u3).put (some (b+4)) u4).put (some (b+5)) u5).put (some (b+6)) u6).put (some (b+7)) u7).put (some (b+8)) u8).put (some (b+9)) u9) w'):
  (Code.region id (Ag b X K f T Ts tk pos).toArray true).wp P Q a w:=by
 have hn:(Ag b X K f T Ts tk pos).length=11:=rfl;apply br 0 (λl i v W=>FI p off T old cells G l i v W) (λl W=>Pj B F l W) (λ_=>True) a hm hd rfl hB
 ·intro l l' he i v W h
  rw[hn] at he;exact h.up (λg0 _ e=>⟨(he 7 (by decide) (by decide)).trans e,λh=>h⟩) (λv _ e=>⟨(he 10 (by decide) (by decide)).trans e,λh=>h⟩)
 ·intro l l' W he h
  rw[hn] at he;have e4:=he 4 (by decide) (by decide);have e5:=he 5 (by decide) (by decide);have e6:=he 6 (by decide) (by decide);have e7:=he 7 (by decide) (by decide);have e10:=he 10 (by decide) (by decide);exact⟨λe=>h.b (e7.trans e),λe=>h.f (e10.trans e),λe=>e5▸h.o6 (e6.trans e),λe=>by rw[<-e4,<-e6];exact h.o7 (e7.trans e),λe=>by rw[<-e7];exact h.SO (e10.trans e)⟩
 ·exactλl W h=>trivial
 ·exactλl i v W W' h hb=>h.up (λg0 _ e=>⟨e,λh=>h.below hb h.lt⟩) (λv _ e=>⟨e,λh=>Zq v W W' h hb⟩)
 ·exactλl W W' h hb _=>⟨λe=>hBb W W' (h.b e) hb,λe=>Zt W W' (h.f e) hb,h.o6,h.o7,h.SO⟩
 ·exact⟨λ_=>hB0,(λe=>by cases e),(λe=>by cases e),(λe=>by cases e),λe=>by cases e⟩
 ·exactλR hR hne=>wpQuiet_nil rfl
 ·have q:∀(k:Nat) (l:Nat->Bool) (a1:Act) (W:World) {v:Value} {o:Oper},(7==k)=false->(10==k)=false->k≠6->(Ag b X K f T Ts tk pos)[k]? =some o->o.guard=none->l k=false->Vm.I (Ag b X K f T Ts tk pos) (Vp.W (Ag b X K f T Ts tk pos) 0 a λl i v W=>FI p off T old cells G l i v W) (λl W=>Pj B F l W) a l a1 W->(execOp a1.eval o).run P W= .ok (.value v) W->FI p off T old cells G (λj=>j==k||l j) k v W->wpOp P (Ag b X K f T Ts tk pos).toArray Q k (Vm.I (Ag b X K f T Ts tk pos) (Vp.W (Ag b X K f T Ts tk pos) 0 a λl i v W=>FI p off T old cells G l i v W) (λl W=>Pj B F l W) a λj=>j==k||l j) a1 W:=λk l a1 W {v o} h7 h10 h6 hL hg hl h hr hv=>
   Vm.bB h hB (by simpa using hL) hL hg hl v hr (λ_ _ hv=>hv.up λ_ hv=>hv.next h7 h10) (Vp.W.mk (Nat.not_lt_zero _) hv) (λs=>s.next h7 h10 (λe=>absurd e h6) (λh=>h) (λh=>h))
  refine⟨?_,?_,?_,?_,?_,?_,?_,?_,?_,?_,?_,trivial⟩
  ·exactλl a1 W hl hu h=>q 0 l a1 W rfl rfl (by decide) rfl rfl hl h (Vl.ea (.tmp 0) rfl ((h.old 0 NC).trans h0)) rfl
  ·exactλl a1 W hl hu h=>q 1 l a1 W rfl rfl (by decide) rfl rfl hl h (Vl.ea (.tmp 0) rfl ((h.old 0 NC).trans h0)) rfl
  ·exactλl a1 W hl hu h=>q 2 l a1 W rfl rfl (by decide) rfl rfl hl h (Vl.mq (.tmp (b+1)) rfl ⟨p,0,none⟩ ((h.vals 1 (b+1) (aq hu 1) rfl).post (by decide))) rfl
  ·exactλl a1 W hl hu h=>q 3 l a1 W rfl rfl (by decide) rfl rfl hl h (Vl.jM K (.tmp (b+2)) f rfl ((h.vals 2 (b+2) (aq hu 2) rfl).post (by decide)) (s5 W)) rfl
  ·intro l a1 W hl hu h
   have hB':B W:=h.st.b (by cases e:l 7 with|false=>rfl|true=>have:=(h.st.o7 e).1;rw[hl] at this;cases this);exact q 4 l a1 W rfl rfl (by decide) rfl rfl hl h (Vl.KT Ts (.tmp (b+3)) rfl p off ((h.vals 3 (b+3) (aq hu 3) rfl).post (by decide)) (hold W hB') (hag W)) rfl
  ·intro l a1 W hl hu h
   have hB':B W:=h.st.b (by cases e:l 7 with|false=>rfl|true=>have:=h.st.o6 (h.st.o7 e).2;rw[hl] at this;cases this);exact q 5 l a1 W rfl rfl (by decide) rfl rfl hl h (Vl.pR T (.tmp X) rfl Xb 0 cells.toList dT ((h.old X hXX).trans hX) (hrow W hB') hT hTr hTi) rfl
  ·intro l a1 W hl hu h
   have u5:=aq hu 5 (by kernel_rfl);have e5:a1.tmps.getD (b+5) undef= .agg cells:=(h.vals 5 (b+5) u5 rfl).post (by decide);have hb:Below W.heap.size W (W.alloc (.cells cells T)):=(Below.refl _ _).alloc (Nat.le_refl _) _;exact Vm.step h hB rfl rfl rfl hl (eM (KU Ts 1 (.tmp (b+5)) rfl e5 (hbs W)) ⟨_,rfl,λn d _ _ hv=>hv.up λ_ hv=>hv.up (λg0 _ e=>⟨e,λh=>h.below hb h.lt⟩) (λv _ e=>⟨e,λh=>Zq v _ _ h hb⟩),Vp.W.mk (by decide) ⟨W.heap.size,rfl,λ_=>At.new W T cells⟩,h.st.next rfl rfl (λ_=>u5) (λh=>hBb _ _ h hb) (λh=>Zt _ _ h hb)⟩)
  ·intro l a1 W hl hu h
   have u4:=aq hu 4 (by kernel_rfl);have u6:=aq hu 6 (by kernel_rfl);have e4:a1.tmps.getD (b+4) undef=old:=(h.vals 4 (b+4) u4 rfl).post (by decide);obtain⟨g0,e6,hA⟩:∃g0,a1.tmps.getD (b+6) undef= .slice (some ⟨g0,0,none⟩) 1 1/\(l 7=false->At W g0 T cells):=(h.vals 6 (b+6) u6 rfl).post (by decide);obtain⟨v',W',hr,hG⟩:=Wi W g0 (h.st.b hl) (hA hl);exact Vm.step h hB rfl rfl rfl hl (eM (KW Ts (.tmp (b+4)) (.tmp (b+6)) rfl e4 e6 hr) ⟨_,rfl,λn d hi _ hv=>hv.up λ_ hv=>hv.up (λg0 _ e=>by cases e) (λv e7 _=>by subst e7;rw[hl] at hi;cases hi),Vp.W.mk (by decide) (λ_=>hG),
    ⟨(λe=>by cases e),λe=>(by have:=h.st.SO e;rw[hl] at this;cases this),λe=>h.st.o6 e,λ_=>⟨u4,u6⟩,λ_=>rfl⟩⟩)
  ·exactλl a1 W hl hu h=>q 8 l a1 W rfl rfl (by decide) rfl rfl hl h (Vl.mq (.tmp b) rfl ⟨p,0,none⟩ ((h.vals 0 b (aq hu 0) rfl).post (by decide))) rfl
  ·exactλl a1 W hl hu h=>q 9 l a1 W rfl rfl (by decide) rfl rfl hl h (Vl.jM K (.tmp (b+8)) f rfl ((h.vals 8 (b+8) (aq hu 8) rfl).post (by decide)) (s5 W)) rfl
  ·intro l a1 W hl hu h
   have u7:=aq hu 7 (by kernel_rfl);have e9:a1.tmps.getD (b+9) undef= .pointer (some ⟨p,off,none⟩):=(h.vals 9 (b+9) (aq hu 9) rfl).post (by decide);have hG:l 10=false->G (a1.tmps.getD (b+7) undef) W:=(h.vals 7 (b+7) u7 rfl).post (by decide);obtain⟨⟨u,hc⟩,hf,h1,hF⟩:=hst _ W (hG hl);refine Vm.step h hB rfl rfl rfl hl (Vl.q9 Ts (.tmp (b+9)) (.tmp (b+7)) rfl p off _ u e9 rfl hc hf hTs h1 ?_);refine⟨_,rfl,λn d hi _ hv=>hv.up λ_ hv=>hv.up (λg0 _ e=> ?_) (λv _ e=>by cases e),Vp.W.mk (by decide) trivial,⟨λe=> ?_,λ_=>hF,h.st.o6,h.st.o7,λ_=>u7⟩⟩
   ·have e:l 7=false:=e;rw[u7] at e;cases e
   ·have e:l 7=false:=e;rw[u7] at e;cases e
 ·intro a' w' h hall
  have e:=hall [b,b+1,b+2,b+3,b+4,b+5,b+6,b+7,b+8,b+9] (by rw[hn];simp[List.range_succ,Vl.dst,Ag]);rw[e];exact hend _ _ _ _ _ _ _ _ _ _ w' (h.st.f rfl)
end
end Vp
theorem tG(y:aK)(W:World):(Instr.buildSlice 86 1 #[(0,.agg y.arr)]).run Tryz.prog W= .ok (.slice (some ⟨W.heap.size,0,none⟩) 1 1) (W.alloc (.cells y.arr 63)):=by kernel_rfl
theorem Am:∃i,Tryz.prog.info? 63=some i/\i.zero=some aK.nil.val/\i.size=16/\i.bytes=80:=by
 have h:=mC;cases hq:Tryz.prog.info? 63 with
 |none=>rw[hq] at h;cases h
 |some i=>
  rw[hq] at h;injection h with h
  injection h with h1 h2
  injection h2 with h2 h3
  exact⟨i,rfl,h1,h2,h3⟩
theorem UI(hx:x.Ok){t:Nat}(h1:1<=t)(h2:t<=x.ni):x.ib t<x.n:=by
 obtain⟨k1,k2,k3,k4,k5,k6,k7,k8,k9,k10,k11⟩:=dL hx.may;have hγ:(t-1)/x.i<x.g:=(Nat.div_lt_iff_lt_mul (by omega)).2 (by have:t<=x.g*x.i:=h2;omega);have hr:(t-1)%x.i<x.i:=Nat.mod_lt _ (by omega);have:=hx.st hγ (d:=2+(t-1)%x.i/4) (by omega);unfold Im.ib;rwa[Nat.add_assoc]
theorem dJ.AH{S:Nat->Prop}{W:World}{row:Option Nat}(h:dJ S w W)(hg:W.grownBy W' row)(hl:∀q,row=some q->w.heap.size<=q):dJ S w W':=
 ⟨hg.os.trans h.os,hg.tape.trans h.tape,hg.output.trans h.output,Nat.le_trans h.size hg.size,λj hj hn=>(hg.block j (Nat.lt_of_lt_of_le hj h.size) (λe=>by have:=hl j e.symm;omega)).trans (h.block j hj hn)⟩
abbrev JP(p j:Nat):Prop:=j=p
theorem qj.ET{ino:Value}{W:World}(h:qj p b off cap x ds ino ak pt W)(mP:b≠p)(v:Value):qj p b off cap x ds v ak pt (W.setCell ⟨p,11,none⟩ v):=
 ⟨h.a.xw 11 v,aF.only h.i (an.setCell W ⟨p,11,none⟩ v) mP,by rw[(an.setCell W ⟨p,11,none⟩ v).size];exact h.bl⟩
structure Hw(w:World)(p b off cap:Nat)(x:Im)(ds ak pt v:Value)(n:Nat)(W:World):Prop where
 k:qj p b off cap x ds v ak pt W
 r:ah W w.heap.size 63 16 v n (jv x)
 g:dJ (JP p) w W
structure LM(w:World)(p b off cap:Nat)(x:Im)(ds ak pt v:Value)(n q k:Nat)(W:World):Prop where
 s:Hw w p b off cap x ds ak pt v n W
 q:az W q 4 1 2048 (kr (bt (x.L (x.st k+1))))
section
variable {w:World} {p b off cap:Nat} {x:Im} {ds ak pt v:Value} {n q k:Nat} {W W':World}
theorem Hw.below(h:Hw w p b off cap x ds ak pt v n W)(hb:Below W.heap.size W W'):Hw w p b off cap x ds ak pt v n W':=⟨h.k.below hb,h.r.below hb,h.g.trans (dJ.bQ hb)⟩
theorem LM.below(h:LM w p b off cap x ds ak pt v n q k W)(hb:Below W.heap.size W W'):LM w p b off cap x ds ak pt v n q k W':=⟨h.s.below hb,h.q.below hb⟩
end
structure KB(w:World)(p b off cap:Nat)(x:Im)(ds ak pt v:Value)(n q k X:Nat)(y:aK)(W:World):Prop where
 s:LM w p b off cap x ds ak pt v n q k W
 y:aY W X 63 y
theorem KB.below{n X:Nat}{y:aK}{W:World}(h:KB w p b off cap x ds ak pt v n q k X y W)(hb:Below W.heap.size W W'):KB w p b off cap x ds ak pt v n q k X y W':=⟨h.s.below hb,h.y.below hb h.y.lt⟩
structure TF(w:World)(p b off cap:Nat)(x:Im)(ds ak pt v:Value)(n q k:Nat)(v':Value)(W:World):Prop where
 s:qj p b off cap x ds v ak pt W
 r:ah W w.heap.size 63 16 v' n (jv x)
 g:dJ (JP p) w W
 q:az W q 4 1 2048 (kr (bt (x.L (x.st k+1))))
theorem TF.below{n:Nat}{W:World}(h:TF w p b off cap x ds ak pt v n q k v' W)(hb:Below W.heap.size W W'):TF w p b off cap x ds ak pt v n q k v' W':=⟨h.s.below hb,h.r.below hb,h.g.trans (dJ.bQ hb),h.q.below hb⟩
def K4F(w:World)(p b off cap:Nat)(x:Im)(ds ak pt:Value)(n q k:Nat)(W:World):Prop:=∃v,LM w p b off cap x ds ak pt v n q k W
theorem GJ{W:World}{m n base size j:Nat}{e:TypeId}{f:Nat->List Value}{xs:List Value}(h:az W q T m n f)(ho:W.ownsRow base e size v j xs)(he:e≠T):some q≠v.ownBlock:=by
 obtain⟨c,hc,_⟩:=h.blk
 exactλe2=>dw hc ho he e2.symm
def K4P(w:World)(p b off cap:Nat)(x:Im)(ds ak pt:Value)(e:Ending)(w':World):Prop:=
 e= .returned (.bool (aD (λt=>x.j1 (t+1)) x.ni))/\dJ (JP p) w w'/\(aD (λt=>x.j1 (t+1)) x.ni=true->∃v,Hw w p b off cap x ds ak pt v (x.ni+1) w')
theorem xH(hx:x.Ok)(p b off cap:Nat)(ds ino ak pt:Value)(w:World)(h:qj p b off cap x ds ino ak pt w)(mP:b≠p):
  Calls Tryz.prog 116 #[.pointer (some ⟨p,0,none⟩)] w λe w'=>K4P w p b off cap x ds ak pt e w':=by
 have hM:=dL hx.may;have HX:=hid hx;have zm:x.i<=64:=by omega
 have hg4:x.g<=4:=by omega
 have hpw:p<w.heap.size:=h.a.lt;have rL:b<w.heap.size:=h.bl;have hbs:=tG .nil;have hbl:=gq;have cl:=h.a.cell (i:=11) rfl;have fl:=ag h.a 11;have cX:Hid (Hw w p b off cap x ds ak pt (.slice (some ⟨w.heap.size,0,none⟩) 1 1) 1 ((w.setCell ⟨p,11,none⟩ (.slice (some ⟨w.heap.size,0,none⟩) 1 1)).alloc (.cells aK.nil.arr 63))):=by
  obtain⟨W1,hW1⟩:∃W1,W1=w.setCell ⟨p,11,none⟩ (.slice (some ⟨w.heap.size,0,none⟩) 1 1):=⟨_,rfl⟩;have ho:an p w W1:=by rw[hW1];exact an.setCell _ ⟨p,11,none⟩ _
  have hk:qj p b off cap x ds (.slice (some ⟨w.heap.size,0,none⟩) 1 1) ak pt W1:=by rw[hW1];exact h.ET mP _
  rw[<-hW1];clear hW1;have hb1:Below W1.heap.size W1 (W1.alloc (.cells aK.nil.arr 63)):=(Below.refl _ _).alloc (Nat.le_refl _) _;have hr:ah (W1.alloc (.cells aK.nil.arr 63)) W1.heap.size 63 16 (.slice (some ⟨W1.heap.size,0,none⟩) 1 1) 1 (jv x):=by
   refine⟨rfl,.inr ⟨_,1,aK.nil.arr,rfl,Nat.le_refl _,heap_alloc_new W1 _,Nat.le_refl _,by unfold maxLen;omega,rfl,?_⟩⟩;rw[lN];show _=[]++jv x 0;unfold jv;rw[x.ya];rfl
  rw[ho.size] at hr;exact⟨hk.below hb1,hr,dJ.trans (S:=JP p) (dJ.bW ho rfl) (dJ.bQ hb1)⟩
 have Sn:Hid (∀k r,k<x.g->r<x.i->∀W,Calls Tryz.prog 108 #[bN x.g x.s x.i x.j,.int .i64 (k:Int),.int .i64 (r:Int)] W λe w'=>e= .returned (.int .i64 ((1+k*x.i+r:Nat):Int))/\Below W.heap.size W w'):=λk r hk hr W=>jN x.g x.s x.i x.j k r hx.may hk hr hg4 zm W
 have wK:Hid (∀k r,k<x.g->r<x.i->∀W,Calls Tryz.prog 67 #[bN x.g x.s x.i x.j,.int .i64 ((1+k*x.i+r:Nat):Int)] W λe w'=>e= .returned (.tuple #[.int .i64 ((x.ib (1+k*x.i+r):Nat):Int),.int .i64 ((x.ia (1+k*x.i+r):Nat):Int),.bool true])/\Below W.heap.size W w'):=λk r hk hr W=>by
  refine(oS x.g x.s x.i x.j k r hx.may hk hr W).mono λe w' h=>⟨?_,h.2⟩
  have e1:(k*x.i+r)/x.i=k:=by rw[Nat.mul_comm,Nat.mul_add_div (by omega),Nat.div_eq_of_lt hr];rfl
  have e2:(k*x.i+r)%x.i=r:=by rw[Nat.mul_comm,Nat.mul_add_mod,Nat.mod_eq_of_lt hr]
  rw[h.1];unfold Im.ib Im.ia Im.st;rw[show 1+k*x.i+r-1=k*x.i+r by omega,e1,e2,show 64*(r%4)=r%4*64 by omega,show 2+x.j+k*x.s+(2+r/4)=2+x.j+k*x.s+2+r/4 by omega]
 have iE:Hid (∀k r,k<x.g->r<x.i->x.ib (1+k*x.i+r)<x.n/\x.ia (1+k*x.i+r)<=192/\x.ino (1+k*x.i+r)=dP (x.L (x.ib (1+k*x.i+r))) ((x.ia (1+k*x.i+r):Nat):Int)/\k*x.i+r<x.ni/\x.j1 (k*x.i+r+1)=(dQ (x.L (x.ib (1+k*x.i+r))) ((x.ia (1+k*x.i+r):Nat):Int)==0&&(bt (x.L (x.st k+1)) r==((x.ino (1+k*x.i+r)).kind !=0)))):=λk r hk hr=>by
  have e1:(k*x.i+r)/x.i=k:=by rw[Nat.mul_comm,Nat.mul_add_div (by omega),Nat.div_eq_of_lt hr];rfl
  have e2:(k*x.i+r)%x.i=r:=by rw[Nat.mul_comm,Nat.mul_add_mod,Nat.mod_eq_of_lt hr]
  have hlt:k*x.i+r<x.ni:=by
   have:(k+1)*x.i<=x.g*x.i:=Nat.mul_le_mul_right _ hk;rw[Nat.succ_mul] at this;unfold Im.ni;omega
  have hib:=UI hx (t:=1+k*x.i+r) (by omega) (by omega);refine⟨hib,x.Lf _,?_,hlt,?_⟩
  ·unfold Im.ino;rw[if_pos ⟨by omega,by omega⟩]
  ·rw[show k*x.i+r+1=1+k*x.i+r by omega]
   unfold Im.j1 Im.used;rw[show 1+k*x.i+r-1=k*x.i+r by omega,e1,e2]
 have HGI:Hid (x.ni=x.g*x.i/\x.ni<=256):=⟨rfl,eK hx.may⟩;clear h hx hM;go_enter Tryz.func116,Tryz.ntmps116;go_wp2_with (first|(refine dt rfl 86 1 0 (.tmp 12) rfl aK.nil.val rfl _ _ (hbs _) ?_))
 clear cl fl hbs hbl;go_loopw [3,4,5,6,7,8,9,10] (λu _ _ _ _ _ _ _ wr=>∃(k:Nat) (v:Value),k<=x.g/\u= .int .i64 (k:Int)/\(∀t,t<k*x.i->x.j1 (t+1)=true)/\Hw w p b off cap x ds ak pt v (k*x.i+1) wr) (λu _ _ _ _ _ _ _ _=>x.g-(intOf u).toNat)
 case atStart=>exact⟨0,_,Nat.zero_le _,rfl,λt h=>by omega,by rw[Nat.zero_mul];exact cX.out⟩
 case round=>
  clear cX;obtain⟨k,v,hk,rfl,hP,st⟩:=hrel;have HP:=hid hP;have ST:=hid st;have c6:wr.cell? ⟨p,6,none⟩=some (.int .i64 (x.g:Int)):=st.k.a.cell (i:=6) rfl;clear hP st
  by_cases hlt:k<x.g
  ·have hlt':(k:Int)<(x.g:Int):=by omega
   go_wp2_with fail;refine(fW HX.out p b off cap ds v ak pt k 1 hlt (by decide) wr ST.out.k).mono ?_;rintro e w1 ⟨q,rfl,hq,hR,hb1⟩;have aV:Hid (LM w p b off cap x ds ak pt v (k*x.i+0+1) q k w1):=⟨ST.out.below hb1,hR⟩;have HP0:Hid (∀t,t<k*x.i+0->x.j1 (t+1)=true):=HP.out;have Av:w.heap.size<=q:=Nat.le_trans ST.out.g.size hq;clear ST c6 hb1 hR hq HP;go_wp2_with fail;go_loopw [5,6,7,8,9,10] (λu _ _ _ _ _ wr=>∃(r:Nat) (v:Value),r<=x.i/\u= .int .i64 (r:Int)/\(∀t,t<k*x.i+r->x.j1 (t+1)=true)/\LM w p b off cap x ds ak pt v (k*x.i+r+1) q k wr) (λu _ _ _ _ _ _=>x.i-(intOf u).toNat)
   case atStart=>exact⟨0,_,Nat.zero_le _,rfl,HP0.out,aV.out⟩
   case round=>
    clear aV HP0 v;obtain⟨r,v,hr,rfl,hP,st⟩:=hrel;have HP:=hid hP;have ST:=hid st;have c8:wr.cell? ⟨p,8,none⟩=some (.int .i64 (x.i:Int)):=st.s.k.a.cell (i:=8) rfl;clear hP st
    by_cases OL:r<x.i
    ·have acx:(r:Int)<(x.i:Int):=by omega
     have r0:(0:Int)<=(r:Int):=by omega
     have r9:(r:Int)<2048:=by omega
     obtain⟨hib,QR,yp,htn,mE⟩:=iE.out k r hlt OL;have Oi:=hid (Sn.out k r hlt OL);have Om:=hid (wK.out k r hlt OL);have HT:Hid (k*x.i+r+1=1+k*x.i+r):=by show _=_;omega
     obtain⟨t,ht⟩:∃t,t=1+k*x.i+r:=⟨_,rfl⟩;rw[<-ht] at hib QR yp mE Oi Om HT;have Xx:=hid ht;have L3:=hid mE;have HIE:=hid yp;have acj:t<=256:=by have:=HGI.out.2;omega
     have R4:=hid htn;clear ht mE yp htn;go_wp2_with fail;refine ai (LM w p b off cap x ds ak pt v (k*x.i+r+1) q k) (by kernel_rfl) (by kernel_rfl) (ST.out.below ⟨rfl,rfl,rfl,Nat.le_refl _,λ_ _=>rfl⟩) ?_;clear ST c8;intro hne;iterate 3 go_big_quiet_step (fail)
     refine aH rfl 23 (.tmp 40) rfl p 6 rfl (aa x.g x.s x.i x.j).toList _ (λW h=>h.s.k.lH) Tryz.underlying23 rfl (by kernel_rfl) ?_;refine ae ?_;iterate 3 go_big_quiet_step (fail)
     refine aH rfl 23 (.tmp 44) rfl p 6 rfl (aa x.g x.s x.i x.j).toList _ (λW h=>h.s.k.lH) Tryz.underlying23 rfl (by kernel_rfl) ?_;refine ae ?_;iterate 2 go_big_quiet_step (fail)
     go_big_quiet_want
     go_big_quiet_op
     refine⟨_,λs=>aG s (λW hW=>(Oi.out W).mono λe w' h=>⟨h.1,hW.below h.2⟩),?_⟩
     go_big_quiet_on
     go_big_quiet_want
     go_big_quiet_op
     refine⟨_,λs=>aG s (λW hW=>(Om.out W).mono λe w' h=>⟨h.1,hW.below h.2⟩),?_⟩
     go_big_quiet_on
     repeat go_big_quiet_step (fail)
     refine wpQuiet_nil ?_;intro w2 h2;have cf:=hid h2.out;have cL:w2.cell? ⟨p,0,none⟩=some (.slice (some ⟨b,off,none⟩) x.n cap):=h2.out.s.k.a.cell (i:=0) rfl;have Hg:=h2.out.s.k.blk hib;have DZ:Hid (∀W,Calls Tryz.prog 149 #[aL (x.L (x.ib t)),.int .i64 ((x.ia t:Nat):Int)] W λe w'=>e= .returned (.tuple #[(x.ino t).val,.int .i64 (dQ (x.L (x.ib t)) ((x.ia t:Nat):Int))])/\Below W.heap.size W w'):=λW=>by
      have h:=Fc (x.L (x.ib t)) (HX.out.jg _) ((x.ia t:Nat):Int) W (by omega) (by omega);rwa[<-HIE.out] at h
     obtain⟨E,hE⟩:∃E,E=dQ (x.L (x.ib t)) ((x.ia t:Nat):Int):=⟨_,rfl⟩;rw[<-hE] at DZ L3;obtain⟨ib,QP⟩:∃ib,ib=x.ib t:=⟨_,rfl⟩;obtain⟨ia,QQ⟩:∃ia,ia=x.ia t:=⟨_,rfl⟩;rw[<-QP] at hib Hg DZ ⊢;rw[<-QQ] at QR DZ ⊢;have ac8:(ib:Int)<(x.n:Int):=by omega
     clear h2 hne hE QP QQ Oi Om HIE;go_wp2_with (first|(refine aB rfl 32 (.tmp 59) rfl b (off+ib*256) (dW x.L ib) _ rfl Hg Tryz.underlying32 rfl (by rw[aZ];exact au) ?_))
     refine(DZ.out w2).mono ?_;rintro e w3 ⟨rfl,hb3⟩;have eP:=hid (cf.out.below hb3);have hnew:=aY.new w3 .nil;have hal:=gq;clear cf cL Hg hb3 DZ;obtain⟨y,hy⟩:∃y,y=x.ino t:=⟨_,rfl⟩;rw[<-hy] at L3 ⊢;have R0:=hid hy;clear hy;go_wp2_with (first|(refine bp rfl (.tmp 9) (.tmp 63) rfl w3.heap.size y .nil rfl rfl hnew ?_))
     intro w4 hi4 kv;have hb4:Below w3.heap.size w3 w4:=((Below.refl _ _).alloc (Nat.le_refl _) _).trans (kv.below (Nat.le_refl _));obtain⟨X,hX⟩:∃X,X=w3.heap.size:=⟨_,rfl⟩;rw[<-hX] at hi4 ⊢;have eI:Hid (KB w p b off cap x ds ak pt v (k*x.i+r+1) q k X y w4):=⟨eP.out.below hb4,hi4⟩;have HXW:Hid (w.heap.size<=X):=by show _<=_;rw[hX];exact eP.out.s.g.size
     clear eP hnew hal hb4 hi4 kv hX;go_wp2_with fail;obtain⟨B,hB⟩:∃B,B=bt (x.L (x.st k+1)) r:=⟨_,rfl⟩;rw[<-hB] at L3;have HBE:=hid hB;clear hB;obtain⟨kd,fE⟩:∃kd,kd=(y.kind !=0):=⟨_,rfl⟩;rw[<-fE] at L3;have acZ:=fE.symm;clear fE
     by_cases lZ:E=0
     ·have q0:(E !=0)=false:=by simp[lZ]
      have iX:Hid (x.j1 (k*x.i+r+1)=(B==kd)):=by show _=_;rw[L3.out,lZ];rfl
      clear lZ L3;refine ai (KB w p b off cap x ds ak pt v (k*x.i+r+1) q k X y) (by kernel_rfl) (by kernel_rfl) (eI.out.below ⟨rfl,rfl,rfl,Nat.le_refl _,λ_ _=>rfl⟩) ?_;clear eI;intro hne;have cB:∀y':aT (KB w p b off cap x ds ak pt v (k*x.i+r+1) q k X y),y'.W.cell? ⟨q,r,none⟩=some (.bool B):=λy'=>by rw[HBE.out];exact fJ y'.h.s.q (by omega)
      have cK:∀y':aT (KB w p b off cap x ds ak pt v (k*x.i+r+1) q k X y),y'.W.cell? ⟨X,0,none⟩=some (.int .u8 y.kind):=λy'=>y'.h.y.cell (i:=0) rfl
      repeat go_big_quiet_step (fail)
      refine wpQuiet_nil ?_;intro w5 h5;have ec:=hid h5.out;clear h5 hne cB cK
      by_cases WH:B=kd
      ·subst WH
       have gi:Hid (∀s,s<k*x.i+(r+1)->x.j1 (s+1)=true):=λs hs=>by
        by_cases e:s=k*x.i+r
        ·rw[e,iX.out];cases B<;>rfl
        ·exact HP.out s (by omega)
       go_wp2_with fail
       ·rename_i h;exact absurd h (by cases B<;>decide)
       obtain⟨j0,hj,hz0,hz1,hz2⟩:=Am;have fY:k*x.i+r+1+1<=300:=by have:=R4.out;have:=HGI.out.2;omega
       obtain⟨n,hn⟩:∃n,n=k*x.i+r+1:=⟨_,rfl⟩;have zu:=hid hn;have HYN:Hid (y.arr.toList=jv x n):=by show _=_;rw[R0.out,hn,HT.out];rfl
       rw[<-hn] at ec fY;clear hn;show(Code.region _ (Vp.Ag 77 9 157 4 63 86 152 "ref.go:64").toArray true).wp _ _ _ _;refine Vp.Be 77 9 157 4 63 86 152 "ref.go:64" p 11 X v y.arr (KB w p b off cap x ds ak pt v n q k X y) (TF w p b off cap x ds ak pt v (n+1) q k) (K4F w p b off cap x ds ak pt (n+1) q k)
        (by kernel_rfl) (by kernel_rfl) (by kernel_rfl) (by kernel_rfl) (by kernel_rfl) (by rfl) (by rfl) (λW=>by kernel_rfl) (by kernel_rfl) (λW=>by kernel_rfl) _ Tryz.underlying63 rfl (oA y) (tG y) (λW W' h hb=>h.below hb) (λv W W' h hb=>h.below hb) (λW W' h hb=> ?f1) (ec.out.below ⟨rfl,rfl,rfl,Nat.le_refl _,λ_ _=>rfl⟩) (λW h=>h.s.s.k.a.cell (i:=11) rfl) ?one (λW h=> ?row) (λW g0 h hA=> ?app) (λv' W h=> ?sto) ?fin
       case f1=>obtain⟨v',h⟩:=h;exact⟨v',h.below hb⟩
       case one=>obtain⟨a,c,rfl⟩:=ah.form ec.out.s.s.r;rfl
       case row=>exactλj u hj=>by rw[Nat.zero_add];exact At.cell (cs:=y.arr) h.y (by simpa using hj)
       case app=>
        have hown:=h.s.s.r;have hl:=λq hq=>(World.ownsRow.lt hown q hq).1
        obtain⟨v',W',hr,ho,hg,_⟩:=run_append_own (P:=Tryz.prog) W w.heap.size 86 86 63 j0 aK.nil.val 16 80 Tryz.underlying86 hj hz0 hz1 hz2 rfl (by decide) v n (Cs (jv x) n) hown ⟨g0,0,none⟩ 1 1 y.arr.toList rfl
         (λj u hj=>by rw[bh,Nat.zero_add];exact At.cell (cs:=y.arr) hA (by simpa using hj)) (λu hu=>yb y u hu) (by unfold maxLen;omega) (by omega) h.s.s.g.size
        refine⟨v',W',hr,⟨⟨dq h.s.s.k.a hg (λe=>by have:=hl p e;omega),aF.fF h.s.s.k.i hg h.s.s.k.bl (λe=>by have:=hl b e.symm;omega),Nat.lt_of_lt_of_le h.s.s.k.bl hg.size⟩,(by have h:=ho;rw[HYN.out] at h;exact h),h.s.s.g.AH hg hl,h.s.q.grown hg (GJ h.s.q hown (by decide))⟩⟩
       case sto=>
        have ho:an p W (W.setCell ⟨p,11,none⟩ v'):=an.setCell W ⟨p,11,none⟩ v';refine⟨⟨_,h.s.a.cell (i:=11) rfl⟩,ag h.s.a 11,by obtain⟨a,c,rfl⟩:=ah.form h.r;rfl,v',⟨h.s.ET mP v',eT h.r ho (λe=>by have:=(World.ownsRow.lt h.r p e).1;omega),h.g.trans (dJ.bW ho rfl)⟩,h.q.only ho (λe=>by obtain⟨c,hc,_⟩:=h.q.blk;exact At.cR h.s.a hc (by decide) e.symm)⟩
       case fin=>
        intro u0 u1 u2 u3 u4 u5 u6 u7 u8 u9 w6 hF;obtain⟨v',h6⟩:=hF;rw[zu.out] at h6;have iW:=hid h6;clear ec h6;simp only[Act.put,List.setIfInBounds_toArray,List.set_cons_succ,List.set_cons_zero];go_wp2_with fail;go_roundw
        case rel=>(try((repeat apply Exists.intro);refine⟨?_,rfl⟩));exact⟨r+1,v',by omega,by go_num,gi.out,iW.out⟩
        case measure=>simp[intOf];omega
      ·have ct:Hid (aD (λt=>x.j1 (t+1)) x.ni=false):=bJ (p:=λt=>x.j1 (t+1)) R4.out (by show x.j1 (k*x.i+r+1)=false;rw[iX.out];cases B<;>cases kd<;>first|rfl|exact absurd rfl WH)
       clear iX HBE;cases B<;>cases kd<;>first|exact absurd rfl WH|skip
       all_goals
        go_wp2_with fail;go_ret;exact⟨by rw[ct.out];rfl,ec.out.s.s.g,λh=>by rw[ct.out] at h;cases h⟩
     ·have q0:(E !=0)=true:=by simp[lZ]
      have ct:Hid (aD (λt=>x.j1 (t+1)) x.ni=false):=bJ (p:=λt=>x.j1 (t+1)) R4.out (by show x.j1 (k*x.i+r+1)=false;rw[L3.out];simp[lZ]);clear lZ L3;refine ai (KB w p b off cap x ds ak pt v (k*x.i+r+1) q k X y) (by kernel_rfl) (by kernel_rfl) (eI.out.below ⟨rfl,rfl,rfl,Nat.le_refl _,λ_ _=>rfl⟩) ?_;clear eI;intro hne
      repeat go_big_quiet_step (fail)
      refine wpQuiet_nil ?_;intro w5 h5;have ec:=hid h5.out;clear h5 hne;go_wp2_with fail;go_ret;exact⟨by rw[ct.out];rfl,ec.out.s.s.g,λh=>by rw[ct.out] at h;cases h⟩
    ·obtain rfl:r=x.i:=by omega
     have HS:Hid (Hw w p b off cap x ds ak pt v ((k+1)*x.i+1) wr/\∀t,t<(k+1)*x.i->x.j1 (t+1)=true):=by
      rw[Nat.succ_mul];exact⟨ST.out.s,HP.out⟩
     go_wp2_with fail;go_roundw
     case rel=>(try((repeat apply Exists.intro);refine⟨?_,rfl⟩));exact⟨k+1,_,by omega,by go_num,HS.out.2,HS.out.1⟩
     case measure=>simp[intOf];omega
  ·obtain rfl:k=x.g:=by omega
   have HF:Hid (aD (λt=>x.j1 (t+1)) x.ni=true):=(aP _ _).2 λt ht=>HP.out t ht
   go_wp2_with fail;go_ret;exact⟨by rw[HF.out];rfl,ST.out.g,λ_=>⟨v,ST.out⟩⟩
structure R3S(w:World)(p b off cap:Nat)(x:Im)(ds ino ak pt:Value)(q0 q1 k:Nat)(W:World):Prop where
 s:qj p b off cap x ds ino ak pt W
 a:az W q0 4 1 2048 (kr (bt (x.L (x.st k))))
 c:az W q1 4 1 2048 (kr (bt (x.L (x.st k+1))))
 bel:Below w.heap.size w W
theorem xI(hx:x.Ok)(p b off cap:Nat)(ds ino ak pt:Value)(w:World)(h:qj p b off cap x ds ino ak pt w):
  Calls Tryz.prog 115 #[.pointer (some ⟨p,0,none⟩)] w λe w'=>e= .returned (.bool (aD x.qi x.g))/\Below w.heap.size w w':=by
 have hM:=dL hx.may;have hown:x.own<=2048:=by unfold Im.own;omega
 have TO:Hid (∀k,aD (x.qR k) 2048=x.qi k):=λk=>Im.rk3 x hown k
 have HX:=hid hx;have zm:x.i<=64:=by omega
 have hg4:x.g<=4:=by omega
 have hT:(x.i:Int).tdiv 4=((x.i/4:Nat):Int):=by rw[Int.tdiv_eq_ediv_of_nonneg (by omega)];omega
 obtain⟨T,hTe⟩:∃T,T=x.i/4:=⟨_,rfl⟩;have En:Hid (x.own=2+T):=by show _=_;unfold Im.own;rw[hTe]
 have hT9:T<=16:=by omega
 rw[<-hTe] at hT;have cX:=hid h;have c6:w.cell? ⟨p,6,none⟩=some (.int .i64 (x.g:Int)):=h.a.cell (i:=6) rfl;clear h hx hM hown hTe;go_enter Tryz.func115,Tryz.ntmps115;go_wp2_with fail;go_loopw [3,4,5,6] (λu _ _ _ wr=>∃k:Nat,k<=x.g/\u= .int .i64 (k:Int)/\(∀q,q<k->x.qi q=true)/\qj p b off cap x ds ino ak pt wr/\Below w.heap.size w wr) (λu _ _ _ _=>x.g-(intOf u).toNat)
 case atStart=>exact⟨0,Nat.zero_le _,rfl,λq h=>by omega,cX.out,Below.refl _ _⟩
 case round=>
  clear cX c6;obtain⟨k,hk,rfl,hP,st,hb⟩:=hrel;have HP:=hid hP;have ST:=hid st;have HB:=hid hb;have c6:wr.cell? ⟨p,6,none⟩=some (.int .i64 (x.g:Int)):=st.a.cell (i:=6) rfl;clear hP st hb
  by_cases hlt:k<x.g
  ·have hlt':(k:Int)<(x.g:Int):=by omega
   go_wp2_with fail;refine(fW HX.out p b off cap ds ino ak pt k 0 hlt (by decide) wr ST.out).mono ?_;rintro e w1 ⟨q0,rfl,hq0,Q9,hb1⟩;have aV:=hid (ST.out.below hb1);have jE:=hid (HB.out.trans (hb1.mono HB.out.size));have Sj:Hid (az w1 q0 4 1 2048 (kr (bt (x.L (x.st k))))):=Q9;clear ST HB c6 hb1 Q9 hq0;go_wp2_with fail;refine(fW HX.out p b off cap ds ino ak pt k 1 hlt (by decide) w1 aV.out).mono ?_;rintro e w2 ⟨q1,rfl,hq1,s6,hb2⟩;have cf:Hid (R3S w p b off cap x ds ino ak pt q0 q1 k w2):=⟨aV.out.below hb2,Sj.out.below hb2,s6,jE.out.trans (hb2.mono jE.out.size)⟩;clear aV jE Sj hb2 s6 hq1;go_wp2_with fail;go_loopw [6] (λu wr=>∃n:Nat,n<=2048/\u= .int .i64 (n:Int)/\(∀m,m<n->x.qR k m=true)/\R3S w p b off cap x ds ino ak pt q0 q1 k wr) (λu _=>2048-(intOf u).toNat)
   case atStart=>exact⟨0,Nat.zero_le _,rfl,λq h=>by omega,cf.out⟩
   case round=>
    clear cf;obtain⟨n,hn,rfl,hQ,st⟩:=hrel;have HQ:=hid hQ;have ST:=hid st;clear hQ st
    by_cases Jt:n<2048
    ·have acX:(n:Int)<2048:=by omega
     have n0:(0:Int)<=(n:Int):=by omega
     have c7:wr.cell? ⟨p,7,none⟩=some (.int .i64 (x.s:Int)):=ST.out.s.a.cell (i:=7) rfl;have c8:wr.cell? ⟨p,8,none⟩=some (.int .i64 (x.i:Int)):=ST.out.s.a.cell (i:=8) rfl;have d0:=fJ ST.out.a Jt;have d1:=fJ ST.out.c Jt;have HF:Hid (x.qR k n= !(((decide (n<2+T)||decide (x.s<=n))&& !bt (x.L (x.st k)) n)||(decide (x.i<=n)&& !bt (x.L (x.st k+1)) n))):=by show _=_;rw[<-En.out];rfl
     have ct:Hid (x.qR k n=false->aD x.qi x.g=false):=λh=>bJ hlt (by rw[<-TO.out k];exact bJ Jt h)
     have gi:Hid (x.qR k n=true->∀m,m<n+1->x.qR k m=true):=λh m hm=>by
      rcases Nat.lt_succ_iff_lt_or_eq.1 hm with h1|h1
      ·exact HQ.out m h1
      ·rw[h1];exact h
     obtain⟨B0,hB0⟩:∃B,B=bt (x.L (x.st k)) n:=⟨_,rfl⟩;obtain⟨B1,vY⟩:∃B,B=bt (x.L (x.st k+1)) n:=⟨_,rfl⟩;rw[<-hB0,<-vY] at HF;rw[<-hB0] at d0;rw[<-vY] at d1;obtain⟨C1,Gh⟩:∃C,C=decide (n<2+T):=⟨_,rfl⟩;obtain⟨C2,Ef⟩:∃C,C=decide (x.s<=n):=⟨_,rfl⟩;obtain⟨C3,Ee⟩:∃C,C=decide (x.i<=n):=⟨_,rfl⟩;rw[<-Gh,<-Ef,<-Ee] at HF;have g1:decide ((n:Int)<2+(T:Int))=C1:=by rw[Gh,decide_eq_decide];omega
     have g2:decide ((x.s:Int)<=(n:Int))=C2:=by rw[Ef,decide_eq_decide];omega
     have g3:decide ((x.i:Int)<=(n:Int))=C3:=by rw[Ee,decide_eq_decide];omega
     have g2':decide (x.s<=n)=C2:=Ef.symm;have g3':decide (x.i<=n)=C3:=Ee.symm;clear hB0 vY Gh Ef Ee;cases C1<;>cases C2<;>cases C3<;>cases B0<;>cases B1
     all_goals
      go_wp2_with fail
      first
      |(go_roundw
        case rel=>(try((repeat apply Exists.intro);refine⟨?_,rfl⟩));exact⟨n+1,by omega,by go_num,gi.out HF.out,ST.out⟩
        case measure=>simp[intOf];omega)
      |(go_ret
        exact⟨by rw[ct.out HF.out];rfl,ST.out.bel⟩)
    ·obtain rfl:n=2048:=by omega
     have HF:Hid (∀q,q<k+1->x.qi q=true):=λq hq=>by
      rcases Nat.lt_succ_iff_lt_or_eq.1 hq with h1|h1
      ·exact HP.out q h1
      ·rw[h1,<-TO.out k];exact(aP _ _).2 HQ.out
     go_wp2_with fail;go_roundw
     case rel=>(try((repeat apply Exists.intro);refine⟨?_,rfl⟩));exact⟨k+1,by omega,by go_num,HF.out,ST.out.s,ST.out.bel⟩
     case measure=>simp[intOf];omega
  ·obtain rfl:k=x.g:=by omega
   go_wp2_with fail;go_ret;exact⟨by rw[(aP _ _).2 HP.out];rfl,HB.out⟩
end Go.Proofs.YtphamecphmbipaaGreatDoor
