/- Texts of this claim, merged. -/
import Derived.Test.YtphamecphmbipaaGreatDoorZ25
set_option linter.unusedVariables false
namespace Go.Proofs.YtphamecphmbipaaGreatDoor
open Go.RowKit
variable {g i s t k N M q p s0 Y o:Nat} {A B:World->Prop} {l:Nat->Bool} {W':World} {z:Nat->Int} {L:Nat->Nat->Int} {m:MS} {P:PlanD} {ys:Nat->aS} {x:Im}
theorem dV.FK{S:Nat->Prop}{a b c:World}(h:dV S a b)(k:az g b c)(hg:a.heap.size<=g):dV S a c:=
 ⟨k.os.trans h.os,k.tape.trans h.tape,k.output.trans h.output,by rw[k.size];exact h.size,λj hj hn=>(k.block j (by omega)).trans (h.block j hj hn)⟩
abbrev ie(x:Im)(o:Nat):Array Value:=#[.int .i64 (x.g:Int),.int .i64 (x.s:Int),.int .i64 (x.i:Int),.int .i64 (x.j:Int),.int .u32 (o:Int)]
structure mX(B M q Y N p s0:Nat)(x:Im)(m:MS)(ys:Nat->aS)(o:Nat)(d:dL)(P:PlanD)(w W:World):Prop where
 h:g9 M q Y N x m ys w W
 bx:At W p 27 (dK x.g x.s x.i x.j d P)
 su:At W s0 47 (ie x o)
 r:iX B d P W
 lp:w.heap.size<=p
 ls:w.heap.size<=s0
 np:¬MY M q Y p
 ns:¬MY M q Y s0
 UY:p≠s0
 nb:∀j,j<B->¬MY M q Y j
 lb:B<=w.heap.size
section
variable {B M q Y N p s0 o:Nat} {x:Im} {m m':MS} {ys ys':Nat->aS} {d:dL} {P:PlanD} {w W W':World}
theorem mX.to(h:mX B M q Y N p s0 x m ys o d P w W)(hs:g9 M q Y N x m' ys' W W'):mX B M q Y N p s0 x m' ys' o d P w W':=
 ⟨⟨hs.p,hs.y,h.h.gr.trans hs.gr⟩,h.bx.pw hs.gr h.np,h.su.pw hs.gr h.ns,h.r.pw hs.gr (Nat.le_trans h.lb h.h.gr.size) h.nb,h.lp,h.ls,h.np,h.ns,h.UY,h.nb,h.lb⟩
theorem mX.self(h:mX B M q Y N p s0 x m ys o d P w W):g9 M q Y N x m ys W W:=⟨h.h.p,h.h.y,.refl _ _⟩
theorem mX.below(h:mX B M q Y N p s0 x m ys o d P w W)(hb:Below W.heap.size W W'):mX B M q Y N p s0 x m ys o d P w W':=h.to (h.self.below hb)
theorem g9.only(h:g9 M q Y N x m ys w W)(k:az g W W')(hg:¬MY M q Y g)(hl:w.heap.size<=g):g9 M q Y N x m ys w W':=by
 obtain⟨f,hf⟩:=h.p.k;exact⟨⟨⟨f,hf.only k λe=>hg (.inl e.symm)⟩,h.p.im.only k λe=>hg (.inr (.inl e.symm))⟩,h.y.only k λe=>hg (.inr (.inr e.symm)),h.gr.FK k hl⟩
theorem mX.only(h:mX B M q Y N p s0 x m ys o d P w W)(k:az g W W')(hg:¬MY M q Y g)(hl:w.heap.size<=g)(Po:g≠p){o':Nat}(hsu:At W' s0 47 (ie x o')):mX B M q Y N p s0 x m ys o' d P w W':=
 ⟨h.h.only k hg hl,h.bx.only k (Ne.symm Po),hsu,h.r.below (k.below (Nat.le_trans h.lb hl)),h.lp,h.ls,h.np,h.ns,h.UY,h.nb,h.lb⟩
theorem mX.UJ(h:mX B M q Y N p s0 x m ys o d P w W)(o':Nat):mX B M q Y N p s0 x m ys o' d P w (W.setCell ⟨s0,4,none⟩ (.int .u32 (o':Int))):=
 h.only (az.setCell W ⟨s0,4,none⟩ _) h.ns h.ls (Ne.symm h.UY) (h.su.setCell 4 (.int .u32 (o':Int)))
theorem g9.Jh(h:g9 M q Y N x m ys w W)(hi:i<N)(v:Int):g9 M q Y N x m (ak ys i {ys i with next:=v}) w (W.setCell ⟨Y,i*16+15,none⟩ (.int .u32 v)):=by
 have ho:=az.setCell W ⟨Y,i*16+15,none⟩ (.int .u32 v);obtain⟨f,hf⟩:=h.p.k;refine⟨⟨⟨f,hf.only ho h.Tu⟩,h.p.im.only ho h.neq⟩,?_,h.gr.trans (.cE ho (.inr (.inr rfl)))⟩;have:=h.y.dO (k:=i) (j:=15) hi (by omega) (λj=>nT ys j) (.int .u32 v);refine this.congr λj hj=> ?_
 unfold vZ ak
 by_cases e:j=i
 ·subst e;rw[if_pos rfl,if_pos rfl];rfl
 rw[if_neg e,if_neg e]
theorem g9.next(h:g9 M q Y N x m ys w W)(hi:i<N):W.cell? ⟨Y,i*16+15,none⟩=some (.int .u32 (ys i).next):=by
 have:=h.y.bQ i hi 15 _ rfl;rwa[Nat.zero_add] at this
end
theorem ud(P:PlanD)(ys:Nat->aS):∀k,(P.jH ys k).last<=k
 |0=>Nat.le_refl _
 |k+1=>by
  have ih:=ud P ys k;show(P.rF k (P.jH ys k)).last<=k+1;unfold PlanD.rF;split
  ·split<;>exact Nat.le_refl _
  omega
structure xn(s t:Nat)(A B:World->Prop)(l:Nat->Bool)(W:World):Prop where
 no:l s=false->A W
 ye:l s=true->B W/\l t=true
theorem xn.mono{W:World}(h:xn s t A B l W)(hA:A W->A W')(hB:B W->B W'):xn s t A B l W':=⟨λe=>hA (h.no e),λe=>⟨hB (h.ye e).1,(h.ye e).2⟩⟩
theorem xn.next{W:World}(h:xn s t A B l W)(hk:k≠s):xn s t A B (λj=>j==k||l j) W:=by
 have e:((s==k)||l s)=l s:=by rw[show(s==k)=false from by simpa using Ne.symm hk,Bool.false_or]
 exact⟨λh'=>h.no (e▸h'),λh'=>⟨(h.ye (e▸h')).1,by show((t==k)||l t)=true;rw[(h.ye (e▸h')).2,Bool.or_true]⟩⟩
theorem xn.lists{l':Nat->Bool}{W:World}(h:xn s t A B l W)(es:l s=l' s)(et:l t=l' t):xn s t A B l' W:=⟨λe=>h.no (es.trans e),λe=>⟨(h.ye (es.trans e)).1,et▸(h.ye (es.trans e)).2⟩⟩
theorem xn.all{C:World->Prop}{W:World}(h:xn s t A B l W)(hA:A W->C W)(hB:B W->C W):C W:=by
 cases e:l s with
 |false=>exact hA (h.no e)
 |true=>exact hB (h.ye e).1
theorem yd(hz:bu z){y:aS}(hy:y.Ok)(a:Int):bu (yf z a y):=by
 unfold yf;split
 ·rename_i h
  unfold nM at h;rw[Bool.and_eq_true,decide_eq_true_eq] at h;have:=aS.uN hy (aS.mK h.2).2.2 14;exact eO hz (λi=>by rw[<-aS.tR];exact this i) _ _
 exact hz
theorem vi(x:Im)(hL:∀b,bu (L b)){ino:Nat->aS}(hi:∀k,k<N->(ino k).Ok):∀k,k<=N->∀b,bu ((PlanD.tab x L ino k).L b)
 |0,_=>hL
 |k+1,hk=>by
  have ih:=vi x hL hi k (by omega);show∀b,bu ((PlanD.xH x ino k (PlanD.tab x L ino k)).L b);unfold PlanD.xH;dsimp only;have h1:∀b,bu (ak (PlanD.tab x L ino k).L (x.ib (k+1)) (yf ((PlanD.tab x L ino k).L (x.ib (k+1))) (x.ia (k+1):Nat) (ino k)) b):=λb=>by
   unfold ak;split
   ·exact yd (ih _) (hi k (by omega)) _
   exact ih b
  split
  ·intro b
   unfold ak;split
   ·exact tP _ _
   exact h1 b
  exact h1
structure P5(M q n p ds m:Nat)(gc:List Value)(f:Nat->List Value)(W:World):Prop where
 c0:W.cell? ⟨M,0,none⟩=some (.slice (some ⟨q,0,none⟩) n n)
 lT:W.rangeAt p 0 gc
 a:aE W ds 67 3 m f
 lM:M<W.heap.size
 lp:p<W.heap.size
theorem P5.below{n ds m:Nat}{gc:List Value}{f:Nat->List Value}{W:World}(h:P5 M q n p ds m gc f W)(hb:Below W.heap.size W W'):P5 M q n p ds m gc f W':=
 ⟨(World.cell?_of_block (w:=W) (a:=⟨M,0,none⟩) (hb.block M h.lM)).trans h.c0,λk v hk=>(World.cell?_of_block (w:=W) (a:=⟨p,0+k,none⟩) (hb.block p h.lp)).trans (h.lT k v hk),h.a.below hb,Nat.lt_of_lt_of_le h.lM hb.size,Nat.lt_of_lt_of_le h.lp hb.size⟩
theorem BG{P:PlanD}(hN:N<=301)(hi:∀k,k<N->(ys k).Ok):∀k,k<=301->∀t,t<N->((P.jH ys k).ino t).Ok
 |0,_=>hi
 |k+1,hk=>by
  have ih:=BG hN hi (P:=P) k (by omega);show∀t,t<N->((P.rF k (P.jH ys k)).ino t).Ok;unfold PlanD.rF;split
  ·split
   ·exact ih
   intro t ht;dsimp only;unfold ak;split
   ·rename_i e
    have h:=ih t ht;rw[e] at h;exact⟨h.kind,h.aQ,h.gen,h.size,h.p,by dsimp only;omega⟩
   exact ih t ht
  exact ih
abbrev Ey(f e n:Nat->Int)(k:Nat):List Value:=[.int .i64 (f k),.int .i64 (e k),.int .i64 (n k)]
structure iF(B M q Y N p s0 ds:Nat)(x:Im)(m:MS)(ys:Nat->aS)(o:Nat)(d:dL)(P:PlanD)(f e n:Nat->Int)(w W:World):Prop where
 s:mX B M q Y N p s0 x m ys o d P w W
 a:aE W ds 67 3 x.g (Ey f e n)
 nd:¬MY M q Y ds
 Ly:ds≠p
 Lx:ds≠s0
 ld:w.heap.size<=ds
section
variable {B M q Y N p s0 ds o:Nat} {x:Im} {m m':MS} {ys ys':Nat->aS} {d:dL} {P:PlanD} {f e n:Nat->Int} {w W W':World}
theorem iF.to(h:iF B M q Y N p s0 ds x m ys o d P f e n w W)(hs:g9 M q Y N x m' ys' W W'):iF B M q Y N p s0 ds x m' ys' o d P f e n w W':=
 ⟨h.s.to hs,h.a.pw hs.gr h.nd,h.nd,h.Ly,h.Lx,h.ld⟩
theorem iF.self(h:iF B M q Y N p s0 ds x m ys o d P f e n w W):g9 M q Y N x m ys W W:=h.s.self
theorem iF.below(h:iF B M q Y N p s0 ds x m ys o d P f e n w W)(hb:Below W.heap.size W W'):iF B M q Y N p s0 ds x m ys o d P f e n w W':=h.to (h.self.below hb)
theorem iF.nR(h:iF B M q Y N p s0 ds x m ys o d P f e n w W)(ht:t<N):W.rangeAt Y (t*16) (ys t).arr.toList:=by
 have:=h.s.h.y.bQ.range t ht;rwa[Nat.zero_add] at this
theorem iF.mR(h:iF B M q Y N p s0 ds x m ys o d P f e n w W)(ht:t<x.g):W.cell? ⟨ds,t*3+2,none⟩=some (.int .i64 (n t)):=by
 have:=h.a.bQ t ht 2 _ rfl;rwa[Nat.zero_add] at this
theorem iF.US(h:iF B M q Y N p s0 ds x m ys o d P f e n w W)(ht:t<x.g)(v:Int):iF B M q Y N p s0 ds x m ys o d P f e (ak n t v) w (W.setCell ⟨ds,t*3+2,none⟩ (.int .i64 v)):=by
 have ho:=az.setCell W ⟨ds,t*3+2,none⟩ (.int .i64 v);refine⟨h.s.only ho h.nd h.ld h.Ly (h.s.su.only ho (Ne.symm h.Lx)),?_,h.nd,h.Ly,h.Lx,h.ld⟩;refine(h.a.dO (k:=t) (j:=2) ht (by omega) (λj=>rfl) (.int .i64 v)).congr λj hj=> ?_
 by_cases e':j=t
 ·subst e';simp[ak,Ey]
 simp[ak,Ey,e']
theorem iF.UQ(h:iF B M q Y N p s0 ds x m ys o d P f e n w W)(ht:t<x.g)(v:Int):iF B M q Y N p s0 ds x m ys o d P (ak f t v) e n w (W.setCell ⟨ds,t*3,none⟩ (.int .i64 v)):=by
 have ho:=az.setCell W ⟨ds,t*3,none⟩ (.int .i64 v);refine⟨h.s.only ho h.nd h.ld h.Ly (h.s.su.only ho (Ne.symm h.Lx)),?_,h.nd,h.Ly,h.Lx,h.ld⟩;refine(h.a.dO (k:=t) (j:=0) ht (by omega) (λj=>rfl) (.int .i64 v)).congr λj hj=> ?_
 by_cases e':j=t
 ·subst e';simp[ak,Ey]
 simp[ak,Ey,e']
theorem iF.UR(h:iF B M q Y N p s0 ds x m ys o d P f e n w W)(ht:t<x.g)(v:Int):iF B M q Y N p s0 ds x m ys o d P f (ak e t v) n w (W.setCell ⟨ds,t*3+1,none⟩ (.int .i64 v)):=by
 have ho:=az.setCell W ⟨ds,t*3+1,none⟩ (.int .i64 v);refine⟨h.s.only ho h.nd h.ld h.Ly (h.s.su.only ho (Ne.symm h.Lx)),?_,h.nd,h.Ly,h.Lx,h.ld⟩;refine(h.a.dO (k:=t) (j:=1) ht (by omega) (λj=>rfl) (.int .i64 v)).congr λj hj=> ?_
 by_cases e':j=t
 ·subst e';simp[ak,Ey]
 simp[ak,Ey,e']
theorem iF.c1(h:iF B M q Y N p s0 ds x m ys o d P f e n w W)(ht:t<x.g):W.cell? ⟨ds,t*3,none⟩=some (.int .i64 (f t))/\W.cell? ⟨ds,t*3+1,none⟩=some (.int .i64 (e t)):=by
 have h0:=h.a.bQ t ht 0 _ rfl;have h1:=h.a.bQ t ht 1 _ rfl;rw[Nat.zero_add] at h0 h1;exact⟨h0,h1⟩
theorem iF.congr{f' e':Nat->Int}(h:iF B M q Y N p s0 ds x m ys o d P f e n w W)(hf:∀j,j<x.g->f j=f' j)(he:∀j,j<x.g->e j=e' j):iF B M q Y N p s0 ds x m ys o d P f' e' n w W:=
 ⟨h.s,h.a.congr λj hj=>by unfold Ey;rw[hf j hj,he j hj],h.nd,h.Ly,h.Lx,h.ld⟩
theorem iF.lT(h:iF B M q Y N p s0 ds x m ys o d P f e n w W):W.rangeAt p 0 (ai x.g x.s x.i x.j).toList:=λk v hk=>by
 match k,hk with
 |0,hk=>injection hk with hk;subst hk;exact h.s.bx.cell (i:=0) rfl
 |1,hk=>injection hk with hk;subst hk;exact h.s.bx.cell (i:=1) rfl
 |2,hk=>injection hk with hk;subst hk;exact h.s.bx.cell (i:=2) rfl
 |3,hk=>injection hk with hk;subst hk;exact h.s.bx.cell (i:=3) rfl
 |k+4,hk=>cases hk
end
theorem Lh(x:Im)(L:Nat->Nat->Int)(ino:Nat->aS):∀k g,0<=(PlanD.tab x L ino k).d g/\(PlanD.tab x L ino k).d g<=k
 |0,_=>⟨Int.le_refl _,Int.le_refl _⟩
 |k+1,g=>by
  have ih:=Lh x L ino k;show 0<=(PlanD.xH x ino k (PlanD.tab x L ino k)).d g/\(PlanD.xH x ino k (PlanD.tab x L ino k)).d g<=_;unfold PlanD.xH;dsimp only;split
  ·unfold ak
   split
   ·have:=ih (k/x.i);omega
   have:=ih g;omega
  have:=ih g;omega
def lZ(g:Nat->Int)(t j:Nat):Int:=if j<t then g j else 0
theorem yU(g:Nat->Int)(t:Nat):ak (lZ g t) t (g t)=lZ g (t+1):=by
 funext j
 unfold ak lZ
 by_cases e:j=t
 ·subst e;rw[if_pos rfl,if_pos (by omega)]
 rw[if_neg e]
 by_cases h:j<t
 ·rw[if_pos h,if_pos (by omega)]
 rw[if_neg h,if_neg (by omega)]
structure P6(M q n s0:Nat)(su:Array Value)(W:World):Prop where
 c0:W.cell? ⟨M,0,none⟩=some (.slice (some ⟨q,0,none⟩) n n)
 su:At W s0 47 su
 lM:M<W.heap.size
theorem P6.below{n:Nat}{su:Array Value}{W:World}(h:P6 M q n s0 su W)(hb:Below W.heap.size W W'):P6 M q n s0 su W':=
 ⟨(World.cell?_of_block (w:=W) (a:=⟨M,0,none⟩) (hb.block M h.lM)).trans h.c0,h.su.below hb h.su.lt,Nat.lt_of_lt_of_le h.lM hb.size⟩
theorem jy.lM{W:World}(h:jy M q x m W):M<W.heap.size:=by obtain⟨f,hf⟩:=h.k;exact hf.lt
theorem FI(P:PlanD)(ys:Nat->aS):∀k,(P.jH ys k).o<=k+1
 |0=>Nat.zero_le _
 |k+1=>by
  have ih:=FI P ys k;show(P.rF k (P.jH ys k)).o<=k+2;unfold PlanD.rF;split
  ·split
   ·exact Nat.le_refl _
   dsimp only;omega
  omega
structure Yw(M q n Y t:Nat)(y:aS)(W:World):Prop where
 c0:W.cell? ⟨M,0,none⟩=some (.slice (some ⟨q,0,none⟩) n n)
 rg:W.rangeAt Y (t*16) y.arr.toList
def Sj(Y q b a t N:Nat)(y z:Nat->Int)(E:Int)(ia:Value)(f:Prop)(k:Nat)(v:Value):Prop:=
 if k=11 then v=aR y else if k=12 then v= .int .i64 (a:Int) else if k=13 then v= .slice (some ⟨Y,0,none⟩) N N else if k=14 then v= .int .i64 (t:Int)
 else if k=15 then v= .pointer (some ⟨Y,0+t*16,none⟩) else if k=16 then v=ia
 else if k=17\/k=18 then v= .tuple #[aR z,.int .i64 E]/\f
 else if k=19 then v=aR z/\f
 else if k=20 then v= .int .i64 E
 else if k=21 then v= .pointer (some ⟨q,0+b*256,none⟩) else v=undef
theorem Sj.up{b a:Nat}{y:Nat->Int}{E:Int}{ia:Value}{f f':Prop}{v:Value}(h:Sj Y q b a t N y z E ia f k v)(hl:f->f'):Sj Y q b a t N y z E ia f' k v:=by
 unfold Sj at h ⊢
 by_cases h1:k=11
 ·rwa[if_pos h1] at h ⊢
 rw[if_neg h1] at h ⊢
 by_cases h2:k=12
 ·rwa[if_pos h2] at h ⊢
 rw[if_neg h2] at h ⊢
 by_cases h3:k=13
 ·rwa[if_pos h3] at h ⊢
 rw[if_neg h3] at h ⊢
 by_cases h4:k=14
 ·rwa[if_pos h4] at h ⊢
 rw[if_neg h4] at h ⊢
 by_cases h5:k=15
 ·rwa[if_pos h5] at h ⊢
 rw[if_neg h5] at h ⊢
 by_cases h6:k=16
 ·rwa[if_pos h6] at h ⊢
 rw[if_neg h6] at h ⊢
 by_cases h7:k=17\/k=18
 ·rw[if_pos h7] at h ⊢;exact⟨h.1,hl h.2⟩
 rw[if_neg h7] at h ⊢
 by_cases h8:k=19
 ·rw[if_pos h8] at h ⊢;exact⟨h.1,hl h.2⟩
 rw[if_neg h8] at h ⊢;exact h
def PlanD.pQ(P:PlanD)(x:Im)(L:Nat->Nat->Int)(ino:Nat->aS)(n:Nat):Nat->Nat->Int:=
 let s:=P.jH ino n
 let t:=PlanD.tab x L s.ino (n+1)
 let L:=PlanD.pk (P.tC x.n) P.nc (PlanD.mN x s.o t)
 if P.sums then PlanD.qP 1 (PlanD.qP 0 L) else L
theorem mX.Qw{B:Nat}{d:dL}{w W:World}(h:mX B M q Y N p s0 x m ys o d P w W):∀j,MY M q Y j->j<W.heap.size:=λj hj=>by
 rcases hj with rfl|rfl|rfl
 ·obtain⟨f,hf⟩:=h.h.p.k;exact hf.lt
 ·exact h.h.p.im.lt
 exact h.h.y.lt
structure tI(B M q Y N p s0 c:Nat)(x:Im)(m:MS)(ys:Nat->aS)(o:Nat)(d:dL)(P:PlanD)(t:Nat)(w W:World):Prop where
 s:mX B M q Y N p s0 x m ys o d P w W
 a:At W c 149 #[.int .i64 (P.cb t),.int .i64 (P.ca t),.int .u8 (P.co t)]
 nc:¬MY M q Y c
section
variable {B M q Y N p s0 c o t:Nat} {x:Im} {m m':MS} {ys ys':Nat->aS} {d:dL} {P:PlanD} {w W W':World}
theorem tI.to(h:tI B M q Y N p s0 c x m ys o d P t w W)(hs:g9 M q Y N x m' ys' W W'):tI B M q Y N p s0 c x m' ys' o d P t w W':=⟨h.s.to hs,h.a.pw hs.gr h.nc,h.nc⟩
theorem tI.below(h:tI B M q Y N p s0 c x m ys o d P t w W)(hb:Below W.heap.size W W'):tI B M q Y N p s0 c x m ys o d P t w W':=h.to (h.s.self.below hb)
theorem mX.chg(h:mX B M q Y N p s0 x m ys o d P w W){cs:Array Value}(ha:At W' W.heap.size 149 #[.int .i64 (P.cb t),.int .i64 (P.ca t),.int .u8 (P.co t)])(k:az W.heap.size (W.alloc (.cells cs 149)) W'):tI B M q Y N p s0 W.heap.size x m ys o d P t w W':=by
 have h1:=h.below (W':=W.alloc (.cells cs 149)) (ag.alloc af _);have hn:¬MY M q Y W.heap.size:=λe=>Nat.lt_irrefl _ (h.Qw _ e)
 have e1:W.heap.size≠p:=by have:=h.bx.lt;omega
 have e2:s0≠W.heap.size:=by have:=h.su.lt;omega
 exact⟨h1.only k hn h.h.gr.size e1 (h1.su.only k e2),ha,hn⟩
end
theorem Gb(a b c:Value):(Tryz.prog.info? 149).map (·.size)=some (#[a,b,c]:Array Value).size:=by kernel_rfl
theorem Jp(a b c:Int):(#[.int .i64 a,.int .i64 b,.int .u8 c]:Array Value).all (·.oneCell')=true:=by kernel_rfl
theorem pM(g o k:Nat)(L:Int)(hL:L=(k:Int))(h3:k<=256)(W:World):
  (Instr.sliceAt 32 (.pointer (some ⟨g,o,none⟩)) none (some (.int .i64 L)) none).run Tryz.prog W= .ok (.slice (some ⟨g,o,none⟩) k 256) W:=by
 subst hL;have hal:Tryz.prog.arrayLen 32=256:=by kernel_rfl
 have hsz:∀W,(Go.sizeOf (Tryz.prog.elem 32)).run Tryz.prog W= .ok 1 W:=λW=>by kernel_rfl
 rw[run_sliceAt_array_h W 32 _ (by kernel_rfl) .i64 (k:Int) (by omega) (by rw[hal];omega),hsz,hal];simp only[Result.andThen,slicedAt,Int.toNat_natCast,Nat.mul_one]
 rfl
theorem MZ(v:Int):(-255<=v.tmod 256/\v.tmod 256<=255)/\(v.tmod 256+256).tmod 256=(((v%256).toNat:Nat):Int):=by
 by_cases h:0<=v
 ·have e:v.tmod 256=v%256:=Int.tmod_eq_emod_of_nonneg h
  rw[e,Int.tmod_eq_emod_of_nonneg (by omega)];omega
 have e:v.tmod 256= -((-v)%256):=by
  rw[<-Int.tmod_eq_emod_of_nonneg (by omega:0<= -v),Int.neg_tmod,Int.neg_neg]
 rw[e,Int.tmod_eq_emod_of_nonneg (by omega)];omega
theorem AS{t:PlanD.TS}(h:∀b,bu (t.L b)):∀b,bu (PlanD.mN x o t b):=λb=>by
 unfold PlanD.mN ak;split
 ·exact uH _ _ _ _ _ _ _ _
 split
 ·exact xI _ _ _ _ _
 exact h b
theorem Cd(hB:P.Bd){n:Nat}(h:∀b,bu (L b)):∀k b,bu (PlanD.pk (P.tC n) k L b)
 |0,b=>h b
 |k+1,b=>by
  have ih:=Cd hB h (n:=n) k;show bu (P.tC n k (PlanD.pk (P.tC n) k L) b);unfold PlanD.tC;split
  ·unfold ak
   split
   ·refine eO (ih _) (λi=> ?_) _ _
    have h1:=ih (P.cb k).toNat (P.ca k%256).toNat;have h2:=hB.co k;have:=Nat.xor_lt_two_pow (n:=8) (x:=((PlanD.pk (P.tC n) k L) (P.cb k).toNat (P.ca k%256).toNat).toNat) (y:=(P.co k).toNat) (by omega) (by omega);exact⟨Int.natCast_nonneg _,Int.ofNat_lt.2 this⟩
   exact ih b
  exact ih b
theorem I1(h:∀b,bu (L b)):∀b,bu (PlanD.qP k L b):=λb=>by
 unfold PlanD.qP ak;split
 ·exact oC (h k)
 exact h b
set_option maxRecDepth 100000 in
set_option maxHeartbeats 16000000 in
theorem Dn(B M q Y N:Nat)(x:Im)(hx:x.Ok)(m:MS)(ys:Nat->aS)(hm:∀b,bu (m.L b))(hY:∀k,k<N->(ys k).Ok)(RF:1<=N)(hN:N<=x.ni)(d:dL)(P:PlanD)(hB:P.Bd)(hS:P.Small)(hNP:N<=P.nf+1)
  (w:World) (hs:g9 M q Y N x m ys w w) (hP:iX B d P w) (hBw:B<=w.heap.size) (Pk:∀j,j<B->¬MY M q Y j) (LV:∀j,MY M q Y j->j<w.heap.size):
  Calls Tryz.prog 30 #[.pointer (some ⟨M,0,none⟩),tZ x.g x.s x.i x.j d P,.slice (some ⟨Y,0,none⟩) N N] w λe w'=>
   e= .returned (.slice (some ⟨q,0,none⟩) x.n x.n)/\(∀b,bu (P.pQ x m.L ys (N-1) b))/\g9 M q Y N x {m with L:=P.pQ x m.L ys (N-1)} (P.jH ys (N-1)).ino w w':=by
 have dt:Hd (mX B M q Y N w.heap.size (w.heap.size+1) x m ys 0 d P w ((w.alloc (.cells (dK x.g x.s x.i x.j d P) 27)).alloc (.cells (ie x 0) 47))):=by
  have hb:Below w.heap.size w (w.alloc (.cells (dK x.g x.s x.i x.j d P) 27)):=ag.alloc af _;have hb2:Below w.heap.size w ((w.alloc (.cells (dK x.g x.s x.i x.j d P) 27)).alloc (.cells (ie x 0) 47)):=hb.alloc (by simp) _;refine⟨hs.below hb2,(At.new w _ (dK x.g x.s x.i x.j d P)).alloc _,?_,hP.below (hb2.mono hBw),Nat.le_refl _,by omega,λe=>Nat.lt_irrefl _ (LV _ e),λe=>by have:=LV _ e;omega,by omega,Pk,hBw⟩;have:=At.new (w.alloc (.cells (dK x.g x.s x.i x.j d P) 27)) 47 (ie x 0);simpa using this
 have HX:=ah hx;have xu:=ah hB;have xr:=ah hS;have HM:=ah hm;have HYO:=ah hY;clear hx hB hS hs hP LV Pk hm hY;go_enter Tryz.func30,Tryz.ntmps30;go_wp2_with fail;obtain⟨N',rfl⟩:∃N',N=N'+1:=⟨N-1,by omega⟩;have Px:N'+1<=301:=by
  have:=xr.Z.nf;omega
 go_loopw [8,9] (λu v wr=>∃k:Nat,k<=N'/\u= .int .i64 ((P.jH ys k).last:Int)/\v= .int .i64 ((k:Int)+1)/\mX B M q Y (N'+1) w.heap.size (w.heap.size+1) x m (P.jH ys k).ino (P.jH ys k).o d P w wr) (λ_ v _=>N'+2-(intOf v).toNat)
 case atStart=>exact⟨0,Nat.zero_le _,rfl,rfl,dt.Z⟩
 clear dt;obtain⟨k,hk,rfl,rfl,st⟩:=hrel;have hlast:=ud P ys k;have SP:Hd (P.jH ys (k+1)=P.rF k (P.jH ys k)):=rfl;obtain⟨OS,Pw⟩:=aa (P.jH ys k);rw[<-Pw] at hlast SP st ⊢;have ST:=ah st;clear st
 by_cases hlt:k<N'
 ·have hlt':(k:Int)+1<(N':Int)+1:=by omega
  have DM:k<P.nf:=by omega
  have We:(k:Int)<(P.nf:Int):=by omega
  have JQ:=xr.Z.nf;have c4:wr.cell? ⟨w.heap.size,4,none⟩=some (.slice d.fa P.nf d.fc):=ST.Z.bx.cell (i:=4) rfl;obtain⟨fb,fo,tq,co⟩:=ST.Z.r.f.cell (j:=4) DM rfl;rw[tq] at c4;obtain⟨bo,NZ⟩:=aa ((P.f k).ay);rw[<-NZ] at co;obtain⟨la,BV⟩:=aa OS.last;rw[<-BV] at hlast ⊢;have su4:wr.cell? ⟨w.heap.size+1,4,none⟩=some (.int .u32 (OS.o:Int)):=ST.Z.su.cell (i:=4) rfl;have sf4:wr.frozen? ⟨w.heap.size+1,4,none⟩=false:=an ST.Z.su 4;have Rd:la<N'+1:=by omega
  have Zn:(la:Int)<(N':Int)+1:=by omega
  have nx:=ST.Z.h.next Rd
  have nf:=ST.Z.h.y.soft (la*16+15);have Ul:=ah BV;clear tq Pw BV;cases bo with
  |false=>
   have Mn:Hd (P.jH ys (k+1)=OS):=by show _=_;rw[SP.Z,PlanD.rF,<-NZ];rfl
   clear NZ;go_wp2_with fail;go_roundw
   case rel=>exact⟨k+1,by omega,by rw[Mn.Z,Ul.Z],by go_num,by rw[Mn.Z];exact ST.Z⟩
   simp[intOf];omega
  |true=>
   by_cases NM:la=0
   ·have Mn:Hd (P.jH ys (k+1)=⟨k+2,k+1,OS.ino⟩):=by show _=_;rw[SP.Z,PlanD.rF,<-NZ,if_pos rfl,if_pos (by rw[<-Ul.Z,NM])]
    subst NM;have bh:=ah (ST.Z.UJ (k+2));clear NZ;go_wp2_with fail;go_roundw
    case rel=>exact⟨k+1,by omega,by rw[Mn.Z];go_num,by go_num,by rw[Mn.Z];exact bh.Z⟩
    simp[intOf];omega
   have Mn:Hd (P.jH ys (k+1)=⟨OS.o,k+1,ak OS.ino la {OS.ino la with next:=((k+2:Nat):Int)}⟩):=by show _=_;rw[SP.Z,PlanD.rF,<-NZ,if_pos rfl,if_neg (by rw[<-Ul.Z];exact NM),Ul.Z]
   have bh:=ah (ST.Z.to (ST.Z.self.Jh Rd ((k+2:Nat):Int)));have q1:((la:Int)==0)=false:=by simp;omega
   clear NZ;go_wp2_with fail;go_roundw
   case rel=>exact⟨k+1,by omega,by rw[Mn.Z];go_num,by go_num,by rw[Mn.Z];exact bh.Z⟩
   simp[intOf];omega
 obtain rfl:k=N':=by omega
 have c0:wr.cell? ⟨w.heap.size,0,none⟩=some (.int .i64 (x.g:Int)):=ST.Z.bx.cell (i:=0) rfl;obtain⟨h1,h2,h3,h4,h5,h6,h7,h8,h9,h10,h11⟩:=dX HX.Z.may;have hmk:=λW=>dx (P:=Tryz.prog) 51 67 (kF 0 0 0) 3 24 Tryz.underlying51 ka .i64 .i64 x.g (by omega) (by omega) W
 clear h1 h2 h3 h4 h5 h6 h7 h8 h9 h10 h11 SP hlast hlt hk;have uW:=ah (aE.made (m:=3) wr (gV 0 0 0) rfl (by omega) x.g 67);have bh:Hd (mX B M q Y (k+1) w.heap.size (w.heap.size+1) x m OS.ino OS.o d P w (wr.alloc (.cells (madeCells (kF 0 0 0).cells (x.g*3)) 67))):=ST.Z.below (ag.alloc af _);have tl:w.heap.size+1<wr.heap.size/\∀j,MY M q Y j->j<wr.heap.size:=⟨ST.Z.su.lt,λj hj=>by
  rcases hj with rfl|rfl|rfl
  ·obtain⟨f,hf⟩:=ST.Z.h.p.k;exact hf.lt
  ·exact ST.Z.h.p.im.lt
  exact ST.Z.h.y.lt⟩
 have m7:Hd (∀t,t<k+1->(OS.ino t).Ok):=by rw[Pw];exact BG Px HYO.Z k (by omega)
 have HOO:Hd (0<=((OS.o:Nat):Int)/\((OS.o:Nat):Int)<4294967296):=by
  have:=FI P ys k;rw[<-Pw] at this;exact⟨by omega,by omega⟩
 have OP:=ah Pw;clear Pw;clear ST;go_wp2_with fail;obtain⟨ds,hds⟩:=ae wr.heap.size;rw[hds] at uW tl ⊢;have bW:Hd (iF B M q Y (k+1) w.heap.size (w.heap.size+1) ds x m OS.ino OS.o d P (λ_=>0) (λ_=>0) (λ_=>0) w (wr.alloc (.cells (madeCells (kF 0 0 0).cells (x.g*3)) 67))):=
  ⟨bh.Z,uW.Z.congr λi _=>rfl,λh=>Nat.lt_irrefl _ (tl.2 _ h),by omega,by omega,by omega⟩
 clear uW hmk hds bh tl c0;go_loopw [11,12,13,14,15,16,17] (λu _ _ _ _ _ _ wr=>∃t:Nat,t<=k+1/\u= .int .i64 (t:Int)/\iF B M q Y (k+1) w.heap.size (w.heap.size+1) ds x {m with L:=(PlanD.tab x m.L OS.ino t).L} OS.ino OS.o d P (λ_=>0) (λ_=>0) (PlanD.tab x m.L OS.ino t).d w wr) (λu _ _ _ _ _ _ _=>k+1-(intOf u).toNat)
 case atStart=>exact⟨0,Nat.zero_le _,rfl,bW.Z⟩
 clear bW;obtain⟨t,ht,rfl,st⟩:=hrel;have ST:=ah st;have IB:Hd (PlanD.tab x m.L OS.ino (t+1)=PlanD.xH x OS.ino t (PlanD.tab x m.L OS.ino t)):=rfl;have zQ:Hd (∀b,bu ((PlanD.tab x m.L OS.ino t).L b)):=vi x HM.Z m7.Z t ht;have Yn:t+1<=k+1->Hd (∀b,bu ((PlanD.tab x m.L OS.ino (t+1)).L b)):=λh=>vi x HM.Z m7.Z (t+1) h
 have Mr:Hd (∀g,0<=(PlanD.tab x m.L OS.ino t).d g/\(PlanD.tab x m.L OS.ino t).d g<=t):=Lh x m.L OS.ino t;obtain⟨T,hT⟩:=aa (PlanD.tab x m.L OS.ino t);have EF:=ah hT;rw[<-hT] at ST IB zQ Mr;clear st hT
 by_cases hlt:t<k+1
 ·have hlt':(t:Int)<(k:Int)+1:=by omega
  have hrg:=ST.Z.lT;obtain⟨γ,hγ⟩:=aa (t/x.i);obtain⟨r,hr⟩:=aa (t%x.i);obtain⟨h1,h2,h3,h4,h5,h6,h7,h8,h9,h10,h11⟩:=dX HX.Z.may;have hti:t=γ*x.i+r:=by rw[hγ,hr,Nat.mul_comm];exact(Nat.div_add_mod t x.i).symm
  have Pf:r<x.i:=by rw[hr];exact Nat.mod_lt _ (by omega)
  have Pe:γ<x.g:=by
   rw[hγ];refine(Nat.div_lt_iff_lt_mul (by omega)).2 ?_;have:t<x.ni:=by omega
   exact this
  have hib:x.ib (t+1)=2+x.j+γ*x.s+(2+r/4):=by unfold Im.ib Im.st;rw[Nat.add_sub_cancel,<-hγ,<-hr];omega
  have Rl:x.ia (t+1)=64*(r%4):=by unfold Im.ia;rw[Nat.add_sub_cancel,<-hr];omega
  have HHO:Hd (∀W,Calls Tryz.prog 66 #[bV x.g x.s x.i x.j,.int .i64 ((t:Int)+1)] W λe w'=>e= .returned (.tuple #[.int .i64 (γ:Int),.int .i64 (r:Int),.bool true])/\Below W.heap.size W w'):=λW=>by
   have:=Ao x.g x.s x.i x.j γ r HX.Z.may Pe Pf W;rwa[show((1+γ*x.i+r:Nat):Int)=(t:Int)+1 by rw[hti];push_cast;omega] at this
  have xe:Hd (∀W,Calls Tryz.prog 67 #[bV x.g x.s x.i x.j,.int .i64 ((t:Int)+1)] W λe w'=>e= .returned (.tuple #[.int .i64 ((x.ib (t+1):Nat):Int),.int .i64 ((x.ia (t+1):Nat):Int),.bool true])/\Below W.heap.size W w'):=λW=>by
   have:=pf x.g x.s x.i x.j γ r HX.Z.may Pe Pf W;rwa[show((1+γ*x.i+r:Nat):Int)=(t:Int)+1 by rw[hti];push_cast;omega,<-hib,<-Rl] at this
  have ll:x.ib (t+1)<x.n:=by
   have:=HX.Z.st Pe (d:=2+r/4) (by omega);unfold Im.st at this;omega
  have Wl:x.ia (t+1)<=192:=by omega
  have acQ:t<=301:=by omega
  clear h1 h2 h3 h4 h5 h6 h7 h8 h9 h10 h11 hib Rl;obtain⟨b,hb⟩:=aa (x.ib (t+1));obtain⟨a,ha⟩:=aa (x.ia (t+1));rw[<-hb] at xe ll;rw[<-ha] at xe Wl;have II:=ah (And.intro hb ha);have Ho:=ah (And.intro hγ hr);clear hb ha hγ hr hti;go_wp2_with (first|(refine aH rfl 23 (.tmp 66) rfl w.heap.size 0 (ai x.g x.s x.i x.j).toList _ rfl hrg Tryz.underlying23 rfl (by kernel_rfl) ?_))
  refine(HHO.Z _).mono ?_;rintro e w1 ⟨rfl,hb1⟩;have bh:=ah (ST.Z.below hb1);clear ST hb1 hrg HHO;have hrg:=bh.Z.lT;go_wp2_with (first|(refine aH rfl 23 (.tmp 75) rfl w.heap.size 0 (ai x.g x.s x.i x.j).toList _ rfl hrg Tryz.underlying23 rfl (by kernel_rfl) ?_))
  refine(xe.Z _).mono ?_;rintro e w2 ⟨rfl,hb2⟩;have bW:=ah (bh.Z.below hb2);clear bh hb2 hrg xe;go_wp2_with fail;obtain⟨z,hz⟩:=aa (yf (T.L b) (a:Int) (OS.ino t));obtain⟨E,hE⟩:=aa (j3 (a:Int) (OS.ino t));have zu:Hd (∀W,Calls Tryz.prog 63 #[aR (T.L b),.int .i64 (a:Int),(OS.ino t).val] W λe w'=>e= .returned (.tuple #[aR z,.int .i64 E])/\Below W.heap.size W w'):=λW=>by
   rw[hz,hE];exact Fi (T.L b) (zQ.Z b) (a:Int) (OS.ino t) (m7.Z t hlt) W
  have HZ:=ah hz;clear hz hE;have Ry:(b:Int)<(x.n:Int):=by omega
  apply Vp.bG 11 (λl kk v W=>Sj Y q b a t (k+1) (T.L b) z E (OS.ino t).val (l 11=true) kk v) (λl W=>xn 22 11 (iF B M q Y (k+1) w.heap.size (w.heap.size+1) ds x {m with L:=T.L} OS.ino OS.o d P (λ_=>0) (λ_=>0) T.d w) (iF B M q Y (k+1) w.heap.size (w.heap.size+1) ds x {m with L:=ak T.L b z} OS.ino OS.o d P (λ_=>0) (λ_=>0) T.d w) l W) (Yw M q x.n Y t (OS.ino t))
  case hm=>kernel_rfl
  case hd=>kernel_rfl
  case hpre=>kernel_rfl
  case hB=>kernel_rfl
  case hVl=>exactλl l' he i v W h=>h.up λe=>by rw[<-he 11 (by decide) (by decide)];exact e
  case hS=>exactλl l' W he h=>h.lists (he 22 (by decide) (by decide)) (he 11 (by decide) (by decide))
  case hSC=>exactλl W h=>xn.all (C:=Yw M q x.n Y t (OS.ino t)) h (λh=>⟨h.s.h.p.c0,h.nR hlt⟩) (λh=>⟨h.s.h.p.c0,h.nR hlt⟩)
  case hVb=>exactλl i v W W' h hb=>h
  case hSb=>exactλl W W' h hb _=>h.mono (λh=>h.below hb) (λh=>h.below hb)
  case h0=>exact⟨λ_=>bW.Z.below ⟨rfl,rfl,rfl,Nat.le_refl _,λ_ _=>rfl⟩,λe=>by cases e⟩
  case hwalk=>
   simp only[List.take];intro R hR hne;have hc0:∀y:a9 (λW=>Yw M q x.n Y t (OS.ino t) W/\R W),y.W.cell? ⟨M,0,none⟩=some (.slice (some ⟨q,0,none⟩) x.n x.n):=λy=>y.h.1.c0
   repeat go_big_quiet_step (fail)
   exact wpQuiet_nil rfl
  case hst=>
   simp only[List.drop];refine⟨?_,?_,?_,?_,?_,?_,?_,?_,?_,?_,?_,?_,trivial⟩
   ·intro l ac W hl hu h
    have e1:ac.tmps.getD 94 undef= .pointer (some ⟨q,b*256,none⟩):=((h.vals 10 94 (aq hu 10) rfl).pre (by decide) rfl).trans (by rfl);have hs:iF B M q Y (k+1) w.heap.size (w.heap.size+1) ds x {m with L:=T.L} OS.ino OS.o d P (λ_=>0) (λ_=>0) T.d w W:=by
     cases e:l 22 with
     |false=>exact h.st.no e
     |true=>have:=(h.st.ye e).2;rw[hl] at this;cases this
    have hr:=hs.s.h.p.im.bQ.range b ll;rw[Nat.zero_add] at hr;exact Vm.aJ h (by kernel_rfl) rfl rfl rfl hl _ (Vl.jc 32 (.tmp 94) rfl q (b*256) (dR T.L b) _ e1 hr Tryz.underlying32 rfl (by rw[aZ];exact aA)) (λ_ _ hv=>hv.up λ_ hv=>hv.up λe=>rfl) (Vp.W.mk rfl) (λs=>s.next (by decide))
   ·intro l ac W hl hu h
    have e3:ac.tmps.getD 16 undef= .int .i64 (a:Int):=h.old 16 (by kernel_rfl);exact Vm.aJ h (by kernel_rfl) rfl rfl rfl hl _ (Vl.br (.tmp 16) rfl e3) (λ_ _ hv=>hv.up λ_ hv=>hv.up λe=>by show((11==12)||l 11)=true;rw[e];rfl) (Vp.W.mk rfl) (λs=>s.next (by decide))
   ·intro l ac W hl hu h
    have e3:ac.tmps.getD 2 undef= .slice (some ⟨Y,0,none⟩) (k+1) (k+1):=h.old 2 (by kernel_rfl);exact Vm.aJ h (by kernel_rfl) rfl rfl rfl hl _ (Vl.br (.tmp 2) rfl e3) (λ_ _ hv=>hv.up λ_ hv=>hv.up λe=>by show((11==13)||l 11)=true;rw[e];rfl) (Vp.W.mk rfl) (λs=>s.next (by decide))
   ·intro l ac W hl hu h
    have e3:ac.tmps.getD 11 undef= .int .i64 (t:Int):=h.old 11 (by kernel_rfl);exact Vm.aJ h (by kernel_rfl) rfl rfl rfl hl _ (Vl.br (.tmp 11) rfl e3) (λ_ _ hv=>hv.up λ_ hv=>hv.up λe=>by show((11==14)||l 11)=true;rw[e];rfl) (Vp.W.mk rfl) (λs=>s.next (by decide))
   ·intro l ac W hl hu h
    have e1:ac.tmps.getD 97 undef= .slice (some ⟨Y,0,none⟩) (k+1) (k+1):=(h.vals 13 97 (aq hu 13) rfl).post;have e2:ac.tmps.getD 98 undef= .int .i64 (t:Int):=(h.vals 14 98 (aq hu 14) rfl).post;exact Vm.aJ h (by kernel_rfl) rfl rfl rfl hl _ (Vl.gK 86 63 (.tmp 97) (.tmp 98) rfl Tryz.underlying86 16 (by kernel_rfl) Y 0 (k+1) (k+1) t e1 e2 hlt) (λ_ _ hv=>hv.up λ_ hv=>hv.up λe=>by show((11==15)||l 11)=true;rw[e];rfl) (Vp.W.mk rfl) (λs=>s.next (by decide))
   ·intro l ac W hl hu h
    have e1:ac.tmps.getD 99 undef= .pointer (some ⟨Y,0+t*16,none⟩):=(h.vals 15 99 (aq hu 15) rfl).post;rw[Nat.zero_add] at e1;have hr:W.rangeAt Y (t*16) (OS.ino t).arr.toList:=xn.all (C:=λW=>W.rangeAt Y (t*16) (OS.ino t).arr.toList) h.st (λh=>h.nR hlt) (λh=>h.nR hlt);exact Vm.aJ h (by kernel_rfl) rfl rfl rfl hl _ (Vl.jc 63 (.tmp 99) rfl Y (t*16) (OS.ino t).arr.toList _ e1 hr Tryz.underlying63 rfl (by kernel_rfl)) (λ_ _ hv=>hv.up λ_ hv=>hv.up λe=>by show((11==16)||l 11)=true;rw[e];rfl) (Vp.W.mk rfl) (λs=>s.next (by decide))
   ·intro l ac W hl hu h
    have u11:=aq hu 11 (by kernel_rfl);have e1:ac.tmps.getD 95 undef=aR (T.L b):=(h.vals 11 95 u11 rfl).post;have e2:ac.tmps.getD 96 undef= .int .i64 (a:Int):=(h.vals 12 96 (aq hu 12) rfl).post;have e3:ac.tmps.getD 100 undef=(OS.ino t).val:=(h.vals 16 100 (aq hu 16) rfl).post;refine Vm.step h (by kernel_rfl) rfl rfl rfl hl (Vl.il 63 #[aR (T.L b),.int .i64 (a:Int),(OS.ino t).val] (x8 63 (.tmp 95) (.tmp 96) (.tmp 100) _ _ _ _ rfl e1 e2 e3 (by kernel_rfl)) ?_);refine(zu.Z W).mono ?_;rintro e W' ⟨rfl,hb⟩;have UG:l 11=true:=u11;exact⟨_,rfl,_,rfl,λi d _ _ hv=>hv.up λ_ hv=>hv.up λe=>by show((11==17)||l 11)=true;rw[e];rfl,Vp.W.mk ⟨rfl,by show((11==17)||l 11)=true;rw[UG];rfl⟩,(h.st.mono (λh=>h.below hb) (λh=>h.below hb)).next (by decide)⟩
   ·intro l ac W hl hu h
    obtain⟨e1,u11⟩:ac.tmps.getD 101 undef= .tuple #[aR z,.int .i64 E]/\l 11=true:=(h.vals 17 101 (aq hu 17) rfl).post;exact Vm.aJ h (by kernel_rfl) rfl rfl rfl hl _ (Vl.br (.tmp 101) rfl e1) (λ_ _ hv=>hv.up λ_ hv=>hv.up λe=>by show((11==18)||l 11)=true;rw[e];rfl) (Vp.W.mk ⟨rfl,by show((11==18)||l 11)=true;rw[u11];rfl⟩) (λs=>s.next (by decide))
   ·intro l ac W hl hu h
    obtain⟨e1,u11⟩:ac.tmps.getD 83 undef= .tuple #[aR z,.int .i64 E]/\l 11=true:=(h.vals 18 83 (aq hu 18) rfl).post;exact Vm.aJ h (by kernel_rfl) rfl rfl rfl hl _ (Vl.fJ (.tmp 83) 0 _ rfl e1 rfl) (λ_ _ hv=>hv.up λ_ hv=>hv.up λe=>by show((11==19)||l 11)=true;rw[e];rfl) (Vp.W.mk ⟨rfl,by show((11==19)||l 11)=true;rw[u11];rfl⟩) (λs=>s.next (by decide))
   ·intro l ac W hl hu h
    obtain⟨e1,u11⟩:ac.tmps.getD 83 undef= .tuple #[aR z,.int .i64 E]/\l 11=true:=(h.vals 18 83 (aq hu 18) rfl).post;exact Vm.aJ h (by kernel_rfl) rfl rfl rfl hl _ (Vl.fJ (.tmp 83) 1 _ rfl e1 rfl) (λ_ _ hv=>hv.up λ_ hv=>hv.up λe=>by show((11==20)||l 11)=true;rw[e];rfl) (Vp.W.mk rfl) (λs=>s.next (by decide))
   ·intro l ac W hl hu h
    have e1:ac.tmps.getD 87 undef= .slice (some ⟨q,0,none⟩) x.n x.n:=(h.vals 3 87 (aq hu 3) rfl).pre (by decide) rfl;have e2:ac.tmps.getD 88 undef= .int .i64 (b:Int):=(h.vals 4 88 (aq hu 4) rfl).pre (by decide) rfl;exact Vm.aJ h (by kernel_rfl) rfl rfl rfl hl _ (Vl.gK 29 32 (.tmp 87) (.tmp 88) rfl Tryz.underlying29 256 (by kernel_rfl) q 0 x.n x.n b e1 e2 ll) (λ_ _ hv=>hv.up λ_ hv=>hv.up λe=>by show((11==21)||l 11)=true;rw[e];rfl) (Vp.W.mk rfl) (λs=>s.next (by decide))
   intro l ac W hl hu h;have e1:ac.tmps.getD 104 undef= .pointer (some ⟨q,0+b*256,none⟩):=(h.vals 21 104 (aq hu 21) rfl).post;rw[Nat.zero_add] at e1;obtain⟨e2,u11⟩:ac.tmps.getD 102 undef=aR z/\l 11=true:=(h.vals 19 102 (aq hu 19) rfl).post;have hs:=h.st.no hl;have gG:W.there q (b*256) (Ks .u8 256 z).toArray.size:=by rw[bE];exact hs.s.h.p.im.there ll
   refine Vm.step h (by kernel_rfl) rfl rfl rfl hl (Vl.ef 32 (.tmp 104) (.tmp 102) rfl q (b*256) (Ks .u8 256 z).toArray e1 e2 gG (by rw[bE];exact aA) (fF _ _ _) ?_);exact⟨_,rfl,λi d _ _ hv=>hv.up λ_ hv=>hv.up λe=>by show((11==22)||l 11)=true;rw[e];rfl,Vp.W.mk rfl,⟨λe=>(by have e:true=false:=e;cases e),λ_=>⟨hs.to (hs.self.oy (hs.s.h.p.put ll z).1 (.cE (hs.s.h.p.put ll z).2 (.inr rfl))),by show((11==22)||l 11)=true;rw[u11];rfl⟩⟩⟩
  intro a' w3 h hall;have bX:=hall [95,96,97,98,99,100,101,83,102,103,104] (by kernel_rfl);clear hall;have e95:a'.tmps.getD 95 undef=aR (T.L b):=(h.vals 11 95 rfl rfl).post;have e96:a'.tmps.getD 96 undef= .int .i64 (a:Int):=(h.vals 12 96 rfl rfl).post;have e97:a'.tmps.getD 97 undef= .slice (some ⟨Y,0,none⟩) (k+1) (k+1):=(h.vals 13 97 rfl rfl).post;have e98:a'.tmps.getD 98 undef= .int .i64 (t:Int):=(h.vals 14 98 rfl rfl).post;have e99:a'.tmps.getD 99 undef= .pointer (some ⟨Y,0+t*16,none⟩):=(h.vals 15 99 rfl rfl).post;have Sa:a'.tmps.getD 100 undef=(OS.ino t).val:=(h.vals 16 100 rfl rfl).post;have R4:a'.tmps.getD 101 undef= .tuple #[aR z,.int .i64 E]:=((h.vals 17 101 rfl rfl).post:_/\_).1;have e83:a'.tmps.getD 83 undef= .tuple #[aR z,.int .i64 E]:=((h.vals 18 83 rfl rfl).post:_/\_).1;have R2:a'.tmps.getD 102 undef=aR z:=((h.vals 19 102 rfl rfl).post:_/\_).1;have R1:a'.tmps.getD 103 undef= .int .i64 E:=(h.vals 20 103 rfl rfl).post;have R0:a'.tmps.getD 104 undef= .pointer (some ⟨q,0+b*256,none⟩):=(h.vals 21 104 rfl rfl).post;have fh:Hd (iF B M q Y (k+1) w.heap.size (w.heap.size+1) ds x {m with L:=ak T.L b z} OS.ino OS.o d P (λ_=>0) (λ_=>0) T.d w w3):=(h.st.ye rfl).1;rw[List.foldl_cons,List.foldl_cons,List.foldl_cons,List.foldl_cons,List.foldl_cons,List.foldl_cons,List.foldl_cons,List.foldl_cons,List.foldl_cons,List.foldl_cons,List.foldl_cons,List.foldl_nil,e95,e96,e97,e98,e99,Sa,R4,e83,R2,R1,R0] at bX;simp only[Act.put,List.setIfInBounds_toArray,List.set_cons_succ,List.set_cons_zero] at bX
  subst bX;clear h bW zu e95 e96 e97 e98 e99 Sa R4 e83 R2 R1 R0;have ck:=fh.Z.s.h.y.bQ t hlt 0 _ rfl;rw[Nat.zero_add,Nat.add_zero] at ck;have HZB:Hd (∀c,bu (ak T.L b z c)):=λc=>by
   unfold ak;split
   ·rw[HZ.Z];exact yd (zQ.Z b) (m7.Z t hlt) _
   exact zQ.Z c
  have NC:r<2048:=by have:=(dX HX.Z.may).2.2.2.2.2;omega
  have SD:Hd (PlanD.tab x m.L OS.ino (t+1)=⟨if(OS.ino t).kind≠0 then ak (ak T.L b z) (x.st γ+1) (qM (ak T.L b z (x.st γ+1)) r) else ak T.L b z,if(OS.ino t).kind=2 then ak T.d γ (T.d γ+1) else T.d⟩):=by
   show _=_;rw[IB.Z,PlanD.xH,<-II.Z.1,<-II.Z.2,<-Ho.Z.1,<-Ho.Z.2,<-HZ.Z]
  obtain⟨kd,fV⟩:=aa ((OS.ino t).kind);rw[<-fV] at SD ck;have qp:=Mr.Z γ;obtain⟨dv,Wu⟩:=aa (T.d γ);rw[<-Wu] at SD qp;have Te:=ah Wu;have Cr:=ah fV;clear fV Wu IB HZ
  by_cases ku:kd=0
  ·subst ku
   have EG:Hd (PlanD.tab x m.L OS.ino (t+1)=⟨ak T.L b z,T.d⟩):=by show _=_;rw[SD.Z,if_neg (by decide),if_neg (by decide)]
   go_wp2_with fail;go_roundw
   case rel=>first|exact⟨t+1,by omega,by go_num,by rw[EG.Z];exact fh.Z⟩|((repeat apply Exists.intro);refine⟨?_,rfl⟩;exact⟨t+1,by omega,by go_num,by rw[EG.Z];exact fh.Z⟩)
   simp[intOf];omega
  have q1:(kd !=0)=true:=by simp[ku]
  go_wp2_with fail;refine(ui M q x HX.Z {m with L:=ak T.L b z} HZB.Z γ 1 r Pe (by decide) NC _ fh.Z.s.h.p).mono ?_;rintro e w4 ⟨rfl,hs4⟩;have ey:=ah (fh.Z.to (fh.Z.self.oy hs4.m (.jK hs4.gr (.inr rfl))));clear fh hs4 ck;have ck:w4.cell? ⟨Y,t*16,none⟩=some (.int .u8 kd):=by
   have:=ey.Z.s.h.y.bQ t hlt 0 _ rfl;rw[Nat.zero_add,Nat.add_zero] at this;rw[Cr.Z];exact this
  have cd:w4.cell? ⟨ds,γ*3+2,none⟩=some (.int .i64 dv):=by rw[Te.Z];exact ey.Z.mR Pe
  have fd:=ey.Z.a.soft (γ*3+2);have acH:(γ:Int)<(x.g:Int):=by omega
  by_cases hk2:kd=2
  ·subst hk2
   have EG:Hd (PlanD.tab x m.L OS.ino (t+1)=⟨ak (ak T.L b z) (x.st γ+1) (qM (ak T.L b z (x.st γ+1)) r),ak T.d γ (dv+1)⟩):=by show _=_;rw[SD.Z,if_pos (by decide),if_pos rfl]
   have ed:=ah (ey.Z.US Pe (dv+1));go_wp2_with fail;go_roundw
   case rel=>first|exact⟨t+1,by omega,by go_num,by rw[EG.Z];exact ed.Z⟩|((repeat apply Exists.intro);refine⟨?_,rfl⟩;exact⟨t+1,by omega,by go_num,by rw[EG.Z];exact ed.Z⟩)
   simp[intOf];omega
  have q2:(kd==2)=false:=by simp[hk2]
  have EG:Hd (PlanD.tab x m.L OS.ino (t+1)=⟨ak (ak T.L b z) (x.st γ+1) (qM (ak T.L b z (x.st γ+1)) r),T.d⟩):=by show _=_;rw[SD.Z,if_pos ku,if_neg hk2]
  go_wp2_with fail;go_roundw
  case rel=>first|exact⟨t+1,by omega,by go_num,by rw[EG.Z];exact ey.Z⟩|((repeat apply Exists.intro);refine⟨?_,rfl⟩;exact⟨t+1,by omega,by go_num,by rw[EG.Z];exact ey.Z⟩)
  simp[intOf];omega
 obtain rfl:t=k+1:=by omega
 have c0:wr.cell? ⟨w.heap.size,0,none⟩=some (.int .i64 (x.g:Int)):=ST.Z.s.bx.cell (i:=0) rfl;have X5:Hd (T=PlanD.tab x m.L OS.ino (k+1)):=EF.Z;clear IB Yn EF Mr hlt;obtain⟨gF,Zs⟩:∃gF:Nat->Int,gF=λj=>(x.s:Int)-(aL (bt (T.L (x.st j))) x.s:Nat):=⟨_,rfl⟩
 obtain⟨gE,Zt⟩:∃gE:Nat->Int,gE=λj=>(x.i:Int)-(aL (bt (T.L (x.st j+1))) x.i:Nat):=⟨_,rfl⟩
 have Yk:Hd (∀j,gF j=(x.s:Int)-(aL (bt (T.L (x.st j))) x.s:Nat)):=λj=>by rw[Zs]
 have Eh:Hd (∀j,gE j=(x.i:Int)-(aL (bt (T.L (x.st j+1))) x.i:Nat)):=λj=>by rw[Zt]
 clear Zs Zt;go_wp2_with fail;clear c0;have dt:Hd (iF B M q Y (k+1) w.heap.size (w.heap.size+1) ds x {m with L:=T.L} OS.ino OS.o d P (lZ gF 0) (lZ gE 0) T.d w wr):=ST.Z;clear ST;go_loopw [18,19,20] (λu _ _ wr=>∃t:Nat,t<=x.g/\u= .int .i64 (t:Int)/\iF B M q Y (k+1) w.heap.size (w.heap.size+1) ds x {m with L:=T.L} OS.ino OS.o d P (lZ gF t) (lZ gE t) T.d w wr) (λu _ _ _=>x.g-(intOf u).toNat)
 case atStart=>exact⟨0,Nat.zero_le _,rfl,dt.Z⟩
 clear dt;obtain⟨t,ht,rfl,st⟩:=hrel;have ST:=ah st;clear st;have c0:wr.cell? ⟨w.heap.size,0,none⟩=some (.int .i64 (x.g:Int)):=ST.Z.s.bx.cell (i:=0) rfl
 by_cases hlt:t<x.g
 ·have hlt':(t:Int)<(x.g:Int):=by omega
  have hrg:=ST.Z.lT;obtain⟨h1,h2,h3,h4,h5,h6,h7,h8,h9,h10,h11⟩:=dX HX.Z.may;have LL:x.s<=2048:=by have:=HX.Z.iK;have:=HX.Z.st hlt (d:=x.s-1) (by omega);omega
  have zH:x.i<=2048:=by omega
  have ht4:t<=2048:=by omega
  have hst:=HX.Z.st hlt (d:=0) (by omega);have lh:=HX.Z.st hlt (d:=1) (by omega);rw[Nat.add_zero] at hst;have SI:Hd (∀W,Calls Tryz.prog 69 #[bV x.g x.s x.i x.j,.int .i64 (t:Int)] W λe w'=>e= .returned (.tuple #[.int .i64 ((x.st t:Nat):Int),.bool true])/\Below W.heap.size W w'):=λW=>kW x.g x.s x.i x.j t HX.Z.may hlt W
  have TF:=Yk.Z t;have hge:=Eh.Z t;have jk:Hd (∀W,Calls Tryz.prog 70 #[aR (T.L (x.st t)),.int .i64 (x.s:Int)] W λe w'=>e= .returned (.int .i64 ((aL (bt (T.L (x.st t))) x.s:Nat):Int))/\Below W.heap.size W w'):=λW=>pg _ (zQ.Z _) x.s LL W
  have gY:Hd (∀W,Calls Tryz.prog 70 #[aR (T.L (x.st t+1)),.int .i64 (x.i:Int)] W λe w'=>e= .returned (.int .i64 ((aL (bt (T.L (x.st t+1))) x.i:Nat):Int))/\Below W.heap.size W w'):=λW=>pg _ (zQ.Z _) x.i zH W
  have hk1:=eT (bt (T.L (x.st t))) x.s;have hk2:=eT (bt (T.L (x.st t+1))) x.i;obtain⟨S,hS⟩:=aa (x.st t);rw[<-hS] at hst lh SI TF hge jk gY hk1 hk2;obtain⟨n1,uq⟩:=aa (aL (bt (T.L S)) x.s);obtain⟨n2,JT⟩:=aa (aL (bt (T.L (S+1))) x.i);rw[<-uq] at TF jk hk1;rw[<-JT] at hge gY hk2;have HGT:=ah (And.intro TF hge);have acV:(S:Int)<(x.n:Int):=by omega
  have Y5:(S:Int)+1<(x.n:Int):=by omega
  have J8:S<=2048:=by have:=HX.Z.iK;omega
  have w1_:wrap64 ((x.s:Int)-(n1:Int))=(x.s:Int)-(n1:Int):=IntWalk.wrap64_in _ (by omega);have w2_:wrap64 ((x.i:Int)-(n2:Int))=(x.i:Int)-(n2:Int):=IntWalk.wrap64_in _ (by omega);clear h1 h2 h3 h4 h5 h6 h7 h8 h9 h10 h11 hS uq JT TF hge;go_wp2_with (first|(refine aH rfl 23 (.tmp 137) rfl w.heap.size 0 (ai x.g x.s x.i x.j).toList _ rfl hrg Tryz.underlying23 rfl (by kernel_rfl) ?_))
  refine(SI.Z _).mono ?_;rintro e w1 ⟨rfl,hb1⟩;have bh:=ah (ST.Z.below hb1);clear ST hb1 hrg SI c0;go_wp2_with fail;refine aG (iF B M q Y (k+1) w.heap.size (w.heap.size+1) ds x {m with L:=T.L} OS.ino OS.o d P (lZ gF t) (lZ gE t) T.d w) 19 (by kernel_rfl) (by kernel_rfl) (by kernel_rfl) (by kernel_rfl) (by kernel_rfl) (by decide) (bh.Z.below ag.drew) ?_;clear bh;simp only[List.take,List.drop];intro hne;have hc0:∀y:a9 (iF B M q Y (k+1) w.heap.size (w.heap.size+1) ds x {m with L:=T.L} OS.ino OS.o d P (lZ gF t) (lZ gE t) T.d w),y.W.cell? ⟨M,0,none⟩=some (.slice (some ⟨q,0,none⟩) x.n x.n):=λy=>y.h.s.h.p.c0
  have NV:∀y:a9 (iF B M q Y (k+1) w.heap.size (w.heap.size+1) ds x {m with L:=T.L} OS.ino OS.o d P (lZ gF t) (lZ gE t) T.d w),y.W.cell? ⟨w.heap.size,1,none⟩=some (.int .i64 (x.s:Int)):=λy=>y.h.s.bx.cell (i:=1) rfl
  repeat go_big_quiet_step (fail)
  refine aO rfl 32 (.tmp 153) rfl q (S*256) rfl (dR T.L S) _ (λW h=>by have:=aM.range h.s.h.p.im.bQ S hst;rwa[Nat.zero_add] at this) Tryz.underlying32 rfl (by rw[aZ];exact aA) ?_;refine aj ?_
  repeat go_big_quiet_step (fail)
  go_big_quiet_want
  go_big_quiet_op
  refine⟨_,λs=>aN s (λW hW=>(jk.Z W).mono λe w' h=>⟨h.1,hW.below h.2⟩),?_⟩
  go_big_quiet_on
  repeat go_big_quiet_step (fail)
  refine wpQuiet_nil ?_;intro w2 h2';have bW:=ah h2'.Z;clear h2' hne hc0 NV;have cd:=(bW.Z.c1 hlt).1;have fd:=bW.Z.a.soft (t*3);have fh:=ah (bW.Z.UQ hlt ((x.s:Int)-(n1:Int)));rw[show ak (lZ gF t) t ((x.s:Int)-(n1:Int))=lZ gF (t+1) by rw[<-HGT.Z.1,yU]] at fh;go_wp2_with fail;clear cd fd bW;refine aG (iF B M q Y (k+1) w.heap.size (w.heap.size+1) ds x {m with L:=T.L} OS.ino OS.o d P (lZ gF (t+1)) (lZ gE t) T.d w) 20 (by kernel_rfl) (by kernel_rfl) (by kernel_rfl) (by kernel_rfl) (by kernel_rfl) (by decide) (fh.Z.below ag.drew) ?_;clear fh;simp only[List.take,List.drop];intro hne;have hc0:∀y:a9 (iF B M q Y (k+1) w.heap.size (w.heap.size+1) ds x {m with L:=T.L} OS.ino OS.o d P (lZ gF (t+1)) (lZ gE t) T.d w),y.W.cell? ⟨M,0,none⟩=some (.slice (some ⟨q,0,none⟩) x.n x.n):=λy=>y.h.s.h.p.c0
  have NV:∀y:a9 (iF B M q Y (k+1) w.heap.size (w.heap.size+1) ds x {m with L:=T.L} OS.ino OS.o d P (lZ gF (t+1)) (lZ gE t) T.d w),y.W.cell? ⟨w.heap.size,2,none⟩=some (.int .i64 (x.i:Int)):=λy=>y.h.s.bx.cell (i:=2) rfl
  repeat go_big_quiet_step (fail)
  refine aO rfl 32 (.tmp 173) rfl q ((S+1)*256) rfl (dR T.L (S+1)) _ (λW h=>by have:=aM.range h.s.h.p.im.bQ (S+1) lh;rwa[Nat.zero_add] at this) Tryz.underlying32 rfl (by rw[aZ];exact aA) ?_;refine aj ?_
  repeat go_big_quiet_step (fail)
  go_big_quiet_want
  go_big_quiet_op
  refine⟨_,λs=>aN s (λW hW=>(gY.Z W).mono λe w' h=>⟨h.1,hW.below h.2⟩),?_⟩
  go_big_quiet_on
  repeat go_big_quiet_step (fail)
  refine wpQuiet_nil ?_;intro w4 h4';have ey:=ah h4'.Z;clear h4' hne hc0 NV;have cd:=(ey.Z.c1 hlt).2;have fd:=ey.Z.a.soft (t*3+1);have ed:=ah (ey.Z.UR hlt ((x.i:Int)-(n2:Int)));rw[show ak (lZ gE t) t ((x.i:Int)-(n2:Int))=lZ gE (t+1) by rw[<-HGT.Z.2,yU]] at ed;go_wp2_with fail;go_roundw
  case rel=>first|exact⟨t+1,by omega,by go_num,ed.Z⟩|((repeat apply Exists.intro);refine⟨?_,rfl⟩;exact⟨t+1,by omega,by go_num,ed.Z⟩)
  simp[intOf];omega
 obtain ht9:t=x.g:=by omega
 subst ht9;have HFG:Hd (∀j,j<x.g->lZ gF x.g j=gF j):=λj hj=>by unfold lZ;rw[if_pos hj]
 have HEG:Hd (∀j,j<x.g->lZ gE x.g j=gE j):=λj hj=>by unfold lZ;rw[if_pos hj]
 go_wp2_with fail;clear c0;obtain⟨z0,hz0⟩:=aa (oz x.g x.s x.i x.j (OS.o:Nat));obtain⟨E0,mq⟩:=aa (xJ x.g x.s x.i x.j (OS.o:Nat));have PS:Hd (∀W,Calls Tryz.prog 60 #[gJ x.g x.s x.i x.j (OS.o:Nat)] W λe w'=>e= .returned (.tuple #[aR z0,.int .i64 E0])/\Below W.heap.size W w'):=λW=>by
  rw[hz0,mq];exact pb x.g x.s x.i x.j (OS.o:Nat) HOO.Z W
 have Sw:=ah hz0;clear hz0 mq;have JT:2<=x.n:=by have:=HX.Z.st (k:=0) (d:=0) (by have:=(dX HX.Z.may).1;omega) (by have:=(dX HX.Z.may);omega);unfold Im.st at this;omega
 apply Vp.bG 10 (λl kk v W=>v=undef) (λl W=>xn 10 10 (iF B M q Y (k+1) w.heap.size (w.heap.size+1) ds x {m with L:=T.L} OS.ino OS.o d P (lZ gF x.g) (lZ gE x.g) T.d w) (iF B M q Y (k+1) w.heap.size (w.heap.size+1) ds x {m with L:=ak T.L 0 z0} OS.ino OS.o d P (lZ gF x.g) (lZ gE x.g) T.d w) l W) (P6 M q x.n (w.heap.size+1) (ie x OS.o))
 case hm=>kernel_rfl
 case hd=>kernel_rfl
 case hpre=>kernel_rfl
 case hB=>kernel_rfl
 case hVl=>exactλl l' he i v W h=>h
 case hS=>exactλl l' W he h=>h.lists (he 10 (by decide) (by decide)) (he 10 (by decide) (by decide))
 case hSC=>exactλl W h=>xn.all (C:=P6 M q x.n (w.heap.size+1) (ie x OS.o)) h (λh=>⟨h.s.h.p.c0,h.s.su,h.s.h.p.lM⟩) (λh=>⟨h.s.h.p.c0,h.s.su,h.s.h.p.lM⟩)
 case hVb=>exactλl i v W W' h hb=>h
 case hSb=>exactλl W W' h hb _=>h.mono (λh=>h.below hb) (λh=>h.below hb)
 case h0=>exact⟨λ_=>ST.Z.below ⟨rfl,rfl,rfl,Nat.le_refl _,λ_ _=>rfl⟩,λe=>by cases e⟩
 case hwalk=>
  simp only[List.take];intro R hR hne;have hc0:∀y:a9 (λW=>P6 M q x.n (w.heap.size+1) (ie x OS.o) W/\R W),y.W.cell? ⟨M,0,none⟩=some (.slice (some ⟨q,0,none⟩) x.n x.n):=λy=>y.h.1.c0
  repeat go_big_quiet_step (fail)
  refine aO rfl 47 (.tmp 7) rfl (w.heap.size+1) 0 rfl (ie x OS.o).toList _ (λW h=>h.1.su.range) Tryz.underlying47 rfl (by kernel_rfl) ?_;refine aj ?_
  go_big_quiet_want
  go_big_quiet_op
  refine⟨_,λs=>aN s (λW hW=>(PS.Z W).mono λe w' h=>⟨h.1,hW.1.below h.2,hR _ _ hW.2 h.2⟩),?_⟩
  go_big_quiet_on
  repeat go_big_quiet_step (fail)
  exact wpQuiet_nil rfl
 case hst=>
  simp only[List.drop];refine⟨?_,trivial⟩;intro l ac W hl hu h;have e1:ac.tmps.getD 191 undef= .pointer (some ⟨q,0,none⟩):=(h.vals 9 191 (aq hu 9) rfl).pre (by decide) rfl;have e2:ac.tmps.getD 189 undef=aR z0:=(h.vals 7 189 (aq hu 7) rfl).pre (by decide) rfl;have hs:=h.st.no hl;have gG:W.there q 0 (Ks .u8 256 z0).toArray.size:=by rw[bE];have:=hs.s.h.p.im.there (k:=0) (by omega);rwa[Nat.zero_mul] at this
  have DI:=hs.s.h.p.put (b:=0) (by omega) z0;rw[Nat.zero_mul] at DI;refine Vm.step h (by kernel_rfl) rfl rfl rfl hl (Vl.ef 32 (.tmp 191) (.tmp 189) rfl q 0 (Ks .u8 256 z0).toArray e1 e2 gG (by rw[bE];exact aA) (fF _ _ _) ?_);exact⟨_,rfl,λi d _ _ hv=>hv.up λ_ hv=>hv,Vp.W.mk rfl,⟨λe=>(by have e:true=false:=e;cases e),λ_=>⟨hs.to (hs.self.oy DI.1 (.cE DI.2 (.inr rfl))),rfl⟩⟩⟩
 intro a' w5 h hall;have bX:=hall [] (by kernel_rfl);clear hall;have ed:Hd (iF B M q Y (k+1) w.heap.size (w.heap.size+1) ds x {m with L:=ak T.L 0 z0} OS.ino OS.o d P (lZ gF x.g) (lZ gE x.g) T.d w w5):=(h.st.ye rfl).1;rw[List.foldl_nil] at bX;subst bX;clear h ST PS;go_wp2_with fail;have jj:=ah (ed.Z.congr HFG.Z HEG.Z);clear ed HFG HEG;obtain⟨z1,hz1⟩:=aa (ky x.g x.s x.i x.j x.g gF gE T.d);obtain⟨E1,Z4⟩:=aa (pD x.g x.s x.i x.j x.g gF gE T.d);have HDS:Hd (∀W,aE W ds 67 3 x.g (Ey gF gE T.d)->Calls Tryz.prog 61 #[bV x.g x.s x.i x.j,.slice (some ⟨ds,0,none⟩) x.g x.g] W λe w'=>e= .returned (.tuple #[aR z1,.int .i64 E1])/\Below W.heap.size W w'):=λW hW=>by
  rw[hz1,Z4];exact jC x.g x.s x.i x.j (some ⟨ds,0,none⟩) x.g x.g gF gE T.d (by have:=(dX HX.Z.may);omega) W (.inr ⟨ds,0,rfl,hW.bQ⟩)
 have HZ1:=ah hz1;clear hz1 Z4;apply Vp.bG 12 (λl kk v W=>v=undef) (λl W=>xn 12 12 (iF B M q Y (k+1) w.heap.size (w.heap.size+1) ds x {m with L:=ak T.L 0 z0} OS.ino OS.o d P gF gE T.d w) (iF B M q Y (k+1) w.heap.size (w.heap.size+1) ds x {m with L:=ak (ak T.L 0 z0) 1 z1} OS.ino OS.o d P gF gE T.d w) l W) (P5 M q x.n w.heap.size ds x.g (ai x.g x.s x.i x.j).toList (Ey gF gE T.d))
 case hm=>kernel_rfl
 case hd=>kernel_rfl
 case hpre=>kernel_rfl
 case hB=>kernel_rfl
 case hVl=>exactλl l' he i v W h=>h
 case hS=>exactλl l' W he h=>h.lists (he 12 (by decide) (by decide)) (he 12 (by decide) (by decide))
 case hSC=>exactλl W h=>xn.all (C:=P5 M q x.n w.heap.size ds x.g (ai x.g x.s x.i x.j).toList (Ey gF gE T.d)) h (λh=>⟨h.s.h.p.c0,h.lT,h.a,h.s.h.p.lM,h.s.bx.lt⟩) (λh=>⟨h.s.h.p.c0,h.lT,h.a,h.s.h.p.lM,h.s.bx.lt⟩)
 case hVb=>exactλl i v W W' h hb=>h
 case hSb=>exactλl W W' h hb _=>h.mono (λh=>h.below hb) (λh=>h.below hb)
 case h0=>exact⟨λ_=>jj.Z.below ⟨rfl,rfl,rfl,Nat.le_refl _,λ_ _=>rfl⟩,λe=>by cases e⟩
 case hwalk=>
  simp only[List.take];intro R hR hne;have hc0:∀y:a9 (λW=>P5 M q x.n w.heap.size ds x.g (ai x.g x.s x.i x.j).toList (Ey gF gE T.d) W/\R W),y.W.cell? ⟨M,0,none⟩=some (.slice (some ⟨q,0,none⟩) x.n x.n):=λy=>y.h.1.c0
  repeat go_big_quiet_step (fail)
  refine aO rfl 23 (.tmp 197) rfl w.heap.size 0 rfl (ai x.g x.s x.i x.j).toList _ (λW h=>h.1.lT) Tryz.underlying23 rfl (by kernel_rfl) ?_;refine aj ?_
  repeat go_big_quiet_step (fail)
  go_big_quiet_want
  go_big_quiet_op
  refine⟨_,λs=>aN s (λW hW=>(HDS.Z W hW.1.a).mono λe w' h=>⟨h.1,hW.1.below h.2,hR _ _ hW.2 h.2⟩),?_⟩
  go_big_quiet_on
  repeat go_big_quiet_step (fail)
  exact wpQuiet_nil rfl
 case hst=>
  simp only[List.drop];refine⟨?_,trivial⟩;intro l ac W hl hu h;have e1:ac.tmps.getD 203 undef= .pointer (some ⟨q,256,none⟩):=(h.vals 11 203 (aq hu 11) rfl).pre (by decide) rfl;have e2:ac.tmps.getD 201 undef=aR z1:=(h.vals 9 201 (aq hu 9) rfl).pre (by decide) rfl;have hs:=h.st.no hl;have gG:W.there q 256 (Ks .u8 256 z1).toArray.size:=by rw[bE];have:=hs.s.h.p.im.there (k:=1) (by omega);rwa[Nat.one_mul] at this
  have DI:=hs.s.h.p.put (b:=1) (by omega) z1;rw[Nat.one_mul] at DI;refine Vm.step h (by kernel_rfl) rfl rfl rfl hl (Vl.ef 32 (.tmp 203) (.tmp 201) rfl q 256 (Ks .u8 256 z1).toArray e1 e2 gG (by rw[bE];exact aA) (fF _ _ _) ?_);exact⟨_,rfl,λi d _ _ hv=>hv.up λ_ hv=>hv,Vp.W.mk rfl,⟨λe=>(by have e:true=false:=e;cases e),λ_=>⟨hs.to (hs.self.oy DI.1 (.cE DI.2 (.inr rfl))),rfl⟩⟩⟩
 intro a' w7 h hall;have bX:=hall [] (by kernel_rfl);clear hall;have EC:Hd (iF B M q Y (k+1) w.heap.size (w.heap.size+1) ds x {m with L:=ak (ak T.L 0 z0) 1 z1} OS.ino OS.o d P gF gE T.d w w7):=(h.st.ye rfl).1;rw[List.foldl_nil] at bX;subst bX;clear h jj HDS;go_wp2_with fail;have HHL:Hd (PlanD.mN x OS.o T=ak (ak T.L 0 z0) 1 z1):=by
  show _=_;unfold PlanD.mN;rw[Sw.Z,HZ1.Z,show gF=_ from funext Yk.Z,show gE=_ from funext Eh.Z]
 obtain⟨L0,uw⟩:=aa (PlanD.mN x OS.o T);have Bl:=ah uw;have Tk:Hd (∀b,bu (L0 b)):=by show∀b,bu (L0 b);rw[uw];exact AS zQ.Z
 have tD:Hd (mX B M q Y (k+1) w.heap.size (w.heap.size+1) x {m with L:=L0} OS.ino OS.o d P w w7):=by
  show mX _ _ _ _ _ _ _ _ _ _ _ _ _ _ _;rw[uw,HHL.Z];exact EC.Z.s
 clear uw HHL EC Sw HZ1 Yk Eh;obtain⟨Lc,RH⟩:∃Lc:Nat->Nat->Nat->Int,Lc=λt=>PlanD.pk (P.tC x.n) t L0:=⟨_,rfl⟩
 have O1:Hd (Lc 0=L0):=by show _=_;rw[RH];rfl
 have gA:Hd (∀t,Lc (t+1)=P.tC x.n t (Lc t)):=λt=>by rw[RH];rfl
 have IH:Hd (∀t b,bu (Lc t b)):=λt b=>by rw[RH];exact Cd xu.Z Tk.Z t b
 have HLC:=ah RH;clear RH;go_loopw [21,22,23] (λu _ _ wr=>∃t:Nat,t<=P.nc/\u= .int .i64 (t:Int)/\mX B M q Y (k+1) w.heap.size (w.heap.size+1) x {m with L:=Lc t} OS.ino OS.o d P w wr) (λu _ _ _=>P.nc-(intOf u).toNat)
 case atStart=>exact⟨0,Nat.zero_le _,rfl,by rw[O1.Z];exact tD.Z⟩
 clear tD;obtain⟨t,ht,rfl,st⟩:=hrel;have ST:=ah st;have c5:wr.cell? ⟨w.heap.size,5,none⟩=some (.slice d.ca P.nc d.cc):=st.bx.cell (i:=5) rfl;clear st
 by_cases hlt:t<P.nc
 ·have hlt':(t:Int)<(P.nc:Int):=by omega
  have VW:=xr.Z.nc;obtain⟨cb,co,J5,-⟩:=ST.Z.r.c.cell (j:=0) hlt rfl;have hrg:wr.rangeAt cb (co+t*3) (Xx P t):=λj v hv=>by
   obtain⟨b',o',e,hc⟩:=ST.Z.r.c.cell hlt hv;rw[J5] at e;cases e;exact hc
  rw[J5] at c5;have Ti:=ah (gA.Z t);have hA0:At (wr.alloc (.cells #[.int .i64 0,.int .i64 0,.int .u8 0] 149)) wr.heap.size 149 #[.int .i64 0,.int .i64 0,.int .u8 0]:=At.new _ _ _;clear J5;go_wp2_with (first|(refine aH rfl 149 (.tmp 214) rfl cb (co+t*3) (Xx P t) _ rfl hrg Tryz.underlying149 rfl (by kernel_rfl) ?_)|(refine aD rfl 149 (.tmp 22) (.tmp 215) rfl wr.heap.size #[.int .i64 (P.cb t),.int .i64 (P.ca t),.int .u8 (P.co t)] _ rfl rfl hA0 (Gb _ _ _) rfl (Jp _ _ _) ?_))
  intro w1 ha1 wm;have bh:=ah (ST.Z.chg (t:=t) ha1 wm);clear ST ha1 wm hA0 hrg c5;obtain⟨c,hc⟩:=aa wr.heap.size;rw[<-hc] at bh ⊢;clear hc;have WD:=xu.Z.cb t;have WE:=xu.Z.ca t;have NU:=xu.Z.co t;obtain⟨vb,hvb⟩:=aa (P.cb t);obtain⟨va,TA⟩:=aa (P.ca t);obtain⟨vo,Tz⟩:=aa (P.co t);have Em:Hd (Lc (t+1)=if 0<=vb/\vb<(x.n:Int) then ak (Lc t) vb.toNat (over (Lc t vb.toNat) (va%256).toNat 1 (λ_=>(((Lc t vb.toNat (va%256).toNat).toNat^^^vo.toNat:Nat):Int))) else Lc t):=by
   show _=_;rw[Ti.Z,PlanD.tC,<-hvb,<-TA,<-Tz]
  rw[<-hvb] at WD;rw[<-TA] at WE;rw[<-Tz] at NU;have X2:=ah (And.intro hvb (And.intro TA Tz));clear hvb TA Tz Ti;have P0:Hd (∀W,tI B M q Y (k+1) w.heap.size (w.heap.size+1) c x {m with L:=Lc t} OS.ino OS.o d P t w W->W.cell? ⟨c,0,none⟩=some (.int .i64 vb)/\W.cell? ⟨c,1,none⟩=some (.int .i64 va)/\W.cell? ⟨c,2,none⟩=some (.int .u8 vo)):=λW h=>by
   rw[X2.Z.1,X2.Z.2.1,X2.Z.2.2];exact⟨h.a.cell (i:=0) rfl,h.a.cell (i:=1) rfl,h.a.cell (i:=2) rfl⟩
  go_wp2_with fail
  by_cases hb0:0<=vb
  rotate_left
  ·have q1:decide ((0:Int)<=vb)=false:=decide_eq_false hb0
   refine ar (tI B M q Y (k+1) w.heap.size (w.heap.size+1) c x {m with L:=Lc t} OS.ino OS.o d P t w) (bh.Z.below ag.drew) ?_;clear bh;intro hne;have hcb:∀y:a9 (tI B M q Y (k+1) w.heap.size (w.heap.size+1) c x {m with L:=Lc t} OS.ino OS.o d P t w),y.W.cell? ⟨c,0,none⟩=some (.int .i64 vb):=λy=>(P0.Z _ y.h).1
   repeat go_big_quiet_step (fail)
   refine wpQuiet_nil ?_;intro w2 h2';have bW:=ah h2'.Z;clear h2' hne hcb;have gY:Hd (Lc (t+1)=Lc t):=by show _=_;rw[Em.Z,if_neg (λh=>hb0 h.1)]
   go_wp2_with fail;go_roundw
   case rel=>first|exact⟨t+1,by omega,by go_num,by rw[gY.Z];exact bW.Z.s⟩|((repeat apply Exists.intro);refine⟨?_,rfl⟩;exact⟨t+1,by omega,by go_num,by rw[gY.Z];exact bW.Z.s⟩)
   simp[intOf];omega
  obtain⟨b,rfl⟩:∃b:Nat,vb=(b:Int):=⟨vb.toNat,by omega⟩;rw[Int.toNat_natCast] at Em
  by_cases ll:b<x.n
  rotate_left
  ·have Gx:¬(b:Int)<(x.n:Int):=by omega
   refine ar (tI B M q Y (k+1) w.heap.size (w.heap.size+1) c x {m with L:=Lc t} OS.ino OS.o d P t w) (bh.Z.below ag.drew) ?_;clear bh;intro hne;have hcb:∀y:a9 (tI B M q Y (k+1) w.heap.size (w.heap.size+1) c x {m with L:=Lc t} OS.ino OS.o d P t w),y.W.cell? ⟨c,0,none⟩=some (.int .i64 (b:Int)):=λy=>(P0.Z _ y.h).1
   have hc0:∀y:a9 (tI B M q Y (k+1) w.heap.size (w.heap.size+1) c x {m with L:=Lc t} OS.ino OS.o d P t w),y.W.cell? ⟨M,0,none⟩=some (.slice (some ⟨q,0,none⟩) x.n x.n):=λy=>y.h.s.h.p.c0
   repeat go_big_quiet_step (fail)
   refine wpQuiet_nil ?_;intro w2 h2';have bW:=ah h2'.Z;clear h2' hne hcb hc0;have gY:Hd (Lc (t+1)=Lc t):=by show _=_;rw[Em.Z,if_neg (λh=>Gx h.2)]
   go_wp2_with fail;go_roundw
   case rel=>first|exact⟨t+1,by omega,by go_num,by rw[gY.Z];exact bW.Z.s⟩|((repeat apply Exists.intro);refine⟨?_,rfl⟩;exact⟨t+1,by omega,by go_num,by rw[gY.Z];exact bW.Z.s⟩)
   simp[intOf];omega
  have Gx:(b:Int)<(x.n:Int):=by omega
  obtain⟨a,ha⟩:=aa ((va%256).toNat);have Rz:a<256:=by omega
  obtain⟨hr1,hr2⟩:=MZ va;rw[<-ha] at Em hr2;have gY:Hd (Lc (t+1)=ak (Lc t) b (over (Lc t b) a 1 (λ_=>(((Lc t b a).toNat^^^vo.toNat:Nat):Int)))):=by show _=_;rw[Em.Z,if_pos ⟨hb0,Gx⟩]
  have QL:=IH.Z t b a;have acK:=u8_xor (Lc t b a) vo QL.1 QL.2 NU.1 NU.2;clear ha Em;refine ar (tI B M q Y (k+1) w.heap.size (w.heap.size+1) c x {m with L:=Lc t} OS.ino OS.o d P t w) (bh.Z.below ag.drew) ?_;clear bh;intro hne;have hcb:∀y:a9 (tI B M q Y (k+1) w.heap.size (w.heap.size+1) c x {m with L:=Lc t} OS.ino OS.o d P t w),y.W.cell? ⟨c,0,none⟩=some (.int .i64 (b:Int)):=λy=>(P0.Z _ y.h).1
  have hc0:∀y:a9 (tI B M q Y (k+1) w.heap.size (w.heap.size+1) c x {m with L:=Lc t} OS.ino OS.o d P t w),y.W.cell? ⟨M,0,none⟩=some (.slice (some ⟨q,0,none⟩) x.n x.n):=λy=>y.h.s.h.p.c0
  repeat go_big_quiet_step (fail)
  refine wpQuiet_nil ?_;intro w2 h2';have bW:=ah h2'.Z;clear h2' hne hcb hc0;have c1:=(P0.Z _ bW.Z).2.1;go_wp2_with fail;clear c1;refine aG (tI B M q Y (k+1) w.heap.size (w.heap.size+1) c x {m with L:=Lc t} OS.ino OS.o d P t w) 22 (by kernel_rfl) (by kernel_rfl) (by kernel_rfl) (by kernel_rfl) (by kernel_rfl) (by decide) (bW.Z.below ag.drew) ?_;clear bW;simp only[List.take,List.drop];intro hne;have hcb:∀y:a9 (tI B M q Y (k+1) w.heap.size (w.heap.size+1) c x {m with L:=Lc t} OS.ino OS.o d P t w),y.W.cell? ⟨c,0,none⟩=some (.int .i64 (b:Int)):=λy=>(P0.Z _ y.h).1
  have Wy:∀y:a9 (tI B M q Y (k+1) w.heap.size (w.heap.size+1) c x {m with L:=Lc t} OS.ino OS.o d P t w),y.W.cell? ⟨c,2,none⟩=some (.int .u8 vo):=λy=>(P0.Z _ y.h).2.2
  have hc0:∀y:a9 (tI B M q Y (k+1) w.heap.size (w.heap.size+1) c x {m with L:=Lc t} OS.ino OS.o d P t w),y.W.cell? ⟨M,0,none⟩=some (.slice (some ⟨q,0,none⟩) x.n x.n):=λy=>y.h.s.h.p.c0
  have hcz:∀y:a9 (tI B M q Y (k+1) w.heap.size (w.heap.size+1) c x {m with L:=Lc t} OS.ino OS.o d P t w),y.W.cell? ⟨q,b*256+a,none⟩=some (.int .u8 (Lc t b a)):=λy=>y.h.s.h.p.bQ ll a Rz
  repeat go_big_quiet_step (fail)
  refine wpQuiet_nil ?_;intro w3 h3';have fh:=ah h3'.Z;clear h3' hne hcb Wy hc0 hcz;have cz:w3.cell? ⟨q,b*256+a,none⟩=some (.int .u8 (Lc t b a)):=fh.Z.s.h.p.bQ ll a Rz;have fz:=fh.Z.s.h.p.im.soft (b*256+a);have hpt:gj q (b*256+a) 1 (λ_=>(((Lc t b a).toNat^^^vo.toNat:Nat):Int)) w3 (w3.setCell ⟨q,b*256+a,none⟩ (.int .u8 (((Lc t b a).toNat^^^vo.toNat:Nat):Int))):=
   (gj.nil q (b*256+a) (λ_=>(((Lc t b a).toNat^^^vo.toNat:Nat):Int)) w3).snoc (u:=.int .u8 (Lc t b a)) cz rfl
  have ey:=ah (fh.Z.to (fh.Z.s.self.oy (fh.Z.s.h.p.kD ll (by omega) hpt) (.cE hpt.only (.inr rfl))));clear fh hpt;go_wp2_with fail;go_roundw
  case rel=>first|exact⟨t+1,by omega,by go_num,by rw[gY.Z];exact ey.Z.s⟩|((repeat apply Exists.intro);refine⟨?_,rfl⟩;exact⟨t+1,by omega,by go_num,by rw[gY.Z];exact ey.Z.s⟩)
  simp[intOf];omega
 obtain rfl:t=P.nc:=by omega
 have jP:Hd (P.pQ x m.L ys k=if P.sums then PlanD.qP 1 (PlanD.qP 0 (Lc P.nc)) else Lc P.nc):=by
  show _=_;unfold PlanD.pQ;dsimp only;rw[<-OP.Z,<-X5.Z,<-Bl.Z,HLC.Z]
 obtain⟨LF,Xc⟩:=aa (Lc P.nc);have Yr:Hd (∀b,bu (LF b)):=by show∀b,_;rw[Xc];exact IH.Z P.nc
 rw[<-Xc] at ST jP;clear Xc O1 gA IH HLC Bl Tk X5 zQ hlt;obtain⟨Ls,RG⟩:∃Ls:Nat->Nat->Nat->Int,Ls=λt=>PlanD.pk PlanD.qP t LF:=⟨_,rfl⟩
 have ON:Hd (Ls 0=LF):=by show _=_;rw[RG];rfl
 have ko:Hd (PlanD.qP 1 (PlanD.qP 0 LF)=Ls 2):=by show _=_;rw[RG];rfl
 have SG:Hd (∀t,Ls (t+1)=ak (Ls t) t (over (Ls t t) 252 4 (byteOf (kh (Ls t t) 252)))):=λt=>by rw[RG];rfl
 have Hl:Hd (∀t b,bu (Ls t b)):=λt=>by
  rw[RG]
  induction t with
  |zero=>exact Yr.Z
  |succ t ih=>exact I1 ih
 obtain⟨sm,hsm⟩:=aa P.sums;rw[<-hsm,ko.Z] at jP;have OM:=ah hsm;clear RG hsm ko;go_wp2_with fail;clear c5;have dt:Hd (mX B M q Y (k+1) w.heap.size (w.heap.size+1) x {m with L:=Ls 0} OS.ino OS.o d P w wr):=by rw[ON.Z];exact ST.Z
 clear ST;go_loopw [24] (λu wr=>∃t:Nat,t<=2/\(sm=false->t=0)/\u= .int .i64 (t:Int)/\mX B M q Y (k+1) w.heap.size (w.heap.size+1) x {m with L:=Ls t} OS.ino OS.o d P w wr) (λu _=>2-(intOf u).toNat)
 case atStart=>exact⟨0,Nat.zero_le _,λ_=>rfl,rfl,dt.Z⟩
 clear dt;obtain⟨t,ht,hts,rfl,st⟩:=hrel;have ST:=ah st;clear st;have c6:wr.cell? ⟨w.heap.size,6,none⟩=some (.bool sm):=by rw[OM.Z];exact ST.Z.bx.cell (i:=6) rfl
 have c0:=ST.Z.h.p.c0
 by_cases ht2:t<2
 ·have acT:(t:Int)<2:=by omega
  cases sm with
  |false=>
   obtain rfl:=hts rfl;have HE:Hd ((∀b,bu (P.pQ x m.L ys k b))/\g9 M q Y (k+1) x {m with L:=P.pQ x m.L ys k} (P.jH ys k).ino w wr):=by
    have e:P.pQ x m.L ys k=Ls 0:=by rw[jP.Z,ON.Z];rfl
    have h:=ST.Z.h;rw[OP.Z] at h;rw[e];exact⟨Hl.Z 0,h⟩
   clear ST jP Hl SG ON Yr OM hts ht;go_wp2_with fail;go_ret;exact⟨rfl,HE.Z⟩
  |true=>
   have htn:t<x.n:=by omega
   have acP:(t:Int)<(x.n:Int):=by omega
   have hsa:=λW=>bw q (t*256) W
   have Ny:=λW=>pM q (t*256) 252 252 rfl (by decide) W
   have hcb:=B9 (Ls t t) 252;obtain⟨vc,Vr⟩:=aa (kh (Ls t t) 252);have xc:=ah (SG.Z t);rw[<-Vr] at hcb xc;have SF:Hd (∀W,mX B M q Y (k+1) w.heap.size (w.heap.size+1) x {m with L:=Ls t} OS.ino OS.o d P w W->Calls Tryz.prog 72 #[.slice (some ⟨q,t*256,none⟩) 252 256] W λe w'=>e= .returned (.int .u32 vc)/\W=w'):=λW h=>by
    rw[Vr];exact iI (some ⟨q,t*256,none⟩) 252 256 (Ls t t) W (by decide) (.inr ⟨q,t*256,rfl,λo ho=>h.h.p.bQ htn o (by omega)⟩) (Hl.Z t t)
   clear Vr;go_wp2_with fail;clear c6 c0;refine aG (mX B M q Y (k+1) w.heap.size (w.heap.size+1) x {m with L:=Ls t} OS.ino OS.o d P w) 15 (by kernel_rfl) (by kernel_rfl) (by kernel_rfl) (by kernel_rfl) (by kernel_rfl) (by decide) (ST.Z.below ag.drew) ?_;clear ST;simp only[List.take,List.drop];intro hne;have hc0:∀y:a9 (mX B M q Y (k+1) w.heap.size (w.heap.size+1) x {m with L:=Ls t} OS.ino OS.o d P w),y.W.cell? ⟨M,0,none⟩=some (.slice (some ⟨q,0,none⟩) x.n x.n):=λy=>y.h.h.p.c0
   repeat go_big_quiet_step (fail)
   go_big_quiet_want
   go_big_quiet_op
   refine⟨_,λs=>aN s (λW hW=>(SF.Z W hW).mono λe w' h=>⟨h.1,h.2▸hW⟩),?_⟩
   go_big_quiet_on
   refine wpQuiet_nil ?_;intro w3 h3';have fh:=ah h3'.Z;clear h3' hne hc0 SF;go_wp2_with fail;refine(dm q (t*256) 256 256 252 vc (Ls t t) w3 (by decide) (by decide) (by decide) hcb.1 hcb.2 (λo ho=>fh.Z.h.p.bQ htn o ho) (Hl.Z t t) (λi hi=>fh.Z.h.p.im.soft (t*256+i))).mono ?_;rintro e w4 ⟨rfl,hpt⟩;have ey:=ah (fh.Z.to (fh.Z.self.oy (fh.Z.h.p.kD htn (by decide) hpt) (.cE hpt.only (.inr rfl))));clear fh hpt;go_wp2_with fail;go_roundw
   case rel=>first|exact⟨t+1,by omega,(λe=>by cases e),by go_num,by rw[xc.Z];exact ey.Z⟩|((repeat apply Exists.intro);refine⟨?_,rfl⟩;exact⟨t+1,by omega,(λe=>by cases e),by go_num,by rw[xc.Z];exact ey.Z⟩)
   simp[intOf];omega
 obtain rfl:t=2:=by omega
 cases sm with
 |false=>exact absurd (hts rfl) (by decide)
 |true=>
  have HE:Hd ((∀b,bu (P.pQ x m.L ys k b))/\g9 M q Y (k+1) x {m with L:=P.pQ x m.L ys k} (P.jH ys k).ino w wr):=by
   have e:P.pQ x m.L ys k=Ls 2:=jP.Z;have h:=ST.Z.h;rw[OP.Z] at h;rw[e];exact⟨Hl.Z 2,h⟩
  clear ST jP Hl SG ON Yr OM hts ht ht2;go_wp2_with fail;go_ret;exact⟨rfl,HE.Z⟩
end Go.Proofs.YtphamecphmbipaaGreatDoor
