/- Texts of this claim, merged. -/
import Derived.Test.YtphamecphmbipaaGreatDoorK29
set_option linter.unusedVariables false
namespace Go.Proofs.YtphamecphmbipaaGreatDoor
open Go.RowKit
open Lib (hid)
variable {g i s t k N M q p s0 Y o:Nat} {A B:World->Prop} {l:Nat->Bool} {W':World} {z:Nat->Int} {L:Nat->Nat->Int} {m:MS} {P:PlanD} {ys:Nat->aK} {x:Im}
theorem dJ.Fm{S:Nat->Prop}{a b c:World}(h:dJ S a b)(k:an g b c)(hg:a.heap.size<=g):dJ S a c:=
 ⟨k.os.trans h.os,k.tape.trans h.tape,k.output.trans h.output,by rw[k.size];exact h.size,λj hj hn=>(k.block j (by omega)).trans (h.block j hj hn)⟩
abbrev gQ(x:Im)(o:Nat):Array Value:=#[.int .i64 (x.g:Int),.int .i64 (x.s:Int),.int .i64 (x.i:Int),.int .i64 (x.j:Int),.int .u32 (o:Int)]
structure mN(B M q Y N p s0:Nat)(x:Im)(m:MS)(ys:Nat->aK)(o:Nat)(d:dy)(P:PlanD)(w W:World):Prop where
 h:gP M q Y N x m ys w W
 bx:At W p 27 (dx x.g x.s x.i x.j d P)
 su:At W s0 47 (gQ x o)
 r:iJ B d P W
 lp:w.heap.size<=p
 ls:w.heap.size<=s0
 np:¬MY M q Y p
 ns:¬MY M q Y s0
 Uw:p≠s0
 nb:∀j,j<B->¬MY M q Y j
 lb:B<=w.heap.size
section
variable {B M q Y N p s0 o:Nat} {x:Im} {m m':MS} {ys ys':Nat->aK} {d:dy} {P:PlanD} {w W W':World}
theorem mN.to(h:mN B M q Y N p s0 x m ys o d P w W)(hs:gP M q Y N x m' ys' W W'):mN B M q Y N p s0 x m' ys' o d P w W':=
 ⟨⟨hs.p,hs.y,h.h.gr.trans hs.gr⟩,h.bx.o5 hs.gr h.np,h.su.o5 hs.gr h.ns,h.r.o5 hs.gr (Nat.le_trans h.lb h.h.gr.size) h.nb,h.lp,h.ls,h.np,h.ns,h.Uw,h.nb,h.lb⟩
theorem mN.self(h:mN B M q Y N p s0 x m ys o d P w W):gP M q Y N x m ys W W:=⟨h.h.p,h.h.y,.refl _ _⟩
theorem mN.below(h:mN B M q Y N p s0 x m ys o d P w W)(hb:Below W.heap.size W W'):mN B M q Y N p s0 x m ys o d P w W':=h.to (h.self.below hb)
theorem gP.only(h:gP M q Y N x m ys w W)(k:an g W W')(hg:¬MY M q Y g)(hl:w.heap.size<=g):gP M q Y N x m ys w W':=by
 obtain⟨f,hf⟩:=h.p.k;exact⟨⟨⟨f,hf.only k λe=>hg (.inl e.symm)⟩,h.p.im.only k λe=>hg (.inr (.inl e.symm))⟩,h.y.only k λe=>hg (.inr (.inr e.symm)),h.gr.Fm k hl⟩
theorem mN.only(h:mN B M q Y N p s0 x m ys o d P w W)(k:an g W W')(hg:¬MY M q Y g)(hl:w.heap.size<=g)(OT:g≠p){o':Nat}(hsu:At W' s0 47 (gQ x o')):mN B M q Y N p s0 x m ys o' d P w W':=
 ⟨h.h.only k hg hl,h.bx.only k (Ne.symm OT),hsu,h.r.below (k.below (Nat.le_trans h.lb hl)),h.lp,h.ls,h.np,h.ns,h.Uw,h.nb,h.lb⟩
theorem mN.Ui(h:mN B M q Y N p s0 x m ys o d P w W)(o':Nat):mN B M q Y N p s0 x m ys o' d P w (W.setCell ⟨s0,4,none⟩ (.int .u32 (o':Int))):=
 h.only (an.setCell W ⟨s0,4,none⟩ _) h.ns h.ls (Ne.symm h.Uw) (h.su.setCell 4 (.int .u32 (o':Int)))
theorem gP.IL(h:gP M q Y N x m ys w W)(hi:i<N)(v:Int):gP M q Y N x m (af ys i {ys i with next:=v}) w (W.setCell ⟨Y,i*16+15,none⟩ (.int .u32 v)):=by
 have ho:=an.setCell W ⟨Y,i*16+15,none⟩ (.int .u32 v);obtain⟨f,hf⟩:=h.p.k;refine⟨⟨⟨f,hf.only ho h.SQ⟩,h.p.im.only ho h.neq⟩,?_,h.gr.trans (.bW ho (.inr (.inr rfl)))⟩;have:=h.y.dz (k:=i) (j:=15) hi (by omega) (λj=>nH ys j) (.int .u32 v);refine this.congr λj hj=> ?_
 unfold vM af
 by_cases e:j=i
 ·subst e;rw[if_pos rfl,if_pos rfl];rfl
 ·rw[if_neg e,if_neg e]
theorem gP.next(h:gP M q Y N x m ys w W)(hi:i<N):W.cell? ⟨Y,i*16+15,none⟩=some (.int .u32 (ys i).next):=by
 have:=h.y.bI i hi 15 _ rfl;rwa[Nat.zero_add] at this
end
theorem tM(P:PlanD)(ys:Nat->aK):∀k,(P.jr ys k).last<=k
 |0=>Nat.le_refl _
 |k+1=>by
  have ih:=tM P ys k;show(P.q8 k (P.jr ys k)).last<=k+1;unfold PlanD.q8;split
  ·split<;>exact Nat.le_refl _
  ·omega
structure wS(s t:Nat)(A B:World->Prop)(l:Nat->Bool)(W:World):Prop where
 no:l s=false->A W
 ye:l s=true->B W/\l t=true
theorem wS.mono{W:World}(h:wS s t A B l W)(hA:A W->A W')(hB:B W->B W'):wS s t A B l W':=⟨λe=>hA (h.no e),λe=>⟨hB (h.ye e).1,(h.ye e).2⟩⟩
theorem wS.next{W:World}(h:wS s t A B l W)(hk:k≠s):wS s t A B (λj=>j==k||l j) W:=by
 have e:((s==k)||l s)=l s:=by rw[show(s==k)=false from by simpa using Ne.symm hk,Bool.false_or]
 exact⟨λh'=>h.no (e▸h'),λh'=>⟨(h.ye (e▸h')).1,by show((t==k)||l t)=true;rw[(h.ye (e▸h')).2,Bool.or_true]⟩⟩
theorem wS.lists{l':Nat->Bool}{W:World}(h:wS s t A B l W)(es:l s=l' s)(et:l t=l' t):wS s t A B l' W:=⟨λe=>h.no (es.trans e),λe=>⟨(h.ye (es.trans e)).1,et▸(h.ye (es.trans e)).2⟩⟩
theorem wS.all{C:World->Prop}{W:World}(h:wS s t A B l W)(hA:A W->C W)(hB:B W->C W):C W:=by
 cases e:l s with
 |false=>exact hA (h.no e)
 |true=>exact hB (h.ye e).1
theorem xS(hz:bm z){y:aK}(hy:y.Ok)(a:Int):bm (xT z a y):=by
 unfold xT;split
 ·rename_i h
  unfold ny at h;rw[Bool.and_eq_true,decide_eq_true_eq] at h;have:=aK.uy hy (aK.mA h.2).2.2 14;exact eY hz (λi=>by rw[<-aK.tC];exact this i) _ _
 ·exact hz
theorem uT(x:Im)(hL:∀b,bm (L b)){ino:Nat->aK}(hi:∀k,k<N->(ino k).Ok):∀k,k<=N->∀b,bm ((PlanD.tab x L ino k).L b)
 |0,_=>hL
 |k+1,hk=>by
  have ih:=uT x hL hi k (by omega);show∀b,bm ((PlanD.xn x ino k (PlanD.tab x L ino k)).L b);unfold PlanD.xn;dsimp only;have h1:∀b,bm (af (PlanD.tab x L ino k).L (x.ib (k+1)) (xT ((PlanD.tab x L ino k).L (x.ib (k+1))) (x.ia (k+1):Nat) (ino k)) b):=λb=>by
   unfold af;split
   ·exact xS (ih _) (hi k (by omega)) _
   ·exact ih b
  split
  ·intro b
   unfold af;split
   ·exact tz _ _
   ·exact h1 b
  ·exact h1
structure PA(M q n p ds m:Nat)(gc:List Value)(f:Nat->List Value)(W:World):Prop where
 c0:W.cell? ⟨M,0,none⟩=some (.slice (some ⟨q,0,none⟩) n n)
 lH:W.rangeAt p 0 gc
 a:az W ds 67 3 m f
 lM:M<W.heap.size
 lp:p<W.heap.size
theorem PA.below{n ds m:Nat}{gc:List Value}{f:Nat->List Value}{W:World}(h:PA M q n p ds m gc f W)(hb:Below W.heap.size W W'):PA M q n p ds m gc f W':=
 ⟨(World.cell?_of_block (w:=W) (a:=⟨M,0,none⟩) (hb.block M h.lM)).trans h.c0,λk v hk=>(World.cell?_of_block (w:=W) (a:=⟨p,0+k,none⟩) (hb.block p h.lp)).trans (h.lH k v hk),h.a.below hb,Nat.lt_of_lt_of_le h.lM hb.size,Nat.lt_of_lt_of_le h.lp hb.size⟩
theorem Br{P:PlanD}(hN:N<=301)(hi:∀k,k<N->(ys k).Ok):∀k,k<=301->∀t,t<N->((P.jr ys k).ino t).Ok
 |0,_=>hi
 |k+1,hk=>by
  have ih:=Br hN hi (P:=P) k (by omega);show∀t,t<N->((P.q8 k (P.jr ys k)).ino t).Ok;unfold PlanD.q8;split
  ·split
   ·exact ih
   ·intro t ht
    dsimp only;unfold af;split
    ·rename_i e
     have h:=ih t ht;rw[e] at h;exact⟨h.kind,h.aJ,h.gen,h.size,h.p,by dsimp only;omega⟩
    ·exact ih t ht
  ·exact ih
abbrev Eg(f e n:Nat->Int)(k:Nat):List Value:=[.int .i64 (f k),.int .i64 (e k),.int .i64 (n k)]
structure ij(B M q Y N p s0 ds:Nat)(x:Im)(m:MS)(ys:Nat->aK)(o:Nat)(d:dy)(P:PlanD)(f e n:Nat->Int)(w W:World):Prop where
 s:mN B M q Y N p s0 x m ys o d P w W
 a:az W ds 67 3 x.g (Eg f e n)
 nd:¬MY M q Y ds
 K7:ds≠p
 K6:ds≠s0
 ld:w.heap.size<=ds
section
variable {B M q Y N p s0 ds o:Nat} {x:Im} {m m':MS} {ys ys':Nat->aK} {d:dy} {P:PlanD} {f e n:Nat->Int} {w W W':World}
theorem ij.to(h:ij B M q Y N p s0 ds x m ys o d P f e n w W)(hs:gP M q Y N x m' ys' W W'):ij B M q Y N p s0 ds x m' ys' o d P f e n w W':=
 ⟨h.s.to hs,h.a.o5 hs.gr h.nd,h.nd,h.K7,h.K6,h.ld⟩
theorem ij.self(h:ij B M q Y N p s0 ds x m ys o d P f e n w W):gP M q Y N x m ys W W:=h.s.self
theorem ij.below(h:ij B M q Y N p s0 ds x m ys o d P f e n w W)(hb:Below W.heap.size W W'):ij B M q Y N p s0 ds x m ys o d P f e n w W':=h.to (h.self.below hb)
theorem ij.nE(h:ij B M q Y N p s0 ds x m ys o d P f e n w W)(ht:t<N):W.rangeAt Y (t*16) (ys t).arr.toList:=by
 have:=h.s.h.y.bI.range t ht;rwa[Nat.zero_add] at this
theorem ij.mI(h:ij B M q Y N p s0 ds x m ys o d P f e n w W)(ht:t<x.g):W.cell? ⟨ds,t*3+2,none⟩=some (.int .i64 (n t)):=by
 have:=h.a.bI t ht 2 _ rfl;rwa[Nat.zero_add] at this
theorem ij.Ur(h:ij B M q Y N p s0 ds x m ys o d P f e n w W)(ht:t<x.g)(v:Int):ij B M q Y N p s0 ds x m ys o d P f e (af n t v) w (W.setCell ⟨ds,t*3+2,none⟩ (.int .i64 v)):=by
 have ho:=an.setCell W ⟨ds,t*3+2,none⟩ (.int .i64 v);refine⟨h.s.only ho h.nd h.ld h.K7 (h.s.su.only ho (Ne.symm h.K6)),?_,h.nd,h.K7,h.K6,h.ld⟩;refine(h.a.dz (k:=t) (j:=2) ht (by omega) (λj=>rfl) (.int .i64 v)).congr λj hj=> ?_
 by_cases e':j=t
 ·subst e';simp[af,Eg]
 ·simp[af,Eg,e']
theorem ij.Up(h:ij B M q Y N p s0 ds x m ys o d P f e n w W)(ht:t<x.g)(v:Int):ij B M q Y N p s0 ds x m ys o d P (af f t v) e n w (W.setCell ⟨ds,t*3,none⟩ (.int .i64 v)):=by
 have ho:=an.setCell W ⟨ds,t*3,none⟩ (.int .i64 v);refine⟨h.s.only ho h.nd h.ld h.K7 (h.s.su.only ho (Ne.symm h.K6)),?_,h.nd,h.K7,h.K6,h.ld⟩;refine(h.a.dz (k:=t) (j:=0) ht (by omega) (λj=>rfl) (.int .i64 v)).congr λj hj=> ?_
 by_cases e':j=t
 ·subst e';simp[af,Eg]
 ·simp[af,Eg,e']
theorem ij.Uq(h:ij B M q Y N p s0 ds x m ys o d P f e n w W)(ht:t<x.g)(v:Int):ij B M q Y N p s0 ds x m ys o d P f (af e t v) n w (W.setCell ⟨ds,t*3+1,none⟩ (.int .i64 v)):=by
 have ho:=an.setCell W ⟨ds,t*3+1,none⟩ (.int .i64 v);refine⟨h.s.only ho h.nd h.ld h.K7 (h.s.su.only ho (Ne.symm h.K6)),?_,h.nd,h.K7,h.K6,h.ld⟩;refine(h.a.dz (k:=t) (j:=1) ht (by omega) (λj=>rfl) (.int .i64 v)).congr λj hj=> ?_
 by_cases e':j=t
 ·subst e';simp[af,Eg]
 ·simp[af,Eg,e']
theorem ij.c1(h:ij B M q Y N p s0 ds x m ys o d P f e n w W)(ht:t<x.g):W.cell? ⟨ds,t*3,none⟩=some (.int .i64 (f t))/\W.cell? ⟨ds,t*3+1,none⟩=some (.int .i64 (e t)):=by
 have h0:=h.a.bI t ht 0 _ rfl;have h1:=h.a.bI t ht 1 _ rfl;rw[Nat.zero_add] at h0 h1;exact⟨h0,h1⟩
theorem ij.congr{f' e':Nat->Int}(h:ij B M q Y N p s0 ds x m ys o d P f e n w W)(hf:∀j,j<x.g->f j=f' j)(he:∀j,j<x.g->e j=e' j):ij B M q Y N p s0 ds x m ys o d P f' e' n w W:=
 ⟨h.s,h.a.congr λj hj=>by unfold Eg;rw[hf j hj,he j hj],h.nd,h.K7,h.K6,h.ld⟩
theorem ij.lH(h:ij B M q Y N p s0 ds x m ys o d P f e n w W):W.rangeAt p 0 (aa x.g x.s x.i x.j).toList:=λk v hk=>by
 match k,hk with
 |0,hk=>injection hk with hk;subst hk;exact h.s.bx.cell (i:=0) rfl
 |1,hk=>injection hk with hk;subst hk;exact h.s.bx.cell (i:=1) rfl
 |2,hk=>injection hk with hk;subst hk;exact h.s.bx.cell (i:=2) rfl
 |3,hk=>injection hk with hk;subst hk;exact h.s.bx.cell (i:=3) rfl
 |k+4,hk=>cases hk
end
theorem KP(x:Im)(L:Nat->Nat->Int)(ino:Nat->aK):∀k g,0<=(PlanD.tab x L ino k).d g/\(PlanD.tab x L ino k).d g<=k
 |0,_=>⟨Int.le_refl _,Int.le_refl _⟩
 |k+1,g=>by
  have ih:=KP x L ino k;show 0<=(PlanD.xn x ino k (PlanD.tab x L ino k)).d g/\(PlanD.xn x ino k (PlanD.tab x L ino k)).d g<=_;unfold PlanD.xn;dsimp only;split
  ·unfold af
   split
   ·have:=ih (k/x.i);omega
   ·have:=ih g;omega
  ·have:=ih g;omega
def lQ(g:Nat->Int)(t j:Nat):Int:=if j<t then g j else 0
theorem yC(g:Nat->Int)(t:Nat):af (lQ g t) t (g t)=lQ g (t+1):=by
 funext j
 unfold af lQ
 by_cases e:j=t
 ·subst e;rw[if_pos rfl,if_pos (by omega)]
 ·rw[if_neg e]
  by_cases h:j<t
  ·rw[if_pos h,if_pos (by omega)]
  ·rw[if_neg h,if_neg (by omega)]
structure PC(M q n s0:Nat)(su:Array Value)(W:World):Prop where
 c0:W.cell? ⟨M,0,none⟩=some (.slice (some ⟨q,0,none⟩) n n)
 su:At W s0 47 su
 lM:M<W.heap.size
theorem PC.below{n:Nat}{su:Array Value}{W:World}(h:PC M q n s0 su W)(hb:Below W.heap.size W W'):PC M q n s0 su W':=
 ⟨(World.cell?_of_block (w:=W) (a:=⟨M,0,none⟩) (hb.block M h.lM)).trans h.c0,h.su.below hb h.su.lt,Nat.lt_of_lt_of_le h.lM hb.size⟩
theorem jh.lM{W:World}(h:jh M q x m W):M<W.heap.size:=by obtain⟨f,hf⟩:=h.k;exact hf.lt
theorem Fk(P:PlanD)(ys:Nat->aK):∀k,(P.jr ys k).o<=k+1
 |0=>Nat.zero_le _
 |k+1=>by
  have ih:=Fk P ys k;show(P.q8 k (P.jr ys k)).o<=k+2;unfold PlanD.q8;split
  ·split
   ·exact Nat.le_refl _
   ·dsimp only;omega
  ·omega
structure XY(M q n Y t:Nat)(y:aK)(W:World):Prop where
 c0:W.cell? ⟨M,0,none⟩=some (.slice (some ⟨q,0,none⟩) n n)
 rg:W.rangeAt Y (t*16) y.arr.toList
def RL(Y q b a t N:Nat)(y z:Nat->Int)(E:Int)(ia:Value)(f:Prop)(k:Nat)(v:Value):Prop:=
 if k=11 then v=aL y else if k=12 then v= .int .i64 (a:Int) else if k=13 then v= .slice (some ⟨Y,0,none⟩) N N else if k=14 then v= .int .i64 (t:Int)
 else if k=15 then v= .pointer (some ⟨Y,0+t*16,none⟩) else if k=16 then v=ia
 else if k=17\/k=18 then v= .tuple #[aL z,.int .i64 E]/\f
 else if k=19 then v=aL z/\f
 else if k=20 then v= .int .i64 E
 else if k=21 then v= .pointer (some ⟨q,0+b*256,none⟩) else v=undef
theorem RL.up{b a:Nat}{y:Nat->Int}{E:Int}{ia:Value}{f f':Prop}{v:Value}(h:RL Y q b a t N y z E ia f k v)(hl:f->f'):RL Y q b a t N y z E ia f' k v:=by
 unfold RL at h ⊢
 by_cases h1:k=11
 ·rwa[if_pos h1] at h ⊢
 rw[if_neg h1] at h ⊢
 by_cases h2:k=12
 ·rwa[if_pos h2] at h ⊢
 rw[if_neg h2] at h ⊢
 by_cases h3:k=13
 ·rwa[if_pos h3] at h ⊢
 rw[if_neg h3] at h ⊢
 by_cases h4:k=14
 ·rwa[if_pos h4] at h ⊢
 rw[if_neg h4] at h ⊢
 by_cases h5:k=15
 ·rwa[if_pos h5] at h ⊢
 rw[if_neg h5] at h ⊢
 by_cases h6:k=16
 ·rwa[if_pos h6] at h ⊢
 rw[if_neg h6] at h ⊢
 by_cases h7:k=17\/k=18
 ·rw[if_pos h7] at h ⊢;exact⟨h.1,hl h.2⟩
 rw[if_neg h7] at h ⊢
 by_cases h8:k=19
 ·rw[if_pos h8] at h ⊢;exact⟨h.1,hl h.2⟩
 rw[if_neg h8] at h ⊢;exact h
def PlanD.pA(P:PlanD)(x:Im)(L:Nat->Nat->Int)(ino:Nat->aK)(n:Nat):Nat->Nat->Int:=
 let s:=P.jr ino n
 let t:=PlanD.tab x L s.ino (n+1)
 let L:=PlanD.oW (P.ti x.n) P.nc (PlanD.mD x s.o t)
 if P.sums then PlanD.qz 1 (PlanD.qz 0 L) else L
theorem mN.P4{B:Nat}{d:dy}{w W:World}(h:mN B M q Y N p s0 x m ys o d P w W):∀j,MY M q Y j->j<W.heap.size:=λj hj=>by
 rcases hj with rfl|rfl|rfl
 ·obtain⟨f,hf⟩:=h.h.p.k;exact hf.lt
 ·exact h.h.p.im.lt
 ·exact h.h.y.lt
structure tr(B M q Y N p s0 c:Nat)(x:Im)(m:MS)(ys:Nat->aK)(o:Nat)(d:dy)(P:PlanD)(t:Nat)(w W:World):Prop where
 s:mN B M q Y N p s0 x m ys o d P w W
 a:At W c 149 #[.int .i64 (P.cb t),.int .i64 (P.ca t),.int .u8 (P.co t)]
 nc:¬MY M q Y c
section
variable {B M q Y N p s0 c o t:Nat} {x:Im} {m m':MS} {ys ys':Nat->aK} {d:dy} {P:PlanD} {w W W':World}
theorem tr.to(h:tr B M q Y N p s0 c x m ys o d P t w W)(hs:gP M q Y N x m' ys' W W'):tr B M q Y N p s0 c x m' ys' o d P t w W':=⟨h.s.to hs,h.a.o5 hs.gr h.nc,h.nc⟩
theorem tr.below(h:tr B M q Y N p s0 c x m ys o d P t w W)(hb:Below W.heap.size W W'):tr B M q Y N p s0 c x m ys o d P t w W':=h.to (h.s.self.below hb)
theorem mN.chg(h:mN B M q Y N p s0 x m ys o d P w W){cs:Array Value}(ha:At W' W.heap.size 149 #[.int .i64 (P.cb t),.int .i64 (P.ca t),.int .u8 (P.co t)])(k:an W.heap.size (W.alloc (.cells cs 149)) W'):tr B M q Y N p s0 W.heap.size x m ys o d P t w W':=by
 have h1:=h.below (W':=W.alloc (.cells cs 149)) ((Below.refl _ _).alloc (Nat.le_refl _) _);have hn:¬MY M q Y W.heap.size:=λe=>Nat.lt_irrefl _ (h.P4 _ e)
 have e1:W.heap.size≠p:=by have:=h.bx.lt;omega
 have e2:s0≠W.heap.size:=by have:=h.su.lt;omega
 exact⟨h1.only k hn h.h.gr.size e1 (h1.su.only k e2),ha,hn⟩
end
theorem FP(a b c:Value):(Tryz.prog.info? 149).map (·.size)=some (#[a,b,c]:Array Value).size:=by kernel_rfl
theorem IX(a b c:Int):(#[.int .i64 a,.int .i64 b,.int .u8 c]:Array Value).all (·.oneCell')=true:=by kernel_rfl
theorem pq(g o k:Nat)(L:Int)(hL:L=(k:Int))(h3:k<=256)(W:World):
  (Instr.sliceAt 32 (.pointer (some ⟨g,o,none⟩)) none (some (.int .i64 L)) none).run Tryz.prog W= .ok (.slice (some ⟨g,o,none⟩) k 256) W:=by
 subst hL;have hal:Tryz.prog.arrayLen 32=256:=by kernel_rfl
 have hsz:∀W,(Go.sizeOf (Tryz.prog.elem 32)).run Tryz.prog W= .ok 1 W:=λW=>by kernel_rfl
 rw[run_sliceAt_array_h W 32 _ (by kernel_rfl) .i64 (k:Int) (by omega) (by rw[hal];omega),hsz,hal];simp only[Result.andThen,slicedAt,Int.toNat_natCast,Nat.mul_one]
 rfl
theorem Mu(v:Int):(-255<=v.tmod 256/\v.tmod 256<=255)/\(v.tmod 256+256).tmod 256=(((v%256).toNat:Nat):Int):=by
 by_cases h:0<=v
 ·have e:v.tmod 256=v%256:=Int.tmod_eq_emod_of_nonneg h
  rw[e,Int.tmod_eq_emod_of_nonneg (by omega)];omega
 ·have e:v.tmod 256= -((-v)%256):=by
   rw[<-Int.tmod_eq_emod_of_nonneg (by omega:0<= -v),Int.neg_tmod,Int.neg_neg]
  rw[e,Int.tmod_eq_emod_of_nonneg (by omega)];omega
theorem AB{t:PlanD.TS}(h:∀b,bm (t.L b)):∀b,bm (PlanD.mD x o t b):=λb=>by
 unfold PlanD.mD af;split
 ·exact uo _ _ _ _ _ _ _ _
 ·split
  ·exact xp _ _ _ _ _
  ·exact h b
theorem BX(hB:P.Bd){n:Nat}(h:∀b,bm (L b)):∀k b,bm (PlanD.oW (P.ti n) k L b)
 |0,b=>h b
 |k+1,b=>by
  have ih:=BX hB h (n:=n) k;show bm (P.ti n k (PlanD.oW (P.ti n) k L) b);unfold PlanD.ti;split
  ·unfold af
   split
   ·refine eY (ih _) (λi=> ?_) _ _
    have h1:=ih (P.cb k).toNat (P.ca k%256).toNat;have h2:=hB.co k;have:=Nat.xor_lt_two_pow (n:=8) (x:=((PlanD.oW (P.ti n) k L) (P.cb k).toNat (P.ca k%256).toNat).toNat) (y:=(P.co k).toNat) (by omega) (by omega);exact⟨Int.natCast_nonneg _,Int.ofNat_lt.2 this⟩
   ·exact ih b
  ·exact ih b
theorem Iv(h:∀b,bm (L b)):∀b,bm (PlanD.qz k L b):=λb=>by
 unfold PlanD.qz af;split
 ·exact oa (h k)
 ·exact h b
set_option maxRecDepth 100000 in
set_option maxHeartbeats 16000000 in
theorem C8(B M q Y N:Nat)(x:Im)(hx:x.Ok)(m:MS)(ys:Nat->aK)(hm:∀b,bm (m.L b))(hY:∀k,k<N->(ys k).Ok)(Ra:1<=N)(hN:N<=x.ni)(d:dy)(P:PlanD)(hB:P.Bd)(hS:P.Small)(hNP:N<=P.nf+1)
  (w:World) (hs:gP M q Y N x m ys w w) (hP:iJ B d P w) (hBw:B<=w.heap.size) (OP:∀j,j<B->¬MY M q Y j) (Lt:∀j,MY M q Y j->j<w.heap.size):
  Calls Tryz.prog 30 #[.pointer (some ⟨M,0,none⟩),tK x.g x.s x.i x.j d P,.slice (some ⟨Y,0,none⟩) N N] w λe w'=>
   e= .returned (.slice (some ⟨q,0,none⟩) x.n x.n)/\(∀b,bm (P.pA x m.L ys (N-1) b))/\gP M q Y N x {m with L:=P.pA x m.L ys (N-1)} (P.jr ys (N-1)).ino w w':=by
 have cX:Hid (mN B M q Y N w.heap.size (w.heap.size+1) x m ys 0 d P w ((w.alloc (.cells (dx x.g x.s x.i x.j d P) 27)).alloc (.cells (gQ x 0) 47))):=by
  have hb:Below w.heap.size w (w.alloc (.cells (dx x.g x.s x.i x.j d P) 27)):=(Below.refl _ _).alloc (Nat.le_refl _) _;have hb2:Below w.heap.size w ((w.alloc (.cells (dx x.g x.s x.i x.j d P) 27)).alloc (.cells (gQ x 0) 47)):=hb.alloc (by simp) _;refine⟨hs.below hb2,(At.new w _ (dx x.g x.s x.i x.j d P)).alloc _,?_,hP.below (hb2.mono hBw),Nat.le_refl _,by omega,λe=>Nat.lt_irrefl _ (Lt _ e),λe=>by have:=Lt _ e;omega,by omega,OP,hBw⟩;have:=At.new (w.alloc (.cells (dx x.g x.s x.i x.j d P) 27)) 47 (gQ x 0);simpa using this
 have HX:=hid hx;have wX:=hid hB;have wW:=hid hS;have HM:=hid hm;have HYO:=hid hY;clear hx hB hS hs hP Lt OP hm hY;go_enter Tryz.func30,Tryz.ntmps30;go_wp2_with fail;obtain⟨N',rfl⟩:∃N',N=N'+1:=⟨N-1,by omega⟩;have O1:N'+1<=301:=by
  have:=wW.out.nf;omega
 go_loopw [8,9] (λu v wr=>∃k:Nat,k<=N'/\u= .int .i64 ((P.jr ys k).last:Int)/\v= .int .i64 ((k:Int)+1)/\mN B M q Y (N'+1) w.heap.size (w.heap.size+1) x m (P.jr ys k).ino (P.jr ys k).o d P w wr) (λ_ v _=>N'+2-(intOf v).toNat)
 case atStart=>exact⟨0,Nat.zero_le _,rfl,rfl,cX.out⟩
 case round=>
  clear cX;obtain⟨k,hk,rfl,rfl,st⟩:=hrel;have hlast:=tM P ys k;have Sm:Hid (P.jr ys (k+1)=P.q8 k (P.jr ys k)):=rfl;obtain⟨OS,O0⟩:∃OS,OS=P.jr ys k:=⟨_,rfl⟩;rw[<-O0] at hlast Sm st ⊢;have ST:=hid st;clear st
  by_cases hlt:k<N'
  ·have hlt':(k:Int)+1<(N':Int)+1:=by omega
   have Dv:k<P.nf:=by omega
   have Vy:(k:Int)<(P.nf:Int):=by omega
   have Jo:=wW.out.nf;have c4:wr.cell? ⟨w.heap.size,4,none⟩=some (.slice d.fa P.nf d.fc):=ST.out.bx.cell (i:=4) rfl;obtain⟨fb,fo,s5,co⟩:=ST.out.r.f.cell (j:=4) Dv rfl;rw[s5] at c4;obtain⟨bo,Nx⟩:∃bo,bo=(P.f k).ak:=⟨_,rfl⟩;rw[<-Nx] at co;obtain⟨la,Lk⟩:∃la,la=OS.last:=⟨_,rfl⟩;rw[<-Lk] at hlast ⊢;have su4:wr.cell? ⟨w.heap.size+1,4,none⟩=some (.int .u32 (OS.o:Int)):=ST.out.su.cell (i:=4) rfl;have sf4:wr.frozen? ⟨w.heap.size+1,4,none⟩=false:=ag ST.out.su 4;have QK:la<N'+1:=by omega
   have YQ:(la:Int)<(N':Int)+1:=by omega
   have nx:=ST.out.h.next QK
   have nf:=ST.out.h.y.soft (la*16+15);have TU:=hid Lk;clear s5 O0 Lk;cases bo with
   |false=>
    have LU:Hid (P.jr ys (k+1)=OS):=by show _=_;rw[Sm.out,PlanD.q8,<-Nx];rfl
    clear Nx;go_wp2_with fail;go_roundw
    case rel=>exact⟨k+1,by omega,by rw[LU.out,TU.out],by go_num,by rw[LU.out];exact ST.out⟩
    case measure=>simp[intOf];omega
   |true=>
    by_cases Nk:la=0
    ·have LU:Hid (P.jr ys (k+1)=⟨k+2,k+1,OS.ino⟩):=by show _=_;rw[Sm.out,PlanD.q8,<-Nx,if_pos rfl,if_pos (by rw[<-TU.out,Nk])]
     subst Nk;have aV:=hid (ST.out.Ui (k+2));clear Nx;go_wp2_with fail;go_roundw
     case rel=>exact⟨k+1,by omega,by rw[LU.out];go_num,by go_num,by rw[LU.out];exact aV.out⟩
     case measure=>simp[intOf];omega
    ·have LU:Hid (P.jr ys (k+1)=⟨OS.o,k+1,af OS.ino la {OS.ino la with next:=((k+2:Nat):Int)}⟩):=by show _=_;rw[Sm.out,PlanD.q8,<-Nx,if_pos rfl,if_neg (by rw[<-TU.out];exact Nk),TU.out]
     have aV:=hid (ST.out.to (ST.out.self.IL QK ((k+2:Nat):Int)));have q1:((la:Int)==0)=false:=by simp;omega
     clear Nx;go_wp2_with fail;go_roundw
     case rel=>exact⟨k+1,by omega,by rw[LU.out];go_num,by go_num,by rw[LU.out];exact aV.out⟩
     case measure=>simp[intOf];omega
  ·obtain rfl:k=N':=by omega
   have c0:wr.cell? ⟨w.heap.size,0,none⟩=some (.int .i64 (x.g:Int)):=ST.out.bx.cell (i:=0) rfl;obtain⟨h1,h2,h3,h4,h5,h6,h7,h8,h9,h10,h11⟩:=dL HX.out.may;have hmk:=λW=>dg (P:=Tryz.prog) 51 67 (kp 0 0 0) 3 24 Tryz.underlying51 jW .i64 .i64 x.g (by omega) (by omega) W
   clear h1 h2 h3 h4 h5 h6 h7 h8 h9 h10 h11 Sm hlast hlt hk;have uK:=hid (az.made (m:=3) wr (gK 0 0 0) rfl (by omega) x.g 67);have aV:Hid (mN B M q Y (k+1) w.heap.size (w.heap.size+1) x m OS.ino OS.o d P w (wr.alloc (.cells (madeCells (kp 0 0 0).cells (x.g*3)) 67))):=ST.out.below ((Below.refl _ _).alloc (Nat.le_refl _) _);have sZ:w.heap.size+1<wr.heap.size/\∀j,MY M q Y j->j<wr.heap.size:=⟨ST.out.su.lt,λj hj=>by
    rcases hj with rfl|rfl|rfl
    ·obtain⟨f,hf⟩:=ST.out.h.p.k;exact hf.lt
    ·exact ST.out.h.p.im.lt
    ·exact ST.out.h.y.lt⟩
   have mS:Hid (∀t,t<k+1->(OS.ino t).Ok):=by rw[O0];exact Br O1 HYO.out k (by omega)
   have HOO:Hid (0<=((OS.o:Nat):Int)/\((OS.o:Nat):Int)<4294967296):=by
    have:=Fk P ys k;rw[<-O0] at this;exact⟨by omega,by omega⟩
   have Oh:=hid O0;clear O0;clear ST;go_wp2_with fail;obtain⟨ds,hds⟩:∃ds,wr.heap.size=ds:=⟨_,rfl⟩;rw[hds] at uK sZ ⊢;have cf:Hid (ij B M q Y (k+1) w.heap.size (w.heap.size+1) ds x m OS.ino OS.o d P (λ_=>0) (λ_=>0) (λ_=>0) w (wr.alloc (.cells (madeCells (kp 0 0 0).cells (x.g*3)) 67))):=
    ⟨aV.out,uK.out.congr λi _=>rfl,λh=>Nat.lt_irrefl _ (sZ.2 _ h),by omega,by omega,by omega⟩
   clear uK hmk hds aV sZ c0;go_loopw [11,12,13,14,15,16,17] (λu _ _ _ _ _ _ wr=>∃t:Nat,t<=k+1/\u= .int .i64 (t:Int)/\ij B M q Y (k+1) w.heap.size (w.heap.size+1) ds x {m with L:=(PlanD.tab x m.L OS.ino t).L} OS.ino OS.o d P (λ_=>0) (λ_=>0) (PlanD.tab x m.L OS.ino t).d w wr) (λu _ _ _ _ _ _ _=>k+1-(intOf u).toNat)
   case atStart=>exact⟨0,Nat.zero_le _,rfl,cf.out⟩
   case round=>
    clear cf;obtain⟨t,ht,rfl,st⟩:=hrel;have ST:=hid st;have Hz:Hid (PlanD.tab x m.L OS.ino (t+1)=PlanD.xn x OS.ino t (PlanD.tab x m.L OS.ino t)):=rfl;have zy:Hid (∀b,bm ((PlanD.tab x m.L OS.ino t).L b)):=uT x HM.out mS.out t ht;have XQ:t+1<=k+1->Hid (∀b,bm ((PlanD.tab x m.L OS.ino (t+1)).L b)):=λh=>uT x HM.out mS.out (t+1) h
    have L2:Hid (∀g,0<=(PlanD.tab x m.L OS.ino t).d g/\(PlanD.tab x m.L OS.ino t).d g<=t):=KP x m.L OS.ino t;obtain⟨T,hT⟩:∃T,T=PlanD.tab x m.L OS.ino t:=⟨_,rfl⟩;have En:=hid hT;rw[<-hT] at ST Hz zy L2;clear st hT
    by_cases hlt:t<k+1
    ·have hlt':(t:Int)<(k:Int)+1:=by omega
     have hrg:=ST.out.lH;obtain⟨γ,hγ⟩:∃γ,γ=t/x.i:=⟨_,rfl⟩;obtain⟨r,hr⟩:∃r,r=t%x.i:=⟨_,rfl⟩;obtain⟨h1,h2,h3,h4,h5,h6,h7,h8,h9,h10,h11⟩:=dL HX.out.may;have hti:t=γ*x.i+r:=by rw[hγ,hr,Nat.mul_comm];exact(Nat.div_add_mod t x.i).symm
     have OL:r<x.i:=by rw[hr];exact Nat.mod_lt _ (by omega)
     have OJ:γ<x.g:=by
      rw[hγ];refine(Nat.div_lt_iff_lt_mul (by omega)).2 ?_;have:t<x.ni:=by omega
      exact this
     have hib:x.ib (t+1)=2+x.j+γ*x.s+(2+r/4):=by unfold Im.ib Im.st;rw[Nat.add_sub_cancel,<-hγ,<-hr];omega
     have QR:x.ia (t+1)=64*(r%4):=by unfold Im.ia;rw[Nat.add_sub_cancel,<-hr];omega
     have HHO:Hid (∀W,Calls Tryz.prog 66 #[bN x.g x.s x.i x.j,.int .i64 ((t:Int)+1)] W λe w'=>e= .returned (.tuple #[.int .i64 (γ:Int),.int .i64 (r:Int),.bool true])/\Below W.heap.size W w'):=λW=>by
      have:=z7 x.g x.s x.i x.j γ r HX.out.may OJ OL W;rwa[show((1+γ*x.i+r:Nat):Int)=(t:Int)+1 by rw[hti];push_cast;omega] at this
     have wK:Hid (∀W,Calls Tryz.prog 67 #[bN x.g x.s x.i x.j,.int .i64 ((t:Int)+1)] W λe w'=>e= .returned (.tuple #[.int .i64 ((x.ib (t+1):Nat):Int),.int .i64 ((x.ia (t+1):Nat):Int),.bool true])/\Below W.heap.size W w'):=λW=>by
      have:=oS x.g x.s x.i x.j γ r HX.out.may OJ OL W;rwa[show((1+γ*x.i+r:Nat):Int)=(t:Int)+1 by rw[hti];push_cast;omega,<-hib,<-QR] at this
     have kU:x.ib (t+1)<x.n:=by
      have:=HX.out.st OJ (d:=2+r/4) (by omega);unfold Im.st at this;omega
     have VE:x.ia (t+1)<=192:=by omega
     have acm:t<=301:=by omega
     clear h1 h2 h3 h4 h5 h6 h7 h8 h9 h10 h11 hib QR;obtain⟨b,hb⟩:∃b,b=x.ib (t+1):=⟨_,rfl⟩;obtain⟨a,ha⟩:∃a,a=x.ia (t+1):=⟨_,rfl⟩;rw[<-hb] at wK kU;rw[<-ha] at wK VE;have Py:=hid (And.intro hb ha);have G1:=hid (And.intro hγ hr);clear hb ha hγ hr hti;go_wp2_with (first|(refine aB rfl 23 (.tmp 66) rfl w.heap.size 0 (aa x.g x.s x.i x.j).toList _ rfl hrg Tryz.underlying23 rfl (by kernel_rfl) ?_))
     refine(HHO.out _).mono ?_;rintro e w1 ⟨rfl,hb1⟩;have aV:=hid (ST.out.below hb1);clear ST hb1 hrg HHO;have hrg:=aV.out.lH;go_wp2_with (first|(refine aB rfl 23 (.tmp 75) rfl w.heap.size 0 (aa x.g x.s x.i x.j).toList _ rfl hrg Tryz.underlying23 rfl (by kernel_rfl) ?_))
     refine(wK.out _).mono ?_;rintro e w2 ⟨rfl,hb2⟩;have cf:=hid (aV.out.below hb2);clear aV hb2 hrg wK;go_wp2_with fail;obtain⟨z,hz⟩:∃z,z=xT (T.L b) (a:Int) (OS.ino t):=⟨_,rfl⟩;obtain⟨E,hE⟩:∃E,E=jP (a:Int) (OS.ino t):=⟨_,rfl⟩;have zb:Hid (∀W,Calls Tryz.prog 63 #[aL (T.L b),.int .i64 (a:Int),(OS.ino t).val] W λe w'=>e= .returned (.tuple #[aL z,.int .i64 E])/\Below W.heap.size W w'):=λW=>by
      rw[hz,hE];exact EW (T.L b) (zy.out b) (a:Int) (OS.ino t) (mS.out t hlt) W
     have HZ:=hid hz;clear hz hE;have Q4:(b:Int)<(x.n:Int):=by omega
     apply Vp.br 11 (λl kk v W=>RL Y q b a t (k+1) (T.L b) z E (OS.ino t).val (l 11=true) kk v) (λl W=>wS 22 11 (ij B M q Y (k+1) w.heap.size (w.heap.size+1) ds x {m with L:=T.L} OS.ino OS.o d P (λ_=>0) (λ_=>0) T.d w) (ij B M q Y (k+1) w.heap.size (w.heap.size+1) ds x {m with L:=af T.L b z} OS.ino OS.o d P (λ_=>0) (λ_=>0) T.d w) l W) (XY M q x.n Y t (OS.ino t))
     case hm=>kernel_rfl
     case hd=>kernel_rfl
     case hpre=>kernel_rfl
     case hB=>kernel_rfl
     case hVl=>exactλl l' he i v W h=>h.up λe=>by rw[<-he 11 (by decide) (by decide)];exact e
     case hS=>exactλl l' W he h=>h.lists (he 22 (by decide) (by decide)) (he 11 (by decide) (by decide))
     case hSC=>exactλl W h=>wS.all (C:=XY M q x.n Y t (OS.ino t)) h (λh=>⟨h.s.h.p.c0,h.nE hlt⟩) (λh=>⟨h.s.h.p.c0,h.nE hlt⟩)
     case hVb=>exactλl i v W W' h hb=>h
     case hSb=>exactλl W W' h hb _=>h.mono (λh=>h.below hb) (λh=>h.below hb)
     case h0=>exact⟨λ_=>cf.out.below ⟨rfl,rfl,rfl,Nat.le_refl _,λ_ _=>rfl⟩,λe=>by cases e⟩
     case hwalk=>
      simp only[List.take];intro R hR hne;have hc0:∀y:aT (λW=>XY M q x.n Y t (OS.ino t) W/\R W),y.W.cell? ⟨M,0,none⟩=some (.slice (some ⟨q,0,none⟩) x.n x.n):=λy=>y.h.1.c0
      repeat go_big_quiet_step (fail)
      exact wpQuiet_nil rfl
     case hst=>
      simp only[List.drop];refine⟨?_,?_,?_,?_,?_,?_,?_,?_,?_,?_,?_,?_,trivial⟩
      ·intro l ac W hl hu h
       have e1:ac.tmps.getD 94 undef= .pointer (some ⟨q,b*256,none⟩):=((h.vals 10 94 (aq hu 10) rfl).pre (by decide) rfl).trans (by rfl);have hs:ij B M q Y (k+1) w.heap.size (w.heap.size+1) ds x {m with L:=T.L} OS.ino OS.o d P (λ_=>0) (λ_=>0) T.d w W:=by
        cases e:l 22 with
        |false=>exact h.st.no e
        |true=>have:=(h.st.ye e).2;rw[hl] at this;cases this
       have hr:=hs.s.h.p.im.bI.range b kU;rw[Nat.zero_add] at hr;exact Vm.bB h (by kernel_rfl) rfl rfl rfl hl _ (Vl.pR 32 (.tmp 94) rfl q (b*256) (dW T.L b) _ e1 hr Tryz.underlying32 rfl (by rw[aZ];exact au)) (λ_ _ hv=>hv.up λ_ hv=>hv.up λe=>rfl) (Vp.W.mk (by decide) rfl) (λs=>s.next (by decide))
      ·intro l ac W hl hu h
       have e3:ac.tmps.getD 16 undef= .int .i64 (a:Int):=h.old 16 (by kernel_rfl);exact Vm.bB h (by kernel_rfl) rfl rfl rfl hl _ (Vl.ea (.tmp 16) rfl e3) (λ_ _ hv=>hv.up λ_ hv=>hv.up λe=>by show((11==12)||l 11)=true;rw[e];rfl) (Vp.W.mk (by decide) rfl) (λs=>s.next (by decide))
      ·intro l ac W hl hu h
       have e3:ac.tmps.getD 2 undef= .slice (some ⟨Y,0,none⟩) (k+1) (k+1):=h.old 2 (by kernel_rfl);exact Vm.bB h (by kernel_rfl) rfl rfl rfl hl _ (Vl.ea (.tmp 2) rfl e3) (λ_ _ hv=>hv.up λ_ hv=>hv.up λe=>by show((11==13)||l 11)=true;rw[e];rfl) (Vp.W.mk (by decide) rfl) (λs=>s.next (by decide))
      ·intro l ac W hl hu h
       have e3:ac.tmps.getD 11 undef= .int .i64 (t:Int):=h.old 11 (by kernel_rfl);exact Vm.bB h (by kernel_rfl) rfl rfl rfl hl _ (Vl.ea (.tmp 11) rfl e3) (λ_ _ hv=>hv.up λ_ hv=>hv.up λe=>by show((11==14)||l 11)=true;rw[e];rfl) (Vp.W.mk (by decide) rfl) (λs=>s.next (by decide))
      ·intro l ac W hl hu h
       have e1:ac.tmps.getD 97 undef= .slice (some ⟨Y,0,none⟩) (k+1) (k+1):=(h.vals 13 97 (aq hu 13) rfl).post (by decide);have e2:ac.tmps.getD 98 undef= .int .i64 (t:Int):=(h.vals 14 98 (aq hu 14) rfl).post (by decide);exact Vm.bB h (by kernel_rfl) rfl rfl rfl hl _ (Vl.xM 86 63 (.tmp 97) (.tmp 98) rfl Tryz.underlying86 16 (by kernel_rfl) Y 0 (k+1) (k+1) t e1 e2 hlt) (λ_ _ hv=>hv.up λ_ hv=>hv.up λe=>by show((11==15)||l 11)=true;rw[e];rfl) (Vp.W.mk (by decide) rfl) (λs=>s.next (by decide))
      ·intro l ac W hl hu h
       have e1:ac.tmps.getD 99 undef= .pointer (some ⟨Y,0+t*16,none⟩):=(h.vals 15 99 (aq hu 15) rfl).post (by decide);rw[Nat.zero_add] at e1;have hr:W.rangeAt Y (t*16) (OS.ino t).arr.toList:=wS.all (C:=λW=>W.rangeAt Y (t*16) (OS.ino t).arr.toList) h.st (λh=>h.nE hlt) (λh=>h.nE hlt);exact Vm.bB h (by kernel_rfl) rfl rfl rfl hl _ (Vl.pR 63 (.tmp 99) rfl Y (t*16) (OS.ino t).arr.toList _ e1 hr Tryz.underlying63 rfl (by kernel_rfl)) (λ_ _ hv=>hv.up λ_ hv=>hv.up λe=>by show((11==16)||l 11)=true;rw[e];rfl) (Vp.W.mk (by decide) rfl) (λs=>s.next (by decide))
      ·intro l ac W hl hu h
       have u11:=aq hu 11 (by kernel_rfl);have e1:ac.tmps.getD 95 undef=aL (T.L b):=(h.vals 11 95 u11 rfl).post (by decide);have e2:ac.tmps.getD 96 undef= .int .i64 (a:Int):=(h.vals 12 96 (aq hu 12) rfl).post (by decide);have e3:ac.tmps.getD 100 undef=(OS.ino t).val:=(h.vals 16 100 (aq hu 16) rfl).post (by decide);refine Vm.step h (by kernel_rfl) rfl rfl rfl hl (Vl.iQ 63 #[aL (T.L b),.int .i64 (a:Int),(OS.ino t).val] (xO 63 (.tmp 95) (.tmp 96) (.tmp 100) _ _ _ _ rfl e1 e2 e3 (by kernel_rfl)) ?_);refine(zb.out W).mono ?_;rintro e W' ⟨rfl,hb⟩;have Uf:l 11=true:=u11;exact⟨_,rfl,_,rfl,λi d _ _ hv=>hv.up λ_ hv=>hv.up λe=>by show((11==17)||l 11)=true;rw[e];rfl,Vp.W.mk (by decide) ⟨rfl,by show((11==17)||l 11)=true;rw[Uf];rfl⟩,(h.st.mono (λh=>h.below hb) (λh=>h.below hb)).next (by decide)⟩
      ·intro l ac W hl hu h
       obtain⟨e1,u11⟩:ac.tmps.getD 101 undef= .tuple #[aL z,.int .i64 E]/\l 11=true:=(h.vals 17 101 (aq hu 17) rfl).post (by decide);exact Vm.bB h (by kernel_rfl) rfl rfl rfl hl _ (Vl.ea (.tmp 101) rfl e1) (λ_ _ hv=>hv.up λ_ hv=>hv.up λe=>by show((11==18)||l 11)=true;rw[e];rfl) (Vp.W.mk (by decide) ⟨rfl,by show((11==18)||l 11)=true;rw[u11];rfl⟩) (λs=>s.next (by decide))
      ·intro l ac W hl hu h
       obtain⟨e1,u11⟩:ac.tmps.getD 83 undef= .tuple #[aL z,.int .i64 E]/\l 11=true:=(h.vals 18 83 (aq hu 18) rfl).post (by decide);exact Vm.bB h (by kernel_rfl) rfl rfl rfl hl _ (Vl.fu (.tmp 83) 0 _ rfl e1 rfl) (λ_ _ hv=>hv.up λ_ hv=>hv.up λe=>by show((11==19)||l 11)=true;rw[e];rfl) (Vp.W.mk (by decide) ⟨rfl,by show((11==19)||l 11)=true;rw[u11];rfl⟩) (λs=>s.next (by decide))
      ·intro l ac W hl hu h
       obtain⟨e1,u11⟩:ac.tmps.getD 83 undef= .tuple #[aL z,.int .i64 E]/\l 11=true:=(h.vals 18 83 (aq hu 18) rfl).post (by decide);exact Vm.bB h (by kernel_rfl) rfl rfl rfl hl _ (Vl.fu (.tmp 83) 1 _ rfl e1 rfl) (λ_ _ hv=>hv.up λ_ hv=>hv.up λe=>by show((11==20)||l 11)=true;rw[e];rfl) (Vp.W.mk (by decide) rfl) (λs=>s.next (by decide))
      ·intro l ac W hl hu h
       have e1:ac.tmps.getD 87 undef= .slice (some ⟨q,0,none⟩) x.n x.n:=(h.vals 3 87 (aq hu 3) rfl).pre (by decide) rfl;have e2:ac.tmps.getD 88 undef= .int .i64 (b:Int):=(h.vals 4 88 (aq hu 4) rfl).pre (by decide) rfl;exact Vm.bB h (by kernel_rfl) rfl rfl rfl hl _ (Vl.xM 29 32 (.tmp 87) (.tmp 88) rfl Tryz.underlying29 256 (by kernel_rfl) q 0 x.n x.n b e1 e2 kU) (λ_ _ hv=>hv.up λ_ hv=>hv.up λe=>by show((11==21)||l 11)=true;rw[e];rfl) (Vp.W.mk (by decide) rfl) (λs=>s.next (by decide))
      ·intro l ac W hl hu h
       have e1:ac.tmps.getD 104 undef= .pointer (some ⟨q,0+b*256,none⟩):=(h.vals 21 104 (aq hu 21) rfl).post (by decide);rw[Nat.zero_add] at e1;obtain⟨e2,u11⟩:ac.tmps.getD 102 undef=aL z/\l 11=true:=(h.vals 19 102 (aq hu 19) rfl).post (by decide);have hs:=h.st.no hl;have gn:W.there q (b*256) (Ks .u8 256 z).toArray.size:=by rw[bK];exact hs.s.h.p.im.there kU
       refine Vm.step h (by kernel_rfl) rfl rfl rfl hl (Vl.gw 32 (.tmp 104) (.tmp 102) rfl q (b*256) (Ks .u8 256 z).toArray e1 e2 gn (by rw[bK];exact au) (iD _ _ _) ?_);exact⟨_,rfl,λi d _ _ hv=>hv.up λ_ hv=>hv.up λe=>by show((11==22)||l 11)=true;rw[e];rfl,Vp.W.mk (by decide) rfl,⟨λe=>(by have e:true=false:=e;cases e),λ_=>⟨hs.to (hs.self.n6 (hs.s.h.p.put kU z).1 (.bW (hs.s.h.p.put kU z).2 (.inr rfl))),by show((11==22)||l 11)=true;rw[u11];rfl⟩⟩⟩
     intro a' w3 h hall;have bO:=hall [95,96,97,98,99,100,101,83,102,103,104] (by kernel_rfl);clear hall;have Z3:a'.tmps.getD 95 undef=aL (T.L b):=(h.vals 11 95 rfl rfl).post (by decide);have Z2:a'.tmps.getD 96 undef= .int .i64 (a:Int):=(h.vals 12 96 rfl rfl).post (by decide);have Z1:a'.tmps.getD 97 undef= .slice (some ⟨Y,0,none⟩) (k+1) (k+1):=(h.vals 13 97 rfl rfl).post (by decide);have Z0:a'.tmps.getD 98 undef= .int .i64 (t:Int):=(h.vals 14 98 rfl rfl).post (by decide);have ZZ:a'.tmps.getD 99 undef= .pointer (some ⟨Y,0+t*16,none⟩):=(h.vals 15 99 rfl rfl).post (by decide);have Ry:a'.tmps.getD 100 undef=(OS.ino t).val:=(h.vals 16 100 rfl rfl).post (by decide);have Rx:a'.tmps.getD 101 undef= .tuple #[aL z,.int .i64 E]:=((h.vals 17 101 rfl rfl).post (by decide):_/\_).1;have Z4:a'.tmps.getD 83 undef= .tuple #[aL z,.int .i64 E]:=((h.vals 18 83 rfl rfl).post (by decide):_/\_).1;have Rw:a'.tmps.getD 102 undef=aL z:=((h.vals 19 102 rfl rfl).post (by decide):_/\_).1;have Rv:a'.tmps.getD 103 undef= .int .i64 E:=(h.vals 20 103 rfl rfl).post (by decide);have Ru:a'.tmps.getD 104 undef= .pointer (some ⟨q,0+b*256,none⟩):=(h.vals 21 104 rfl rfl).post (by decide);have eP:Hid (ij B M q Y (k+1) w.heap.size (w.heap.size+1) ds x {m with L:=af T.L b z} OS.ino OS.o d P (λ_=>0) (λ_=>0) T.d w w3):=(h.st.ye rfl).1;rw[List.foldl_cons,List.foldl_cons,List.foldl_cons,List.foldl_cons,List.foldl_cons,List.foldl_cons,List.foldl_cons,List.foldl_cons,List.foldl_cons,List.foldl_cons,List.foldl_cons,List.foldl_nil,Z3,Z2,Z1,Z0,ZZ,Ry,Rx,Z4,Rw,Rv,Ru] at bO
     simp only[Act.put,List.setIfInBounds_toArray,List.set_cons_succ,List.set_cons_zero] at bO;subst bO;clear h cf zb Z3 Z2 Z1 Z0 ZZ Ry Rx Z4 Rw Rv Ru;have ck:=eP.out.s.h.y.bI t hlt 0 _ rfl;rw[Nat.zero_add,Nat.add_zero] at ck;have HZB:Hid (∀c,bm (af T.L b z c)):=λc=>by
      unfold af;split
      ·rw[HZ.out];exact xS (zy.out b) (mS.out t hlt) _
      ·exact zy.out c
     have M9:r<2048:=by have:=(dL HX.out.may).2.2.2.2.2;omega
     have Sa:Hid (PlanD.tab x m.L OS.ino (t+1)=⟨if(OS.ino t).kind≠0 then af (af T.L b z) (x.st γ+1) (qx (af T.L b z (x.st γ+1)) r) else af T.L b z,if(OS.ino t).kind=2 then af T.d γ (T.d γ+1) else T.d⟩):=by
      show _=_;rw[Hz.out,PlanD.xn,<-Py.out.1,<-Py.out.2,<-G1.out.1,<-G1.out.2,<-HZ.out]
     obtain⟨kd,fE⟩:∃kd,kd=(OS.ino t).kind:=⟨_,rfl⟩;rw[<-fE] at Sa ck;have pZ:=L2.out γ;obtain⟨dv,VR⟩:∃dv,dv=T.d γ:=⟨_,rfl⟩;rw[<-VR] at Sa pZ;have SB:=hid VR;have Ca:=hid fE;clear fE VR Hz HZ
     by_cases ke:kd=0
     ·subst ke
      have Eo:Hid (PlanD.tab x m.L OS.ino (t+1)=⟨af T.L b z,T.d⟩):=by show _=_;rw[Sa.out,if_neg (by decide),if_neg (by decide)]
      go_wp2_with fail;go_roundw
      case rel=>first|exact⟨t+1,by omega,by go_num,by rw[Eo.out];exact eP.out⟩|((repeat apply Exists.intro);refine⟨?_,rfl⟩;exact⟨t+1,by omega,by go_num,by rw[Eo.out];exact eP.out⟩)
      case measure=>simp[intOf];omega
     have q1:(kd !=0)=true:=by simp[ke]
     go_wp2_with fail;refine(tQ M q x HX.out {m with L:=af T.L b z} HZB.out γ 1 r OJ (by decide) M9 _ eP.out.s.h.p).mono ?_;rintro e w4 ⟨rfl,hs4⟩;have eI:=hid (eP.out.to (eP.out.self.n6 hs4.m (.ju hs4.gr (.inr rfl))));clear eP hs4 ck;have ck:w4.cell? ⟨Y,t*16,none⟩=some (.int .u8 kd):=by
      have:=eI.out.s.h.y.bI t hlt 0 _ rfl;rw[Nat.zero_add,Nat.add_zero] at this;rw[Ca.out];exact this
     have cd:w4.cell? ⟨ds,γ*3+2,none⟩=some (.int .i64 dv):=by rw[SB.out];exact eI.out.mI OJ
     have fd:=eI.out.a.soft (γ*3+2);have acb:(γ:Int)<(x.g:Int):=by omega
     by_cases hk2:kd=2
     ·subst hk2
      have Eo:Hid (PlanD.tab x m.L OS.ino (t+1)=⟨af (af T.L b z) (x.st γ+1) (qx (af T.L b z (x.st γ+1)) r),af T.d γ (dv+1)⟩):=by show _=_;rw[Sa.out,if_pos (by decide),if_pos rfl]
      have ec:=hid (eI.out.Ur OJ (dv+1));go_wp2_with fail;go_roundw
      case rel=>first|exact⟨t+1,by omega,by go_num,by rw[Eo.out];exact ec.out⟩|((repeat apply Exists.intro);refine⟨?_,rfl⟩;exact⟨t+1,by omega,by go_num,by rw[Eo.out];exact ec.out⟩)
      case measure=>simp[intOf];omega
     have q2:(kd==2)=false:=by simp[hk2]
     have Eo:Hid (PlanD.tab x m.L OS.ino (t+1)=⟨af (af T.L b z) (x.st γ+1) (qx (af T.L b z (x.st γ+1)) r),T.d⟩):=by show _=_;rw[Sa.out,if_pos ke,if_neg hk2]
     go_wp2_with fail;go_roundw
     case rel=>first|exact⟨t+1,by omega,by go_num,by rw[Eo.out];exact eI.out⟩|((repeat apply Exists.intro);refine⟨?_,rfl⟩;exact⟨t+1,by omega,by go_num,by rw[Eo.out];exact eI.out⟩)
     case measure=>simp[intOf];omega
    ·obtain rfl:t=k+1:=by omega
     have c0:wr.cell? ⟨w.heap.size,0,none⟩=some (.int .i64 (x.g:Int)):=ST.out.s.bx.cell (i:=0) rfl;have Xx:Hid (T=PlanD.tab x m.L OS.ino (k+1)):=En.out;clear Hz XQ En L2 hlt;obtain⟨gF,YW⟩:∃gF:Nat->Int,gF=λj=>(x.s:Int)-(aE (bt (T.L (x.st j))) x.s:Nat):=⟨_,rfl⟩
     obtain⟨gE,YX⟩:∃gE:Nat->Int,gE=λj=>(x.i:Int)-(aE (bt (T.L (x.st j+1))) x.i:Nat):=⟨_,rfl⟩
     have XN:Hid (∀j,gF j=(x.s:Int)-(aE (bt (T.L (x.st j))) x.s:Nat)):=λj=>by rw[YW]
     have DZ:Hid (∀j,gE j=(x.i:Int)-(aE (bt (T.L (x.st j+1))) x.i:Nat)):=λj=>by rw[YX]
     clear YW YX;go_wp2_with fail;clear c0;have cX:Hid (ij B M q Y (k+1) w.heap.size (w.heap.size+1) ds x {m with L:=T.L} OS.ino OS.o d P (lQ gF 0) (lQ gE 0) T.d w wr):=ST.out;clear ST;go_loopw [18,19,20] (λu _ _ wr=>∃t:Nat,t<=x.g/\u= .int .i64 (t:Int)/\ij B M q Y (k+1) w.heap.size (w.heap.size+1) ds x {m with L:=T.L} OS.ino OS.o d P (lQ gF t) (lQ gE t) T.d w wr) (λu _ _ _=>x.g-(intOf u).toNat)
     case atStart=>exact⟨0,Nat.zero_le _,rfl,cX.out⟩
     case round=>
      clear cX;obtain⟨t,ht,rfl,st⟩:=hrel;have ST:=hid st;clear st;have c0:wr.cell? ⟨w.heap.size,0,none⟩=some (.int .i64 (x.g:Int)):=ST.out.s.bx.cell (i:=0) rfl
      by_cases hlt:t<x.g
      ·have hlt':(t:Int)<(x.g:Int):=by omega
       have hrg:=ST.out.lH;obtain⟨h1,h2,h3,h4,h5,h6,h7,h8,h9,h10,h11⟩:=dL HX.out.may;have Li:x.s<=2048:=by have:=HX.out.iu;have:=HX.out.st hlt (d:=x.s-1) (by omega);omega
       have zm:x.i<=2048:=by omega
       have ht4:t<=2048:=by omega
       have hst:=HX.out.st hlt (d:=0) (by omega);have kS:=HX.out.st hlt (d:=1) (by omega);rw[Nat.add_zero] at hst;have Sf:Hid (∀W,Calls Tryz.prog 69 #[bN x.g x.s x.i x.j,.int .i64 (t:Int)] W λe w'=>e= .returned (.tuple #[.int .i64 ((x.st t:Nat):Int),.bool true])/\Below W.heap.size W w'):=λW=>kM x.g x.s x.i x.j t HX.out.may hlt W
       have Tc:=XN.out t;have hge:=DZ.out t;have iX:Hid (∀W,Calls Tryz.prog 70 #[aL (T.L (x.st t)),.int .i64 (x.s:Int)] W λe w'=>e= .returned (.int .i64 ((aE (bt (T.L (x.st t))) x.s:Nat):Int))/\Below W.heap.size W w'):=λW=>oT _ (zy.out _) x.s Li W
       have gM:Hid (∀W,Calls Tryz.prog 70 #[aL (T.L (x.st t+1)),.int .i64 (x.i:Int)] W λe w'=>e= .returned (.int .i64 ((aE (bt (T.L (x.st t+1))) x.i:Nat):Int))/\Below W.heap.size W w'):=λW=>oT _ (zy.out _) x.i zm W
       have hk1:=eF (bt (T.L (x.st t))) x.s;have hk2:=eF (bt (T.L (x.st t+1))) x.i;obtain⟨S,hS⟩:∃S,S=x.st t:=⟨_,rfl⟩;rw[<-hS] at hst kS Sf Tc hge iX gM hk1 hk2;obtain⟨n1,tW⟩:∃n1,n1=aE (bt (T.L S)) x.s:=⟨_,rfl⟩;obtain⟨n2,Jr⟩:∃n2,n2=aE (bt (T.L (S+1))) x.i:=⟨_,rfl⟩;rw[<-tW] at Tc iX hk1;rw[<-Jr] at hge gM hk2;have HGT:=hid (And.intro Tc hge);have acr:(S:Int)<(x.n:Int):=by omega
       have Yx:(S:Int)+1<(x.n:Int):=by omega
       have JH:S<=2048:=by have:=HX.out.iu;omega
       have w1_:wrap64 ((x.s:Int)-(n1:Int))=(x.s:Int)-(n1:Int):=IntWalk.wrap64_in _ (by omega);have w2_:wrap64 ((x.i:Int)-(n2:Int))=(x.i:Int)-(n2:Int):=IntWalk.wrap64_in _ (by omega);clear h1 h2 h3 h4 h5 h6 h7 h8 h9 h10 h11 hS tW Jr Tc hge;go_wp2_with (first|(refine aB rfl 23 (.tmp 137) rfl w.heap.size 0 (aa x.g x.s x.i x.j).toList _ rfl hrg Tryz.underlying23 rfl (by kernel_rfl) ?_))
       refine(Sf.out _).mono ?_;rintro e w1 ⟨rfl,hb1⟩;have aV:=hid (ST.out.below hb1);clear ST hb1 hrg Sf c0;go_wp2_with fail;refine aA (ij B M q Y (k+1) w.heap.size (w.heap.size+1) ds x {m with L:=T.L} OS.ino OS.o d P (lQ gF t) (lQ gE t) T.d w) 19 (by kernel_rfl) (by kernel_rfl) (by kernel_rfl) (by kernel_rfl) (by kernel_rfl) (by decide) (aV.out.below (Below.refl _ _).drew) ?_;clear aV;simp only[List.take,List.drop];intro hne;have hc0:∀y:aT (ij B M q Y (k+1) w.heap.size (w.heap.size+1) ds x {m with L:=T.L} OS.ino OS.o d P (lQ gF t) (lQ gE t) T.d w),y.W.cell? ⟨M,0,none⟩=some (.slice (some ⟨q,0,none⟩) x.n x.n):=λy=>y.h.s.h.p.c0
       have Nt:∀y:aT (ij B M q Y (k+1) w.heap.size (w.heap.size+1) ds x {m with L:=T.L} OS.ino OS.o d P (lQ gF t) (lQ gE t) T.d w),y.W.cell? ⟨w.heap.size,1,none⟩=some (.int .i64 (x.s:Int)):=λy=>y.h.s.bx.cell (i:=1) rfl
       repeat go_big_quiet_step (fail)
       refine aH rfl 32 (.tmp 153) rfl q (S*256) rfl (dW T.L S) _ (λW h=>by have:=aF.range h.s.h.p.im.bI S hst;rwa[Nat.zero_add] at this) Tryz.underlying32 rfl (by rw[aZ];exact au) ?_;refine ae ?_
       repeat go_big_quiet_step (fail)
       go_big_quiet_want
       go_big_quiet_op
       refine⟨_,λs=>aG s (λW hW=>(iX.out W).mono λe w' h=>⟨h.1,hW.below h.2⟩),?_⟩
       go_big_quiet_on
       repeat go_big_quiet_step (fail)
       refine wpQuiet_nil ?_;intro w2 h2';have cf:=hid h2'.out;clear h2' hne hc0 Nt;have cd:=(cf.out.c1 hlt).1;have fd:=cf.out.a.soft (t*3);have eP:=hid (cf.out.Up hlt ((x.s:Int)-(n1:Int)));rw[show af (lQ gF t) t ((x.s:Int)-(n1:Int))=lQ gF (t+1) by rw[<-HGT.out.1,yC]] at eP;go_wp2_with fail;clear cd fd cf;refine aA (ij B M q Y (k+1) w.heap.size (w.heap.size+1) ds x {m with L:=T.L} OS.ino OS.o d P (lQ gF (t+1)) (lQ gE t) T.d w) 20 (by kernel_rfl) (by kernel_rfl) (by kernel_rfl) (by kernel_rfl) (by kernel_rfl) (by decide) (eP.out.below (Below.refl _ _).drew) ?_;clear eP;simp only[List.take,List.drop];intro hne;have hc0:∀y:aT (ij B M q Y (k+1) w.heap.size (w.heap.size+1) ds x {m with L:=T.L} OS.ino OS.o d P (lQ gF (t+1)) (lQ gE t) T.d w),y.W.cell? ⟨M,0,none⟩=some (.slice (some ⟨q,0,none⟩) x.n x.n):=λy=>y.h.s.h.p.c0
       have Nt:∀y:aT (ij B M q Y (k+1) w.heap.size (w.heap.size+1) ds x {m with L:=T.L} OS.ino OS.o d P (lQ gF (t+1)) (lQ gE t) T.d w),y.W.cell? ⟨w.heap.size,2,none⟩=some (.int .i64 (x.i:Int)):=λy=>y.h.s.bx.cell (i:=2) rfl
       repeat go_big_quiet_step (fail)
       refine aH rfl 32 (.tmp 173) rfl q ((S+1)*256) rfl (dW T.L (S+1)) _ (λW h=>by have:=aF.range h.s.h.p.im.bI (S+1) kS;rwa[Nat.zero_add] at this) Tryz.underlying32 rfl (by rw[aZ];exact au) ?_;refine ae ?_
       repeat go_big_quiet_step (fail)
       go_big_quiet_want
       go_big_quiet_op
       refine⟨_,λs=>aG s (λW hW=>(gM.out W).mono λe w' h=>⟨h.1,hW.below h.2⟩),?_⟩
       go_big_quiet_on
       repeat go_big_quiet_step (fail)
       refine wpQuiet_nil ?_;intro w4 h4';have eI:=hid h4'.out;clear h4' hne hc0 Nt;have cd:=(eI.out.c1 hlt).2;have fd:=eI.out.a.soft (t*3+1);have ec:=hid (eI.out.Uq hlt ((x.i:Int)-(n2:Int)));rw[show af (lQ gE t) t ((x.i:Int)-(n2:Int))=lQ gE (t+1) by rw[<-HGT.out.2,yC]] at ec;go_wp2_with fail;go_roundw
       case rel=>first|exact⟨t+1,by omega,by go_num,ec.out⟩|((repeat apply Exists.intro);refine⟨?_,rfl⟩;exact⟨t+1,by omega,by go_num,ec.out⟩)
       case measure=>simp[intOf];omega
      ·obtain ht9:t=x.g:=by omega
       subst ht9;have HFG:Hid (∀j,j<x.g->lQ gF x.g j=gF j):=λj hj=>by unfold lQ;rw[if_pos hj]
       have HEG:Hid (∀j,j<x.g->lQ gE x.g j=gE j):=λj hj=>by unfold lQ;rw[if_pos hj]
       go_wp2_with fail;clear c0;obtain⟨z0,hz0⟩:∃z0,z0=n7 x.g x.s x.i x.j (OS.o:Nat):=⟨_,rfl⟩;obtain⟨E0,lZ⟩:∃E0,E0=xq x.g x.s x.i x.j (OS.o:Nat):=⟨_,rfl⟩;have Pm:Hid (∀W,Calls Tryz.prog 60 #[gu x.g x.s x.i x.j (OS.o:Nat)] W λe w'=>e= .returned (.tuple #[aL z0,.int .i64 E0])/\Below W.heap.size W w'):=λW=>by
        rw[hz0,lZ];exact oP x.g x.s x.i x.j (OS.o:Nat) HOO.out W
       have RY:=hid hz0;clear hz0 lZ;have Jr:2<=x.n:=by have:=HX.out.st (k:=0) (d:=0) (by have:=(dL HX.out.may).1;omega) (by have:=(dL HX.out.may);omega);unfold Im.st at this;omega
       apply Vp.br 10 (λl kk v W=>v=undef) (λl W=>wS 10 10 (ij B M q Y (k+1) w.heap.size (w.heap.size+1) ds x {m with L:=T.L} OS.ino OS.o d P (lQ gF x.g) (lQ gE x.g) T.d w) (ij B M q Y (k+1) w.heap.size (w.heap.size+1) ds x {m with L:=af T.L 0 z0} OS.ino OS.o d P (lQ gF x.g) (lQ gE x.g) T.d w) l W) (PC M q x.n (w.heap.size+1) (gQ x OS.o))
       case hm=>kernel_rfl
       case hd=>kernel_rfl
       case hpre=>kernel_rfl
       case hB=>kernel_rfl
       case hVl=>exactλl l' he i v W h=>h
       case hS=>exactλl l' W he h=>h.lists (he 10 (by decide) (by decide)) (he 10 (by decide) (by decide))
       case hSC=>exactλl W h=>wS.all (C:=PC M q x.n (w.heap.size+1) (gQ x OS.o)) h (λh=>⟨h.s.h.p.c0,h.s.su,h.s.h.p.lM⟩) (λh=>⟨h.s.h.p.c0,h.s.su,h.s.h.p.lM⟩)
       case hVb=>exactλl i v W W' h hb=>h
       case hSb=>exactλl W W' h hb _=>h.mono (λh=>h.below hb) (λh=>h.below hb)
       case h0=>exact⟨λ_=>ST.out.below ⟨rfl,rfl,rfl,Nat.le_refl _,λ_ _=>rfl⟩,λe=>by cases e⟩
       case hwalk=>
        simp only[List.take];intro R hR hne;have hc0:∀y:aT (λW=>PC M q x.n (w.heap.size+1) (gQ x OS.o) W/\R W),y.W.cell? ⟨M,0,none⟩=some (.slice (some ⟨q,0,none⟩) x.n x.n):=λy=>y.h.1.c0
        repeat go_big_quiet_step (fail)
        refine aH rfl 47 (.tmp 7) rfl (w.heap.size+1) 0 rfl (gQ x OS.o).toList _ (λW h=>h.1.su.range) Tryz.underlying47 rfl (by kernel_rfl) ?_;refine ae ?_
        go_big_quiet_want
        go_big_quiet_op
        refine⟨_,λs=>aG s (λW hW=>(Pm.out W).mono λe w' h=>⟨h.1,hW.1.below h.2,hR _ _ hW.2 h.2⟩),?_⟩
        go_big_quiet_on
        repeat go_big_quiet_step (fail)
        exact wpQuiet_nil rfl
       case hst=>
        simp only[List.drop];refine⟨?_,trivial⟩;intro l ac W hl hu h;have e1:ac.tmps.getD 191 undef= .pointer (some ⟨q,0,none⟩):=(h.vals 9 191 (aq hu 9) rfl).pre (by decide) rfl;have e2:ac.tmps.getD 189 undef=aL z0:=(h.vals 7 189 (aq hu 7) rfl).pre (by decide) rfl;have hs:=h.st.no hl;have gn:W.there q 0 (Ks .u8 256 z0).toArray.size:=by rw[bK];have:=hs.s.h.p.im.there (k:=0) (by omega);rwa[Nat.zero_mul] at this
        have Ds:=hs.s.h.p.put (b:=0) (by omega) z0;rw[Nat.zero_mul] at Ds;refine Vm.step h (by kernel_rfl) rfl rfl rfl hl (Vl.gw 32 (.tmp 191) (.tmp 189) rfl q 0 (Ks .u8 256 z0).toArray e1 e2 gn (by rw[bK];exact au) (iD _ _ _) ?_);exact⟨_,rfl,λi d _ _ hv=>hv.up λ_ hv=>hv,Vp.W.mk (by decide) rfl,⟨λe=>(by have e:true=false:=e;cases e),λ_=>⟨hs.to (hs.self.n6 Ds.1 (.bW Ds.2 (.inr rfl))),rfl⟩⟩⟩
       intro a' w5 h hall;have bO:=hall [] (by kernel_rfl);clear hall;have ec:Hid (ij B M q Y (k+1) w.heap.size (w.heap.size+1) ds x {m with L:=af T.L 0 z0} OS.ino OS.o d P (lQ gF x.g) (lQ gE x.g) T.d w w5):=(h.st.ye rfl).1;rw[List.foldl_nil] at bO;subst bO;clear h ST Pm;go_wp2_with fail;have iW:=hid (ec.out.congr HFG.out HEG.out);clear ec HFG HEG;obtain⟨z1,hz1⟩:∃z1,z1=kh x.g x.s x.i x.j x.g gF gE T.d:=⟨_,rfl⟩;obtain⟨E1,Zy⟩:∃E1,E1=pc x.g x.s x.i x.j x.g gF gE T.d:=⟨_,rfl⟩;have HDS:Hid (∀W,az W ds 67 3 x.g (Eg gF gE T.d)->Calls Tryz.prog 61 #[bN x.g x.s x.i x.j,.slice (some ⟨ds,0,none⟩) x.g x.g] W λe w'=>e= .returned (.tuple #[aL z1,.int .i64 E1])/\Below W.heap.size W w'):=λW hW=>by
        rw[hz1,Zy];exact jl x.g x.s x.i x.j (some ⟨ds,0,none⟩) x.g x.g gF gE T.d (by have:=(dL HX.out.may);omega) W (.inr ⟨ds,0,rfl,hW.bI⟩)
       have HZ1:=hid hz1;clear hz1 Zy;apply Vp.br 12 (λl kk v W=>v=undef) (λl W=>wS 12 12 (ij B M q Y (k+1) w.heap.size (w.heap.size+1) ds x {m with L:=af T.L 0 z0} OS.ino OS.o d P gF gE T.d w) (ij B M q Y (k+1) w.heap.size (w.heap.size+1) ds x {m with L:=af (af T.L 0 z0) 1 z1} OS.ino OS.o d P gF gE T.d w) l W) (PA M q x.n w.heap.size ds x.g (aa x.g x.s x.i x.j).toList (Eg gF gE T.d))
       case hm=>kernel_rfl
       case hd=>kernel_rfl
       case hpre=>kernel_rfl
       case hB=>kernel_rfl
       case hVl=>exactλl l' he i v W h=>h
       case hS=>exactλl l' W he h=>h.lists (he 12 (by decide) (by decide)) (he 12 (by decide) (by decide))
       case hSC=>exactλl W h=>wS.all (C:=PA M q x.n w.heap.size ds x.g (aa x.g x.s x.i x.j).toList (Eg gF gE T.d)) h (λh=>⟨h.s.h.p.c0,h.lH,h.a,h.s.h.p.lM,h.s.bx.lt⟩) (λh=>⟨h.s.h.p.c0,h.lH,h.a,h.s.h.p.lM,h.s.bx.lt⟩)
       case hVb=>exactλl i v W W' h hb=>h
       case hSb=>exactλl W W' h hb _=>h.mono (λh=>h.below hb) (λh=>h.below hb)
       case h0=>exact⟨λ_=>iW.out.below ⟨rfl,rfl,rfl,Nat.le_refl _,λ_ _=>rfl⟩,λe=>by cases e⟩
       case hwalk=>
        simp only[List.take];intro R hR hne;have hc0:∀y:aT (λW=>PA M q x.n w.heap.size ds x.g (aa x.g x.s x.i x.j).toList (Eg gF gE T.d) W/\R W),y.W.cell? ⟨M,0,none⟩=some (.slice (some ⟨q,0,none⟩) x.n x.n):=λy=>y.h.1.c0
        repeat go_big_quiet_step (fail)
        refine aH rfl 23 (.tmp 197) rfl w.heap.size 0 rfl (aa x.g x.s x.i x.j).toList _ (λW h=>h.1.lH) Tryz.underlying23 rfl (by kernel_rfl) ?_;refine ae ?_
        repeat go_big_quiet_step (fail)
        go_big_quiet_want
        go_big_quiet_op
        refine⟨_,λs=>aG s (λW hW=>(HDS.out W hW.1.a).mono λe w' h=>⟨h.1,hW.1.below h.2,hR _ _ hW.2 h.2⟩),?_⟩
        go_big_quiet_on
        repeat go_big_quiet_step (fail)
        exact wpQuiet_nil rfl
       case hst=>
        simp only[List.drop];refine⟨?_,trivial⟩;intro l ac W hl hu h;have e1:ac.tmps.getD 203 undef= .pointer (some ⟨q,256,none⟩):=(h.vals 11 203 (aq hu 11) rfl).pre (by decide) rfl;have e2:ac.tmps.getD 201 undef=aL z1:=(h.vals 9 201 (aq hu 9) rfl).pre (by decide) rfl;have hs:=h.st.no hl;have gn:W.there q 256 (Ks .u8 256 z1).toArray.size:=by rw[bK];have:=hs.s.h.p.im.there (k:=1) (by omega);rwa[Nat.one_mul] at this
        have Ds:=hs.s.h.p.put (b:=1) (by omega) z1;rw[Nat.one_mul] at Ds;refine Vm.step h (by kernel_rfl) rfl rfl rfl hl (Vl.gw 32 (.tmp 203) (.tmp 201) rfl q 256 (Ks .u8 256 z1).toArray e1 e2 gn (by rw[bK];exact au) (iD _ _ _) ?_);exact⟨_,rfl,λi d _ _ hv=>hv.up λ_ hv=>hv,Vp.W.mk (by decide) rfl,⟨λe=>(by have e:true=false:=e;cases e),λ_=>⟨hs.to (hs.self.n6 Ds.1 (.bW Ds.2 (.inr rfl))),rfl⟩⟩⟩
       intro a' w7 h hall;have bO:=hall [] (by kernel_rfl);clear hall;have Ek:Hid (ij B M q Y (k+1) w.heap.size (w.heap.size+1) ds x {m with L:=af (af T.L 0 z0) 1 z1} OS.ino OS.o d P gF gE T.d w w7):=(h.st.ye rfl).1;rw[List.foldl_nil] at bO;subst bO;clear h iW HDS;go_wp2_with fail;have HHL:Hid (PlanD.mD x OS.o T=af (af T.L 0 z0) 1 z1):=by
        show _=_;unfold PlanD.mD;rw[RY.out,HZ1.out,show gF=_ from funext XN.out,show gE=_ from funext DZ.out]
       obtain⟨L0,tZ⟩:∃L0,L0=PlanD.mD x OS.o T:=⟨_,rfl⟩;have A6:=hid tZ;have SI:Hid (∀b,bm (L0 b)):=by show∀b,bm (L0 b);rw[tZ];exact AB zy.out
       have tj:Hid (mN B M q Y (k+1) w.heap.size (w.heap.size+1) x {m with L:=L0} OS.ino OS.o d P w w7):=by
        show mN _ _ _ _ _ _ _ _ _ _ _ _ _ _ _;rw[tZ,HHL.out];exact Ek.out.s
       clear tZ HHL Ek RY HZ1 XN DZ;obtain⟨Lc,Rc⟩:∃Lc:Nat->Nat->Nat->Int,Lc=λt=>PlanD.oW (P.ti x.n) t L0:=⟨_,rfl⟩
       have Ow:Hid (Lc 0=L0):=by show _=_;rw[Rc];rfl
       have gj:Hid (∀t,Lc (t+1)=P.ti x.n t (Lc t)):=λt=>by rw[Rc];rfl
       have SG:Hid (∀t b,bm (Lc t b)):=λt b=>by rw[Rc];exact BX wX.out SI.out t b
       have HLC:=hid Rc;clear Rc;go_loopw [21,22,23] (λu _ _ wr=>∃t:Nat,t<=P.nc/\u= .int .i64 (t:Int)/\mN B M q Y (k+1) w.heap.size (w.heap.size+1) x {m with L:=Lc t} OS.ino OS.o d P w wr) (λu _ _ _=>P.nc-(intOf u).toNat)
       case atStart=>exact⟨0,Nat.zero_le _,rfl,by rw[Ow.out];exact tj.out⟩
       case round=>
        clear tj;obtain⟨t,ht,rfl,st⟩:=hrel;have ST:=hid st;have c5:wr.cell? ⟨w.heap.size,5,none⟩=some (.slice d.ca P.nc d.cc):=st.bx.cell (i:=5) rfl;clear st
        by_cases hlt:t<P.nc
        ·have hlt':(t:Int)<(P.nc:Int):=by omega
         have Vh:=wW.out.nc;obtain⟨cb,co,JD,-⟩:=ST.out.r.c.cell (j:=0) hlt rfl;have hrg:wr.rangeAt cb (co+t*3) (WR P t):=λj v hv=>by
          obtain⟨b',o',e,hc⟩:=ST.out.r.c.cell hlt hv;rw[JD] at e;cases e;exact hc
         rw[JD] at c5;have SF:=hid (gj.out t);have hA0:At (wr.alloc (.cells #[.int .i64 0,.int .i64 0,.int .u8 0] 149)) wr.heap.size 149 #[.int .i64 0,.int .i64 0,.int .u8 0]:=At.new _ _ _;clear JD;go_wp2_with (first|(refine aB rfl 149 (.tmp 214) rfl cb (co+t*3) (WR P t) _ rfl hrg Tryz.underlying149 rfl (by kernel_rfl) ?_)|(refine ax rfl 149 (.tmp 22) (.tmp 215) rfl wr.heap.size #[.int .i64 (P.cb t),.int .i64 (P.ca t),.int .u8 (P.co t)] _ rfl rfl hA0 (FP _ _ _) rfl (IX _ _ _) ?_))
         intro w1 ha1 vQ;have aV:=hid (ST.out.chg (t:=t) ha1 vQ);clear ST ha1 vQ hA0 hrg c5;obtain⟨c,hc⟩:∃c,c=wr.heap.size:=⟨_,rfl⟩;rw[<-hc] at aV ⊢;clear hc;have V6:=wX.out.cb t;have V8:=wX.out.ca t;have Ns:=wX.out.co t;obtain⟨vb,hvb⟩:∃vb,vb=P.cb t:=⟨_,rfl⟩;obtain⟨va,SW⟩:∃va,va=P.ca t:=⟨_,rfl⟩;obtain⟨vo,SV⟩:∃vo,vo=P.co t:=⟨_,rfl⟩;have D5:Hid (Lc (t+1)=if 0<=vb/\vb<(x.n:Int) then af (Lc t) vb.toNat (over (Lc t vb.toNat) (va%256).toNat 1 (λ_=>(((Lc t vb.toNat (va%256).toNat).toNat^^^vo.toNat:Nat):Int))) else Lc t):=by
          show _=_;rw[SF.out,PlanD.ti,<-hvb,<-SW,<-SV]
         rw[<-hvb] at V6;rw[<-SW] at V8;rw[<-SV] at Ns;have Xu:=hid (And.intro hvb (And.intro SW SV));clear hvb SW SV SF;have Pv:Hid (∀W,tr B M q Y (k+1) w.heap.size (w.heap.size+1) c x {m with L:=Lc t} OS.ino OS.o d P t w W->W.cell? ⟨c,0,none⟩=some (.int .i64 vb)/\W.cell? ⟨c,1,none⟩=some (.int .i64 va)/\W.cell? ⟨c,2,none⟩=some (.int .u8 vo)):=λW h=>by
          rw[Xu.out.1,Xu.out.2.1,Xu.out.2.2];exact⟨h.a.cell (i:=0) rfl,h.a.cell (i:=1) rfl,h.a.cell (i:=2) rfl⟩
         go_wp2_with fail
         by_cases hb0:0<=vb
         rotate_left
         ·have q1:decide ((0:Int)<=vb)=false:=decide_eq_false hb0
          refine ai (tr B M q Y (k+1) w.heap.size (w.heap.size+1) c x {m with L:=Lc t} OS.ino OS.o d P t w) (by kernel_rfl) (by kernel_rfl) (aV.out.below (Below.refl _ _).drew) ?_;clear aV;intro hne;have hcb:∀y:aT (tr B M q Y (k+1) w.heap.size (w.heap.size+1) c x {m with L:=Lc t} OS.ino OS.o d P t w),y.W.cell? ⟨c,0,none⟩=some (.int .i64 vb):=λy=>(Pv.out _ y.h).1
          repeat go_big_quiet_step (fail)
          refine wpQuiet_nil ?_;intro w2 h2';have cf:=hid h2'.out;clear h2' hne hcb;have gM:Hid (Lc (t+1)=Lc t):=by show _=_;rw[D5.out,if_neg (λh=>hb0 h.1)]
          go_wp2_with fail;go_roundw
          case rel=>first|exact⟨t+1,by omega,by go_num,by rw[gM.out];exact cf.out.s⟩|((repeat apply Exists.intro);refine⟨?_,rfl⟩;exact⟨t+1,by omega,by go_num,by rw[gM.out];exact cf.out.s⟩)
          case measure=>simp[intOf];omega
         obtain⟨b,rfl⟩:∃b:Nat,vb=(b:Int):=⟨vb.toNat,by omega⟩;rw[Int.toNat_natCast] at D5
         by_cases kU:b<x.n
         rotate_left
         ·have Ga:¬(b:Int)<(x.n:Int):=by omega
          refine ai (tr B M q Y (k+1) w.heap.size (w.heap.size+1) c x {m with L:=Lc t} OS.ino OS.o d P t w) (by kernel_rfl) (by kernel_rfl) (aV.out.below (Below.refl _ _).drew) ?_;clear aV;intro hne;have hcb:∀y:aT (tr B M q Y (k+1) w.heap.size (w.heap.size+1) c x {m with L:=Lc t} OS.ino OS.o d P t w),y.W.cell? ⟨c,0,none⟩=some (.int .i64 (b:Int)):=λy=>(Pv.out _ y.h).1
          have hc0:∀y:aT (tr B M q Y (k+1) w.heap.size (w.heap.size+1) c x {m with L:=Lc t} OS.ino OS.o d P t w),y.W.cell? ⟨M,0,none⟩=some (.slice (some ⟨q,0,none⟩) x.n x.n):=λy=>y.h.s.h.p.c0
          repeat go_big_quiet_step (fail)
          refine wpQuiet_nil ?_;intro w2 h2';have cf:=hid h2'.out;clear h2' hne hcb hc0;have gM:Hid (Lc (t+1)=Lc t):=by show _=_;rw[D5.out,if_neg (λh=>Ga h.2)]
          go_wp2_with fail;go_roundw
          case rel=>first|exact⟨t+1,by omega,by go_num,by rw[gM.out];exact cf.out.s⟩|((repeat apply Exists.intro);refine⟨?_,rfl⟩;exact⟨t+1,by omega,by go_num,by rw[gM.out];exact cf.out.s⟩)
          case measure=>simp[intOf];omega
         have Ga:(b:Int)<(x.n:Int):=by omega
         obtain⟨a,ha⟩:∃a,a=(va%256).toNat:=⟨_,rfl⟩;have Q5:a<256:=by omega
         obtain⟨hr1,hr2⟩:=Mu va;rw[<-ha] at D5 hr2;have gM:Hid (Lc (t+1)=af (Lc t) b (over (Lc t b) a 1 (λ_=>(((Lc t b a).toNat^^^vo.toNat:Nat):Int)))):=by show _=_;rw[D5.out,if_pos ⟨hb0,Ga⟩]
         have Qj:=SG.out t b a;have ach:=u8_xor (Lc t b a) vo Qj.1 Qj.2 Ns.1 Ns.2;clear ha D5;refine ai (tr B M q Y (k+1) w.heap.size (w.heap.size+1) c x {m with L:=Lc t} OS.ino OS.o d P t w) (by kernel_rfl) (by kernel_rfl) (aV.out.below (Below.refl _ _).drew) ?_;clear aV;intro hne;have hcb:∀y:aT (tr B M q Y (k+1) w.heap.size (w.heap.size+1) c x {m with L:=Lc t} OS.ino OS.o d P t w),y.W.cell? ⟨c,0,none⟩=some (.int .i64 (b:Int)):=λy=>(Pv.out _ y.h).1
         have hc0:∀y:aT (tr B M q Y (k+1) w.heap.size (w.heap.size+1) c x {m with L:=Lc t} OS.ino OS.o d P t w),y.W.cell? ⟨M,0,none⟩=some (.slice (some ⟨q,0,none⟩) x.n x.n):=λy=>y.h.s.h.p.c0
         repeat go_big_quiet_step (fail)
         refine wpQuiet_nil ?_;intro w2 h2';have cf:=hid h2'.out;clear h2' hne hcb hc0;have c1:=(Pv.out _ cf.out).2.1;go_wp2_with fail;clear c1;refine aA (tr B M q Y (k+1) w.heap.size (w.heap.size+1) c x {m with L:=Lc t} OS.ino OS.o d P t w) 22 (by kernel_rfl) (by kernel_rfl) (by kernel_rfl) (by kernel_rfl) (by kernel_rfl) (by decide) (cf.out.below (Below.refl _ _).drew) ?_;clear cf;simp only[List.take,List.drop];intro hne;have hcb:∀y:aT (tr B M q Y (k+1) w.heap.size (w.heap.size+1) c x {m with L:=Lc t} OS.ino OS.o d P t w),y.W.cell? ⟨c,0,none⟩=some (.int .i64 (b:Int)):=λy=>(Pv.out _ y.h).1
         have VX:∀y:aT (tr B M q Y (k+1) w.heap.size (w.heap.size+1) c x {m with L:=Lc t} OS.ino OS.o d P t w),y.W.cell? ⟨c,2,none⟩=some (.int .u8 vo):=λy=>(Pv.out _ y.h).2.2
         have hc0:∀y:aT (tr B M q Y (k+1) w.heap.size (w.heap.size+1) c x {m with L:=Lc t} OS.ino OS.o d P t w),y.W.cell? ⟨M,0,none⟩=some (.slice (some ⟨q,0,none⟩) x.n x.n):=λy=>y.h.s.h.p.c0
         have hcz:∀y:aT (tr B M q Y (k+1) w.heap.size (w.heap.size+1) c x {m with L:=Lc t} OS.ino OS.o d P t w),y.W.cell? ⟨q,b*256+a,none⟩=some (.int .u8 (Lc t b a)):=λy=>y.h.s.h.p.bI kU a Q5
         repeat go_big_quiet_step (fail)
         refine wpQuiet_nil ?_;intro w3 h3';have eP:=hid h3'.out;clear h3' hne hcb VX hc0 hcz;have cz:w3.cell? ⟨q,b*256+a,none⟩=some (.int .u8 (Lc t b a)):=eP.out.s.h.p.bI kU a Q5;have fz:=eP.out.s.h.p.im.soft (b*256+a);have hpt:fN q (b*256+a) 1 (λ_=>(((Lc t b a).toNat^^^vo.toNat:Nat):Int)) w3 (w3.setCell ⟨q,b*256+a,none⟩ (.int .u8 (((Lc t b a).toNat^^^vo.toNat:Nat):Int))):=
          (fN.nil q (b*256+a) (λ_=>(((Lc t b a).toNat^^^vo.toNat:Nat):Int)) w3).snoc (u:=.int .u8 (Lc t b a)) cz rfl
         have eI:=hid (eP.out.to (eP.out.s.self.n6 (eP.out.s.h.p.kn kU (by omega) hpt) (.bW hpt.only (.inr rfl))));clear eP hpt;go_wp2_with fail;go_roundw
         case rel=>first|exact⟨t+1,by omega,by go_num,by rw[gM.out];exact eI.out.s⟩|((repeat apply Exists.intro);refine⟨?_,rfl⟩;exact⟨t+1,by omega,by go_num,by rw[gM.out];exact eI.out.s⟩)
         case measure=>simp[intOf];omega
        ·obtain rfl:t=P.nc:=by omega
         have jB:Hid (P.pA x m.L ys k=if P.sums then PlanD.qz 1 (PlanD.qz 0 (Lc P.nc)) else Lc P.nc):=by
          show _=_;unfold PlanD.pA;dsimp only;rw[<-Oh.out,<-Xx.out,<-A6.out,HLC.out]
         obtain⟨LF,Wv⟩:∃LF,LF=Lc P.nc:=⟨_,rfl⟩;have XU:Hid (∀b,bm (LF b)):=by show∀b,_;rw[Wv];exact SG.out P.nc
         rw[<-Wv] at ST jB;clear Wv Ow gj SG HLC A6 SI Xx zy hlt;obtain⟨Ls,Rb⟩:∃Ls:Nat->Nat->Nat->Int,Ls=λt=>PlanD.oW PlanD.qz t LF:=⟨_,rfl⟩
         have Of:Hid (Ls 0=LF):=by show _=_;rw[Rb];rfl
         have jA:Hid (PlanD.qz 1 (PlanD.qz 0 LF)=Ls 2):=by show _=_;rw[Rb];rfl
         have Se:Hid (∀t,Ls (t+1)=af (Ls t) t (over (Ls t t) 252 4 (byteOf (jZ (Ls t t) 252)))):=λt=>by rw[Rb];rfl
         have GX:Hid (∀t b,bm (Ls t b)):=λt=>by
          rw[Rb]
          induction t with
          |zero=>exact XU.out
          |succ t ih=>exact Iv ih
         obtain⟨sm,hsm⟩:∃sm,sm=P.sums:=⟨_,rfl⟩;rw[<-hsm,jA.out] at jB;have Oe:=hid hsm;clear Rb hsm jA;go_wp2_with fail;clear c5;have cX:Hid (mN B M q Y (k+1) w.heap.size (w.heap.size+1) x {m with L:=Ls 0} OS.ino OS.o d P w wr):=by rw[Of.out];exact ST.out
         clear ST;go_loopw [24] (λu wr=>∃t:Nat,t<=2/\(sm=false->t=0)/\u= .int .i64 (t:Int)/\mN B M q Y (k+1) w.heap.size (w.heap.size+1) x {m with L:=Ls t} OS.ino OS.o d P w wr) (λu _=>2-(intOf u).toNat)
         case atStart=>exact⟨0,Nat.zero_le _,λ_=>rfl,rfl,cX.out⟩
         case round=>
          clear cX;obtain⟨t,ht,hts,rfl,st⟩:=hrel;have ST:=hid st;clear st;have c6:wr.cell? ⟨w.heap.size,6,none⟩=some (.bool sm):=by rw[Oe.out];exact ST.out.bx.cell (i:=6) rfl
          have c0:=ST.out.h.p.c0
          by_cases ht2:t<2
          ·have acp:(t:Int)<2:=by omega
           cases sm with
           |false=>
            obtain rfl:=hts rfl;have HE:Hid ((∀b,bm (P.pA x m.L ys k b))/\gP M q Y (k+1) x {m with L:=P.pA x m.L ys k} (P.jr ys k).ino w wr):=by
             have e:P.pA x m.L ys k=Ls 0:=by rw[jB.out,Of.out];rfl
             have h:=ST.out.h;rw[Oh.out] at h;rw[e];exact⟨GX.out 0,h⟩
            clear ST jB GX Se Of XU Oe hts ht;go_wp2_with fail;go_ret;exact⟨rfl,HE.out⟩
           |true=>
            have htn:t<x.n:=by omega
            have ack:(t:Int)<(x.n:Int):=by omega
            have hsa:=λW=>a7 q (t*256) W
            have M6:=λW=>pq q (t*256) 252 252 rfl (by decide) W
            have hcb:=BT (Ls t t) 252;obtain⟨vc,UQ⟩:∃vc,vc=jZ (Ls t t) 252:=⟨_,rfl⟩;have wI:=hid (Se.out t);rw[<-UQ] at hcb wI;have Sd:Hid (∀W,mN B M q Y (k+1) w.heap.size (w.heap.size+1) x {m with L:=Ls t} OS.ino OS.o d P w W->Calls Tryz.prog 72 #[.slice (some ⟨q,t*256,none⟩) 252 256] W λe w'=>e= .returned (.int .u32 vc)/\W=w'):=λW h=>by
             rw[UQ];exact iq (some ⟨q,t*256,none⟩) 252 256 (Ls t t) W (by decide) (.inr ⟨q,t*256,rfl,λo ho=>h.h.p.bI htn o (by omega)⟩) (GX.out t t)
            clear UQ;go_wp2_with fail;clear c6 c0;refine aA (mN B M q Y (k+1) w.heap.size (w.heap.size+1) x {m with L:=Ls t} OS.ino OS.o d P w) 15 (by kernel_rfl) (by kernel_rfl) (by kernel_rfl) (by kernel_rfl) (by kernel_rfl) (by decide) (ST.out.below (Below.refl _ _).drew) ?_;clear ST;simp only[List.take,List.drop];intro hne;have hc0:∀y:aT (mN B M q Y (k+1) w.heap.size (w.heap.size+1) x {m with L:=Ls t} OS.ino OS.o d P w),y.W.cell? ⟨M,0,none⟩=some (.slice (some ⟨q,0,none⟩) x.n x.n):=λy=>y.h.h.p.c0
            repeat go_big_quiet_step (fail)
            go_big_quiet_want
            go_big_quiet_op
            refine⟨_,λs=>aG s (λW hW=>(Sd.out W hW).mono λe w' h=>⟨h.1,h.2▸hW⟩),?_⟩
            go_big_quiet_on
            refine wpQuiet_nil ?_;intro w3 h3';have eP:=hid h3'.out;clear h3' hne hc0 Sd;go_wp2_with fail;refine(cU q (t*256) 256 256 252 vc (Ls t t) w3 (by decide) (by decide) (by decide) hcb.1 hcb.2 (λo ho=>eP.out.h.p.bI htn o ho) (GX.out t t) (λi hi=>eP.out.h.p.im.soft (t*256+i))).mono ?_;rintro e w4 ⟨rfl,hpt⟩;have eI:=hid (eP.out.to (eP.out.self.n6 (eP.out.h.p.kn htn (by decide) hpt) (.bW hpt.only (.inr rfl))));clear eP hpt;go_wp2_with fail;go_roundw
            case rel=>first|exact⟨t+1,by omega,(λe=>by cases e),by go_num,by rw[wI.out];exact eI.out⟩|((repeat apply Exists.intro);refine⟨?_,rfl⟩;exact⟨t+1,by omega,(λe=>by cases e),by go_num,by rw[wI.out];exact eI.out⟩)
            case measure=>simp[intOf];omega
          ·obtain rfl:t=2:=by omega
           cases sm with
           |false=>exact absurd (hts rfl) (by decide)
           |true=>
            have HE:Hid ((∀b,bm (P.pA x m.L ys k b))/\gP M q Y (k+1) x {m with L:=P.pA x m.L ys k} (P.jr ys k).ino w wr):=by
             have e:P.pA x m.L ys k=Ls 2:=jB.out;have h:=ST.out.h;rw[Oh.out] at h;rw[e];exact⟨GX.out 2,h⟩
            clear ST jB GX Se Of XU Oe hts ht ht2;go_wp2_with fail;go_ret;exact⟨rfl,HE.out⟩
end Go.Proofs.YtphamecphmbipaaGreatDoor
