/- Texts of this claim, merged. -/
import Derived.Test.YtphamecphmbipaaGreatDoorK26
import Derived.Test.YtphamecphmbipaaGreatDoorK23
set_option linter.unusedVariables false
set_option maxRecDepth 100000
set_option maxHeartbeats 16000000

namespace Go.Proofs.YtphamecphmbipaaGreatDoor
open Go.RowKit
open Lib (hid)
variable {i d id b g M q k:Nat} {o:Oper} {A:Act} {l l':Nat->Bool} {v:Value} {w w' a W':World} {Q:Exit->Act->World->Prop} {S:Nat->Prop} {T:TypeId} {m:MS} {f:Nat->List Value} {x:Im} {z:Nat->Int}
namespace Vp
def KX(md:Region.Mode)(L:List Oper)(n:Nat)(o:Oper):Bool:=
 (match o.guard with|none=>true|some _=>false)&&(match o.op with| .select _ _=>false|_=>true)&&(match o.dst with|none=>false|some _=>true)&&
 (List.range L.length).all λj=>match Vl.dst L j with
  |none=>true
  |some d=> !Tb.eh o d||(decide (j<n)&&o.after.any λe=>Region.binds md e&&e.on==j)
def preB(md:Region.Mode)(L:List Oper)(n:Nat):Bool:=decide (n<=L.length)&&(L.take n).all (KX md L n)
section
variable {P:Program} {L:List Oper} {V:(Nat->Bool)->Nat->Value->World->Prop} {S:(Nat->Bool)->World->Prop} {a:Act}
theorem kW(h:Vl.dst L i=some d):∃o,L[i]? =some o/\o.dst=some d:=by
 unfold Vl.dst at h;cases hl:L[i]? with
 |none=>rw[hl] at h;cases h
 |some o=>rw[hl] at h;exact⟨o,rfl,h⟩
theorem ew(h:L[i]? =some o)(hd:o.dst=some d):Vl.dst L i=some d:=by
 unfold Vl.dst;rw[h];exact hd
structure Pf(md:Region.Mode)(L:List Oper)(n:Nat)(o:Oper):Prop where
 g:o.guard=none
 s:∀cs b,o.op≠ .select cs b
 d:∃d,o.dst=some d
 r:∀j d,Vl.dst L j=some d->Tb.eh o d=true->j<n/\∃e∈o.after,Region.binds md e=true/\e.on=j
theorem PU{md:Region.Mode}{n:Nat}(h:preB md L n=true)(hi:L[i]? =some o)(hn:i<n):Pf md L n o:=by
 unfold preB at h;rw[Bool.and_eq_true,List.all_eq_true] at h;have hm:o∈L.take n:=List.mem_of_getElem? (i:=i) (by rw[List.getElem?_take,if_pos hn];exact hi);have h1:=h.2 o hm;unfold KX at h1;simp only[Bool.and_eq_true] at h1;obtain⟨⟨⟨hg,hs⟩,hd⟩,hr⟩:=h1;have k1:o.guard=none:=by cases hgg:o.guard with|none=>rfl|some x=>rw[hgg] at hg;cases hg
 have k3:∃d,o.dst=some d:=by
  cases hdd:o.dst with
  |none=>rw[hdd] at hd;cases hd
  |some x=>exact⟨x,rfl⟩
 refine⟨k1,λcs b e=>(by rw[e] at hs;cases hs),k3,λj d hj Lj=> ?_⟩;obtain⟨oj,Du,_⟩:=kW hj;have h2:=(List.all_eq_true.1 hr) j (List.mem_range.2 (List.getElem?_eq_some_iff.1 Du).1);rw[hj] at h2;simp only[Lj,Bool.not_true,Bool.false_or,Bool.and_eq_true,decide_eq_true_eq,Array.any_eq_true'] at h2;obtain⟨h3,e,he,o4⟩:=h2;simp only[beq_iff_eq] at o4;exact⟨h3,e,he,o4.1,o4.2⟩
def W(L:List Oper)(n:Nat)(A:Act)(V:(Nat->Bool)->Nat->Value->World->Prop)(l:Nat->Bool)(i:Nat)(v:Value)(w:World):Prop:=
 if i<n then v=A.tmps.getD ((Vl.dst L i).getD 0) undef else V l i v w
theorem W.pre{n:Nat}(h:W L n A V l i v w)(hi:i<n)(hd:Vl.dst L i=some d):v=A.tmps.getD d undef:=by
 unfold W at h;rw[if_pos hi,hd] at h;exact h
theorem W.post{n:Nat}(h:W L n A V l i v w)(hi:¬i<n):V l i v w:=by
 unfold W at h;rwa[if_neg hi] at h
theorem W.up{n:Nat}(h:W L n A V l i v w)(hv:¬i<n->V l i v w->V l' i v w'):W L n A V l' i v w':=by
 unfold W at h ⊢;split
 ·rwa[if_pos (by assumption)] at h
 ·rw[if_neg (by assumption)] at h
  exact hv (by assumption) h
theorem W.mk{n:Nat}(hi:¬i<n)(h:V l i v w):W L n A V l i v w:=by
 unfold W;rwa[if_neg hi]
theorem all{n:Nat}{a':Act}(h:Vm.I L (W L n A V) S a (λ_=>true) a' w')(hA:A.defers=a.defers)(hz:A.tmps.size=a.tmps.size)(ho:∀s,(∀i,Vl.dst L i≠some s)->A.tmps.getD s undef=a.tmps.getD s undef)(ds:List Nat)(hds:∀i d,¬i<n->Vl.dst L i=some d->d∈ds):
  a'=ds.foldl (λx d=>x.put (some d) (a'.tmps.getD d undef)) A:=by
 obtain⟨h1,h2,h3⟩:=Vl.oE a' ds A;generalize (ds.foldl (λx d=>x.put (some d) (a'.tmps.getD d undef)) A)=y at h1 h2 h3;have hs:a'.tmps=y.tmps:=by
  refine Array.ext (h.size.trans (hz.symm.trans h2.symm)) λk hk1 hk2=> ?_
  have e:a'.tmps.getD k undef=y.tmps.getD k undef:=by
   rw[h3 k (by rw[hz,<-h.size];exact hk1)]
   by_cases hm:k∈ds
   ·rw[if_pos hm]
   ·rw[if_neg hm]
    by_cases hw:∃i,Vl.dst L i=some k
    ·obtain⟨i,hi⟩:=hw
     have hin:i<n:=Classical.byContradiction λe=>hm (hds i k e hi)
     exact(h.vals i k rfl hi).pre hin hi
    ·have hw:∀i,Vl.dst L i≠some k:=λi e=>hw ⟨i,e⟩
     rw[ho k hw];exact h.other k λi _=>hw i
  rw[Array.getD_eq_getD_getElem?,Array.getD_eq_getD_getElem?,Array.getElem?_eq_getElem hk1,Array.getElem?_eq_getElem hk2] at e;exact e
 have Nr:a'.defers=y.defers:=h.defers.trans (hA.symm.trans h1.symm);cases a'
 cases y
 simp only at hs Nr;rw[hs,Nr]
theorem br(n:Nat)(V:(Nat->Bool)->Nat->Value->World->Prop)(S:(Nat->Bool)->World->Prop)(C:World->Prop)(A:Act)(hm:P.follows .mixedOrders=true)(hd:eX .any L.toArray=true)(hpre:preB .any L n=true)(hB:Vl.kq L a.tmps.size=true)
  (hVl:∀l l',(∀i,n<=i->i<L.length->l i=l' i)->∀i v w,V l i v w->V l' i v w) (hS:∀l l' w,(∀i,n<=i->i<L.length->l i=l' i)->S l w->S l' w) (hSC:∀l w,S l w->C w)
  (hVb:∀l i v W W',V l i v W->Below W.heap.size W W'->V l i v W') (hSb:∀l W W',S l W->Below W.heap.size W W'->C W'->S l W') (h0:S (λ_=>false) {w with drawn:=w.drawn+1})
  (hwalk:∀R:World->Prop,(∀W W',R W->Below W.heap.size W W'->R W')->Nonempty (aT (λW=>C W/\R W))->wpQuiet P (L.take n).toArray (λw'=>∃s:aT (λW=>C W/\R W),w'=s.W) (λa'=>a'=A) (L.take n) a)
  (hst:fK P .any L.toArray Q (Vm.I L (W L n A V) S a) n (L.drop n))
  (hend:∀a' w',Vm.I L (W L n A V) S a (λ_=>true) a' w'->(∀ds:List Nat,(List.range L.length).all (λi=>decide (i<n)||match Vl.dst L i with|none=>true|some d=>ds.contains d)=true->a'=ds.foldl (λx d=>x.put (some d) (a'.tmps.getD d undef)) A)->Q .normal a' w'):(Code.region id L.toArray true).wp P Q a w:=by
 have hn:n<=L.length:=by unfold preB at hpre;rw[Bool.and_eq_true,decide_eq_true_eq] at hpre;exact hpre.1
 have htk:∀{o},o∈L.take n->∃i,i<n/\L[i]? =some o:=λ{o} ho=>by
  obtain⟨i,hi⟩:=List.getElem?_of_mem ho;rw[List.getElem?_take] at hi;split at hi
  ·exact⟨i,by assumption,hi⟩
  ·cases hi
 have hlt:∀{i d},Vl.dst L i=some d->i<L.length:=λ{i d} e=>by
  obtain⟨o,ho,_⟩:=kW e;exact(List.getElem?_eq_some_iff.1 ho).1
 have Gk:∀R:World->Prop,(∀W W',R W->Below W.heap.size W W'->R W')->(∃W,C W/\R W)->A.defers=a.defers/\A.tmps.size=a.tmps.size/\(∀s,(∀o∈L.take n,o.dst≠some s)->A.tmps.getD s undef=a.tmps.getD s undef)/\
   ∀(o:Oper),o∈L.take n->∀d,o.dst=some d->∀w,(∃s:aT (λW=>C W/\R W),w=s.W)->o.quietAt P A (λw'=>∃s:aT (λW=>C W/\R W),w'=s.W) w (A.tmps.getD d undef):=λR hR ⟨W,hW⟩=>by
  refine Tb.qv (C:=λw'=>∃s:aT (λW=>C W/\R W),w'=s.W) (L.take n) a (λo ho=> ?_) ?_ (λo ho d VT=> ?_) (hwalk R hR ⟨⟨W,hW⟩⟩)
  ·obtain⟨i,hin,hi⟩:=htk ho
   have k:=PU hpre hi hin;obtain⟨d,hdd⟩:=k.d;exact⟨k.g,k.s,d,hdd,Vl.qf hB (ew hi hdd)⟩
  ·refine List.pairwise_iff_getElem.2 λi j hi hj hij=> ?_
   have hin:i<n:=by rw[List.length_take] at hi;omega
   have hjn:j<n:=by rw[List.length_take] at hj;omega
   have ei:L[i]? =some (L.take n)[i]:=by rw[List.getElem_take];exact List.getElem?_eq_getElem _
   have ej:L[j]? =some (L.take n)[j]:=by rw[List.getElem_take];exact List.getElem?_eq_getElem _
   refine⟨λe=> ?_,λd hdy=> ?_⟩
   ·obtain⟨d,hdd⟩:=(PU hpre ei hin).d
    exact Vl.lI hB (ew ei hdd) (m:=j) (by omega) (ew ej (by rw[<-e,hdd]))
   ·cases hr:Tb.eh (L.take n)[i] d with
    |false=>rfl
    |true=>
     obtain⟨_,e,he,hb,Eb⟩:=(PU hpre ei hin).r j d (ew ej hdy) hr;have:=cw hd (i:=i) (o:=_) (by rw[List.getElem?_toArray];exact ei) he hb;omega
  ·obtain⟨i,hin,hi⟩:=htk ho
   cases hr:Tb.eh o d with
   |false=>rfl
   |true=>
    obtain⟨_,e,he,hb,Eb⟩:=(PU hpre hi hin).r i d (ew hi VT) hr;have:=cw hd (i:=i) (by simpa using hi) he hb;omega
 refine Vm.gk (W L n A V) S hm hd (λl l' he i v w h=> ?_) (λl l' w he=>hS l l' w λi _ hi=>he i hi) h0 (λ_=> ?_) hB (λa' w' h=>hend a' w' h λds hds=> ?_)
 ·unfold W at h ⊢
  split
  ·rwa[if_pos (by assumption)] at h
  ·rw[if_neg (by assumption)] at h
   exact hVl l l' (λi _ hi=>he i hi) i v w h
 rotate_left
 ·obtain⟨W,hW⟩:∃W,C W/\True:=⟨_,hSC _ _ h0,trivial⟩
  obtain⟨g1,g2,g3,_⟩:=Gk (λ_=>True) (λ_ _ _ _=>trivial) ⟨W,hW⟩;refine all h g1 g2 (λs hs=>g3 s λo ho e=> ?_) ds λi d hin hd=> ?_
  ·obtain⟨i,_,hi⟩:=htk ho
   exact hs i (ew hi e)
  ·have:=(List.all_eq_true.1 hds) i (List.mem_range.2 (hlt hd))
   rw[hd] at this;simpa[hin] using this
 have key:∀i o,i<n->L[i]? =some o->∀l a' w',l i=false->zk .any o l=true->Vm.I L (W L n A V) S a l a' w'->wpOp P L.toArray Q i (Vm.I L (W L n A V) S a (λj=>j==i||l j)) a' w':=by
  intro i o hin hi l a' w' hl hu h;have k:=PU hpre hi hin;obtain⟨d,hdd⟩:=k.d;have hmem:o∈L.take n:=List.mem_of_getElem? (i:=i) (by rw[List.getElem?_take,if_pos hin];exact hi);obtain⟨_,_,hoth,hq⟩:=Gk (λW=>Below w'.heap.size w' W) (λW W' h1 h2=>h1.trans (h2.mono h1.size)) ⟨w',hSC l w' h.st,Below.refl _ _⟩;have U1:=hq o hmem d hdd;have hev:execOp a'.eval o=execOp A.eval o:=execOp_congr o k.s λy hy=>Tb.oH λs hs=>by
   have Lj:=Tb.oo hy hs
   by_cases hw:∃j,Vl.dst L j=some s
   ·obtain⟨j,hj⟩:=hw
    obtain⟨hjn,e,he,hb,Eb⟩:=k.r j s hj Lj;have Ec:l j=true:=by rw[<-Eb];exact Tb.KO hu he hb
    exact(h.vals j s Ec hj).pre hjn hj
   ·have hw:∀j,Vl.dst L j≠some s:=λj e=>hw ⟨j,e⟩
    rw[hoth s λo2 er e=>by
     obtain⟨j,_,hj⟩:=htk er;exact hw j (ew hj e)]
    exact h.other s λj _=>hw j
  have hi':L.toArray[i]? =some o:=by simpa using hi
  have ND:∀(l':Nat->Bool),(∀j,n<=j->j<L.length->l j=l' j)->∀j v W',V l j v W'->V l' j v W':=λl' he j v W'=>hVl l l' he j v W'
  have hup:∀j,n<=j->j<L.length->l j=(λj=>j==i||l j) j:=λj hj _=>by
   show l j=(j==i||l j);rw[show(j==i)=false by simp;omega,Bool.false_or]
  refine Tb.pJ hi' k.g (Oper.wp_of_quiet (C:=λw1=>∃s:aT (λW=>C W/\Below w'.heap.size w' W),w1=s.W) (K:=λb=>b=a'.put (some d) (A.tmps.getD d undef)) ⟨⟨w',hSC l w' h.st,Below.refl _ _⟩,rfl⟩ (λb W' vX hb=> ?_) ⟨A.tmps.getD d undef,λW' vX=> ?_,by rw[hdd]⟩)
  ·obtain⟨s0,rfl⟩:=vX
   have hW:=s0.h;subst hb;rw[<-hdd];refine h.next (sz:=0) hB i hi (A.tmps.getD d undef) hl (λj dj Ec hdj hv=> ?_) ?_ (hS l _ _ hup (hSb l _ _ h.st hW.2 hW.1))
   ·unfold W at hv ⊢
    split
    ·rwa[if_pos (by assumption)] at hv
    ·rw[if_neg (by assumption)] at hv
     exact ND _ hup _ _ _ (hVb _ _ _ _ _ hv hW.2)
   ·unfold W
    rw[if_pos hin,ew hi hdd];rfl
  ·obtain⟨s0,rfl⟩:=vX
   have:=U1 s0.W ⟨s0,rfl⟩;unfold Oper.quietAt at this ⊢;rw[hev];exact this
 refine Tb.qC L 0 λi o hi l a' w' hl hu h=> ?_
 rw[Nat.zero_add] at hl ⊢
 by_cases hin:i<n
 ·exact key i o hin hi l a' w' hl hu h
 ·have:=fK.get (L.drop n) n (i-n) o hst (by rw[List.getElem?_drop,show n+(i-n)=i by omega];exact hi) l a' w' (by rw[show n+(i-n)=i by omega];exact hl) hu h
  rwa[show n+(i-n)=i by omega] at this
end
end Vp
structure dJ(S:Nat->Prop)(w w':World):Prop where
 os:w'.os=w.os
 tape:w'.tape=w.tape
 output:w'.output=w.output
 size:w.heap.size<=w'.heap.size
 block:∀j,j<w.heap.size->¬S j->w'.heap[j]? =w.heap[j]?
theorem dJ.refl(S:Nat->Prop)(w:World):dJ S w w:=⟨rfl,rfl,rfl,Nat.le_refl _,λ_ _ _=>rfl⟩
theorem dJ.trans{b c:World}(h:dJ S a b)(k:dJ S b c):dJ S a c:=
 ⟨k.os.trans h.os,k.tape.trans h.tape,k.output.trans h.output,Nat.le_trans h.size k.size,λj hj hn=>(k.block j (Nat.lt_of_lt_of_le hj h.size) hn).trans (h.block j hj hn)⟩
theorem dJ.bQ{b:World}(h:Below a.heap.size a b):dJ S a b:=⟨h.os,h.tape,h.output,h.size,λj hj _=>h.block j hj⟩
theorem dJ.bW{b:World}(h:an g a b)(hg:S g):dJ S a b:=⟨h.os,h.tape,h.output,by rw[h.size];exact Nat.le_refl _,λj _ hn=>h.block j (λe=>hn (e▸hg))⟩
theorem dJ.ju{b:World}(h:a.grownBy b (some g))(hg:S g):dJ S a b:=⟨h.os,h.tape,h.output,h.size,λj hj hn=>h.block j hj (λe=>hn (by injection e with e;exact e▸hg))⟩
theorem dJ.mono{T:Nat->Prop}{b:World}(h:dJ S a b)(hs:∀j,S j->T j):dJ T a b:=⟨h.os,h.tape,h.output,h.size,λj hj hn=>h.block j hj (λe=>hn (hs j e))⟩
theorem dJ.below{b:World}(h:dJ S a b){B:Nat}(hB:B<=a.heap.size)(hs:∀j,S j->B<=j):Below B a b:=⟨h.os,h.tape,h.output,h.size,λj hj=>h.block j (by omega) (λe=>by have:=hs j e;omega)⟩
theorem At.o5{cs:Array Value}(h:At w g T cs)(k:dJ S w w')(hg:¬S g):At w' g T cs:=(k.block g h.lt hg).trans h
theorem az.o5{m n:Nat}(h:az w g T m n f)(k:dJ S w w')(hg:¬S g):az w' g T m n f:=h.of_block (k.block g h.lt hg)
theorem cY.o5{a:Option Addr}{m n:Nat}(h:cY w a m n f)(k:dJ S w w')(ha:∀b off,a=some ⟨b,off,none⟩->0<n->b<w.heap.size/\¬S b):cY w' a m n f:=by
 rcases h with h|⟨b,off,rfl,hs⟩
 ·exact .inl h
 ·by_cases hn:n=0
  ·exact .inl hn
  ·obtain⟨h1,h2⟩:=ha b off rfl (by omega)
   exact .inr ⟨b,off,rfl,λi hi j v hv=>(World.cell?_of_block (w:=w) (a:=⟨b,off+i*m+j,none⟩) (k.block b h1 h2)).trans (hs i hi j v hv)⟩
abbrev vy(q n g s i j next:Nat)(f:Bool):Array Value:=#[.slice (some ⟨q,0,none⟩) n n,.int .i64 (g:Int),.int .i64 (s:Int),.int .i64 (i:Int),.int .i64 (j:Int),.int .i64 (next:Int),.bool f]
structure jh(M q:Nat)(x:Im)(m:MS)(W:World):Prop where
 k:∃f:Bool,At W M 85 (vy q x.n x.g x.s x.i x.j m.next f)
 im:az W q 32 256 x.n (dW m.L)
section
variable {M q:Nat} {x:Im} {m:MS} {W W':World}
theorem jh.below(h:jh M q x m W)(hb:Below W.heap.size W W'):jh M q x m W':=by
 obtain⟨f,hf⟩:=h.k;exact⟨⟨f,hf.below hb hf.lt⟩,h.im.below hb⟩
theorem jh.ne(h:jh M q x m W):M≠q:=by
 obtain⟨f,hf⟩:=h.k;obtain⟨cs,hc,_⟩:=h.im.blk;exact At.cR hf hc (by decide)
theorem jh.lH(h:jh M q x m W):W.rangeAt M 1 (aa x.g x.s x.i x.j).toList:=λk v hk=>by
 obtain⟨f,hf⟩:=h.k
 match k,hk with
 |0,hk=>injection hk with hk;subst hk;exact hf.cell (i:=1) rfl
 |1,hk=>injection hk with hk;subst hk;exact hf.cell (i:=2) rfl
 |2,hk=>injection hk with hk;subst hk;exact hf.cell (i:=3) rfl
 |3,hk=>injection hk with hk;subst hk;exact hf.cell (i:=4) rfl
 |k+4,hk=>cases hk
theorem jh.c0(h:jh M q x m W):W.cell? ⟨M,0,none⟩=some (.slice (some ⟨q,0,none⟩) x.n x.n):=by obtain⟨f,hf⟩:=h.k;exact hf.cell (i:=0) rfl
theorem jh.c5(h:jh M q x m W):W.cell? ⟨M,5,none⟩=some (.int .i64 (m.next:Int)):=by obtain⟨f,hf⟩:=h.k;exact hf.cell (i:=5) rfl
theorem jh.soft(h:jh M q x m W)(i:Nat):W.frozen? ⟨M,i,none⟩=false:=by obtain⟨f,hf⟩:=h.k;exact ag hf i
theorem jh.put(h:jh M q x m W)(hb:b<x.n)(z:Nat->Int):jh M q x (m.put b z) (W.setCells q (b*256) (Ks .u8 256 z))/\an q W (W.setCells q (b*256) (Ks .u8 256 z)):=by
 obtain⟨h1,h2⟩:=h.im.set hb (vs:=Ks .u8 256 z) (by simp[Ks]) (aZ _);obtain⟨f,hf⟩:=h.k;refine⟨⟨⟨f,hf.only h2 h.ne⟩,h1.congr λc _=> ?_⟩,h2⟩;show _=dW (af m.L b z) c;unfold dW af;split<;>rfl
end
theorem xO{P:Program}{W:World}{a:Act}(f:FuncId)(x y z:Operand)(Mc:Array TypeId)(u v u2:Value)(ho:o.op= .call {callee:=.value (.func f),args:=#[x,y,z],argTypes:=Mc})(hx:a.eval x=u)(hy:a.eval y=v)(hz:a.eval z=u2)
  (hr:((do let d<-Deferred.ofValue (a.eval (.func f)) #[u,v,u2];invoke d.target d.args):Sem Next).run P W= .ok (.enter f #[u,v,u2]) W):(execOp a.eval o).run P W= .ok (.enter f #[u,v,u2]) W:=by
 rw[<-hr];unfold execOp;rw[ho];simp only[resolve];simp[hx,hy,hz]
structure El(M q:Nat)(x:Im)(m:MS)(w W:World):Prop where
 m:jh M q x m W
 gr:w.grownBy W (some q)
theorem El.below{W:World}(h:El M q x m w W)(hb:Below W.heap.size W W'):El M q x m w W':=⟨h.m.below hb,dm h.gr (bq hb)⟩
theorem El.put{W:World}(h:El M q x m w W)(hb:b<x.n)(z:Nat->Int):El M q x (m.put b z) w (W.setCells q (b*256) (Ks .u8 256 z)):=
 ⟨(h.m.put hb z).1,dm h.gr (fp (h.m.put hb z).2)⟩
def V7(q b bit:Nat)(y z:Nat->Int)(B:Bool)(l:Nat->Bool)(k:Nat)(v:Value):Prop:=
 if k=15 then v=aL y else if k=16 then v= .int .i64 (bit:Int)
 else if k=17\/k=18 then v= .tuple #[aL z,.bool B]/\l 15=true
 else if k=19 then v=aL z/\l 15=true
 else if k=20 then v= .bool B
 else if k=21 then v= .pointer (some ⟨q,0+b*256,none⟩) else v=undef
theorem V7.up{bit:Nat}{y:Nat->Int}{B:Bool}(h:V7 q b bit y z B l k v)(hl:l 15=true->l' 15=true):V7 q b bit y z B l' k v:=by
 unfold V7 at h ⊢;split<;>rename_i h1
 ·rwa[if_pos h1] at h
 rw[if_neg h1] at h;split<;>rename_i h2
 ·rwa[if_pos h2] at h
 rw[if_neg h2] at h;split<;>rename_i h3
 ·rw[if_pos h3] at h;exact⟨h.1,hl h.2⟩
 rw[if_neg h3] at h;split<;>rename_i h4
 ·rw[if_pos h4] at h;exact⟨h.1,hl h.2⟩
 rwa[if_neg h4] at h
structure S7(M q:Nat)(x:Im)(m:MS)(b:Nat)(z:Nat->Int)(w:World)(l:Nat->Bool)(W:World):Prop where
 no:l 22=false->El M q x m w W
 ye:l 22=true->El M q x (m.put b z) w W/\l 15=true
theorem S7.below{W:World}(h:S7 M q x m b z w l W)(hb:Below W.heap.size W W'):S7 M q x m b z w l W':=
 ⟨λe=>(h.no e).below hb,λe=>⟨(h.ye e).1.below hb,(h.ye e).2⟩⟩
theorem S7.c0{W:World}(h:S7 M q x m b z w l W):W.cell? ⟨M,0,none⟩=some (.slice (some ⟨q,0,none⟩) x.n x.n):=by
 cases e:l 22 with
 |false=>exact(h.no e).m.c0
 |true=>exact(h.ye e).1.m.c0
theorem S7.next{W:World}(h:S7 M q x m b z w l W)(hk:k≠22):S7 M q x m b z w (λj=>j==k||l j) W:=by
 have e:((22==k)||l 22)=l 22:=by rw[show(22==k)=false from by simpa using Ne.symm hk,Bool.false_or]
 exact⟨λh'=>h.no (e▸h'),λh'=>⟨(h.ye (e▸h')).1,by show((15==k)||l 15)=true;rw[(h.ye (e▸h')).2,Bool.or_true]⟩⟩
theorem tQ(M q:Nat)(x:Im)(hx:x.Ok)(m:MS)(hL:∀b,bm (m.L b))(k d bit:Nat)(hk:k<x.g)(hd:d<2)(Gb:bit<2048)(w:World)(h:jh M q x m w):
  Calls Tryz.prog 68 #[.pointer (some ⟨M,0,none⟩),.int .i64 (k:Int),.int .i64 (d:Int),.int .i64 (bit:Int)] w λe w'=>e= .returned (.tuple #[])/\El M q x (m.set x k d bit) w w':=by
 obtain⟨h1,h2,h3,h4,h5,h6,h7,h8,h9,h10,h11⟩:=dL hx.may;have fY:=hx.iu;have hst:x.st k+d<x.n:=hx.st hk (by omega);have hrg:=h.lH;have cX:Hid (El M q x m w w):=⟨h,bq (Below.refl _ _)⟩;have HX:=hid hx;have HL:=hid hL;clear hx h hL;go_enter Tryz.func68,Tryz.ntmps68;go_wp2_with (first|(refine aB rfl 23 (.tmp 13) rfl M 1 (aa x.g x.s x.i x.j).toList _ rfl hrg Tryz.underlying23 rfl (by kernel_rfl) ?_))
 refine(kM x.g x.s x.i x.j k HX.out.may hk _).mono ?_;rintro e w1 ⟨rfl,hb1⟩;have aV:=hid (cX.out.below hb1);rw[show((2+x.j+k*x.s:Nat):Int)=((x.st k:Nat):Int) from rfl];obtain⟨S,hS⟩:∃S,S=x.st k:=⟨_,rfl⟩;rw[<-hS] at hst ⊢;have HS:=hid hS;have JH:S+d<=2048:=by omega
 obtain⟨b,hb⟩:∃b,b=S+d:=⟨_,rfl⟩;have Ny:(S:Int)+(d:Int)=(b:Int):=by omega
 have kU:b<x.n:=by omega
 have Ox:=hid hb;obtain⟨z,hz⟩:∃z,z=qx (m.L b) bit:=⟨_,rfl⟩;have HZ:=hid hz;obtain⟨B,hB⟩:∃B,B= !bt (m.L b) bit:=⟨_,rfl⟩;have R4:Hid (∀W,Calls Tryz.prog 109 #[aL (m.L b),.int .i64 (bit:Int),.bool true] W λe w'=>e= .returned (.tuple #[aL z,.bool B])/\Below W.heap.size W w'):=λW=>by
  rw[hz,hB];exact z6 (m.L b) (HL.out b) bit Gb W
 clear cX hb1 hrg hS hb hz hB;go_wp2_with fail;apply Vp.br 15 (λl k v W=>V7 q b bit (m.L b) z B l k v) (λl W=>S7 M q x m b z w l W) (λW=>W.cell? ⟨M,0,none⟩=some (.slice (some ⟨q,0,none⟩) x.n x.n))
 case hm=>kernel_rfl
 case hd=>kernel_rfl
 case hpre=>kernel_rfl
 case hB=>kernel_rfl
 case hVl=>exactλl l' he i v W h=>h.up λe=>by rw[<-he 15 (by decide) (by decide)];exact e
 case hS=>exactλl l' W he h=>⟨λe=>h.no (by rw[he 22 (by decide) (by decide)];exact e),λe=>⟨(h.ye (by rw[he 22 (by decide) (by decide)];exact e)).1,by rw[<-he 15 (by decide) (by decide)];exact(h.ye (by rw[he 22 (by decide) (by decide)];exact e)).2⟩⟩
 case hSC=>exactλl W h=>h.c0
 case hVb=>exactλl i v W W' h hb=>h
 case hSb=>exactλl W W' h hb _=>h.below hb
 case h0=>exact⟨λ_=>aV.out.below ⟨rfl,rfl,rfl,Nat.le_refl _,λ_ _=>rfl⟩,λe=>by cases e⟩
 case hwalk=>
  simp only[List.take];intro R hR hne;have hc0:∀y:aT (λW=>W.cell? ⟨M,0,none⟩=some (.slice (some ⟨q,0,none⟩) x.n x.n)/\R W),y.W.cell? ⟨M,0,none⟩=some (.slice (some ⟨q,0,none⟩) x.n x.n):=λy=>y.h.1
  repeat go_big_quiet_step (fail)
  exact wpQuiet_nil rfl
 case hst=>
  simp only[List.drop];refine⟨?_,?_,?_,?_,?_,?_,?_,?_,trivial⟩
  ·intro l a W hl hu h
   have e1:a.tmps.getD 34 undef= .pointer (some ⟨q,b*256,none⟩):=((h.vals 14 34 (aq hu 14) rfl).pre (by decide) rfl).trans (by rw[Ox.out];rfl);have hs:El M q x m w W:=by
    cases e:l 22 with
    |false=>exact h.st.no e
    |true=>have:=(h.st.ye e).2;rw[hl] at this;cases this
   have hr:=hs.m.im.bI.range b kU;rw[Nat.zero_add] at hr;exact Vm.bB h (by kernel_rfl) rfl rfl rfl hl _ (Vl.pR 32 (.tmp 34) rfl q (b*256) (dW m.L b) _ e1 hr Tryz.underlying32 rfl (by rw[aZ];exact au)) (λ_ _ hv=>hv.up λ_ hv=>hv.up λe=>by show((15==15)||l 15)=true;rfl) (Vp.W.mk (by decide) rfl) (λs=>s.next (by decide))
  ·intro l a W hl hu h
   have e3:a.tmps.getD 3 undef= .int .i64 (bit:Int):=h.old 3 (by kernel_rfl);exact Vm.bB h (by kernel_rfl) rfl rfl rfl hl _ (Vl.ea (.tmp 3) rfl e3) (λ_ _ hv=>hv.up λ_ hv=>hv.up λe=>by show((15==16)||l 15)=true;rw[e];rfl) (Vp.W.mk (by decide) rfl) (λs=>s.next (by decide))
  ·intro l a W hl hu h
   have u15:=aq hu 15 (by kernel_rfl);have e1:a.tmps.getD 35 undef=aL (m.L b):=(h.vals 15 35 u15 rfl).post (by decide);have e2:a.tmps.getD 36 undef= .int .i64 (bit:Int):=(h.vals 16 36 (aq hu 16) rfl).post (by decide);refine Vm.step h (by kernel_rfl) rfl rfl rfl hl (Vl.iQ 109 #[aL (m.L b),.int .i64 (bit:Int),.bool true] (xO 109 (.tmp 35) (.tmp 36) (.const (.bool true)) _ _ _ _ rfl e1 e2 rfl (by kernel_rfl)) ?_);refine(R4.out W).mono ?_;rintro e W' ⟨rfl,hb⟩;have Ue:l 15=true:=u15;exact⟨_,rfl,_,rfl,λi d _ _ hv=>hv.up λ_ hv=>hv.up λe=>by show((15==17)||l 15)=true;rw[e];rfl,Vp.W.mk (by decide) ⟨rfl,by show((15==17)||l 15)=true;rw[Ue];rfl⟩,(h.st.below hb).next (by decide)⟩
  ·intro l a W hl hu h
   obtain⟨e1,u15⟩:a.tmps.getD 37 undef= .tuple #[aL z,.bool B]/\l 15=true:=(h.vals 17 37 (aq hu 17) rfl).post (by decide);exact Vm.bB h (by kernel_rfl) rfl rfl rfl hl _ (Vl.ea (.tmp 37) rfl e1) (λ_ _ hv=>hv.up λ_ hv=>hv.up λe=>by show((15==18)||l 15)=true;rw[e];rfl) (Vp.W.mk (by decide) ⟨rfl,by show((15==18)||l 15)=true;rw[u15];rfl⟩) (λs=>s.next (by decide))
  ·intro l a W hl hu h
   obtain⟨e1,u15⟩:a.tmps.getD 19 undef= .tuple #[aL z,.bool B]/\l 15=true:=(h.vals 18 19 (aq hu 18) rfl).post (by decide);exact Vm.bB h (by kernel_rfl) rfl rfl rfl hl _ (Vl.fu (.tmp 19) 0 _ rfl e1 rfl) (λ_ _ hv=>hv.up λ_ hv=>hv.up λe=>by show((15==19)||l 15)=true;rw[e];rfl) (Vp.W.mk (by decide) ⟨rfl,by show((15==19)||l 15)=true;rw[u15];rfl⟩) (λs=>s.next (by decide))
  ·intro l a W hl hu h
   obtain⟨e1,u15⟩:a.tmps.getD 19 undef= .tuple #[aL z,.bool B]/\l 15=true:=(h.vals 18 19 (aq hu 18) rfl).post (by decide);exact Vm.bB h (by kernel_rfl) rfl rfl rfl hl _ (Vl.fu (.tmp 19) 1 _ rfl e1 rfl) (λ_ _ hv=>hv.up λ_ hv=>hv.up λe=>by show((15==20)||l 15)=true;rw[e];rfl) (Vp.W.mk (by decide) rfl) (λs=>s.next (by decide))
  ·intro l a W hl hu h
   have e1:a.tmps.getD 23 undef= .slice (some ⟨q,0,none⟩) x.n x.n:=(h.vals 3 23 (aq hu 3) rfl).pre (by decide) rfl;have e2:a.tmps.getD 26 undef= .int .i64 (b:Int):=((h.vals 6 26 (aq hu 6) rfl).pre (by decide) rfl).trans (by rw[<-Ny];rfl);exact Vm.bB h (by kernel_rfl) rfl rfl rfl hl _ (Vl.xM 29 32 (.tmp 23) (.tmp 26) rfl Tryz.underlying29 256 (by kernel_rfl) q 0 x.n x.n b e1 e2 kU) (λ_ _ hv=>hv.up λ_ hv=>hv.up λe=>by show((15==21)||l 15)=true;rw[e];rfl) (Vp.W.mk (by decide) rfl) (λs=>s.next (by decide))
  ·intro l a W hl hu h
   have e1:a.tmps.getD 40 undef= .pointer (some ⟨q,0+b*256,none⟩):=(h.vals 21 40 (aq hu 21) rfl).post (by decide);rw[Nat.zero_add] at e1;obtain⟨e2,u15⟩:a.tmps.getD 38 undef=aL z/\l 15=true:=(h.vals 19 38 (aq hu 19) rfl).post (by decide);have hs:=h.st.no hl;have gn:W.there q (b*256) (Ks .u8 256 z).toArray.size:=by rw[bK];exact hs.m.im.there kU
   refine Vm.step h (by kernel_rfl) rfl rfl rfl hl (Vl.gw 32 (.tmp 40) (.tmp 38) rfl q (b*256) (Ks .u8 256 z).toArray e1 e2 gn (by rw[bK];exact au) (iD _ _ _) ?_);exact⟨_,rfl,λi d _ _ hv=>hv.up λ_ hv=>hv.up λe=>by show((15==22)||l 15)=true;rw[e];rfl,Vp.W.mk (by decide) rfl,⟨λe=>(by have e:true=false:=e;cases e),λ_=>⟨hs.put kU z,by show((15==22)||l 15)=true;rw[u15];rfl⟩⟩⟩
 intro a' w9 h hall;clear hall;obtain⟨hs,_⟩:=h.st.ye rfl;have Xz:Hid (El M q x (m.set x k d bit) w w9):=by
  have e1:=Ox.out;have e2:=HS.out;have e3:=HZ.out;subst e1 e2;rw[e3] at hs;exact hs
 have Nr:=h.defers;obtain⟨tm,df⟩:=a';obtain rfl:df=[]:=Nr;clear h hs;exact bodyPost_end (results_none rfl _ _ _) rfl ⟨rfl,Xz.out⟩
def MQ(M q:Nat)(j:Nat):Prop:=j=M\/j=q
theorem jh.next{W:World}(h:jh M q x m W)(k:Nat):jh M q x {m with next:=k} (W.setCell ⟨M,5,none⟩ (.int .i64 (k:Int))):=by
 obtain⟨f,hf⟩:=h.k;exact⟨⟨f,hf.setCell 5 (.int .i64 (k:Int))⟩,h.im.only (an.setCell W ⟨M,5,none⟩ _) (Ne.symm h.ne)⟩
theorem jh.full{W:World}(h:jh M q x m W)(b:Bool):jh M q x m (W.setCell ⟨M,6,none⟩ (.bool b)):=by
 obtain⟨f,hf⟩:=h.k;exact⟨⟨b,hf.setCell 6 (.bool b)⟩,h.im.only (an.setCell W ⟨M,6,none⟩ _) (Ne.symm h.ne)⟩
theorem Me(hx:x.Ok)(hb:b<x.n):∃K A B C:Int,gN x.s (x.i/4) x.j b=tv K A B C/\(K==7)=x.data b/\(x.data b=true->A=(MS.JO x b:Nat)/\B=(MS.KY x b:Nat)/\MS.JO x b<x.g/\MS.KY x b<x.s):=by
 obtain⟨h1,h2,h3,h4,h5,h6,h7,h8,h9,h10,h11⟩:=dL hx.may;have hn:=hx.n;unfold gN Im.data Im.own MS.JO MS.KY
 by_cases c0:b=0
 ·rw[if_pos c0];exact⟨_,_,_,_,rfl,by subst c0;simp,λh=>by subst c0;simp at h⟩
 rw[if_neg c0]
 by_cases c1:b=1
 ·rw[if_pos c1];exact⟨_,_,_,_,rfl,by subst c1;simp;omega,λh=>by subst c1;simp at h;omega⟩
 rw[if_neg c1]
 by_cases c2:b<2+x.j
 ·rw[if_pos c2]
  have:decide (2+x.j<=b)=false:=decide_eq_false (by omega);rw[this,Bool.false_and];exact⟨_,_,_,_,rfl,rfl,λh=>by cases h⟩
 rw[if_neg c2,decide_eq_true (show 2+x.j<=b by omega),decide_eq_true hb,Bool.true_and,Bool.true_and];have hr:(b-(2+x.j))%x.s<x.s:=Nat.mod_lt _ (by omega);have hq:(b-(2+x.j))/x.s<x.g:=by
  refine(Nat.div_lt_iff_lt_mul (by omega)).2 ?_;omega
 generalize (b-(2+x.j))%x.s=r at*;generalize (b-(2+x.j))/x.s=γ at*
 by_cases d0:r=0
 ·rw[if_pos d0,decide_eq_false (by omega)];exact⟨_,_,_,_,rfl,rfl,λh=>by cases h⟩
 rw[if_neg d0]
 by_cases d1:r=1
 ·rw[if_pos d1,decide_eq_false (by omega)];exact⟨_,_,_,_,rfl,rfl,λh=>by cases h⟩
 rw[if_neg d1]
 by_cases d2:r<2+x.i/4
 ·rw[if_pos d2,decide_eq_false (by omega)];exact⟨_,_,_,_,rfl,rfl,λh=>by cases h⟩
 ·rw[if_neg d2,decide_eq_true (by omega)];exact⟨_,_,_,_,rfl,rfl,λ_=>⟨rfl,rfl,hq,hr⟩⟩
def SP(M:Nat)(W:World):Nat:=match W.cell? ⟨M,5,none⟩ with
 |some (.int .i64 n)=>n.toNat
 |_=>0
theorem jh.nx{W:World}(h:jh M q x m W):SP M W=m.next:=by unfold SP;rw[h.c5];exact Int.toNat_natCast _
structure Kt(M q:Nat)(x:Im)(m:MS)(w W:World):Prop where
 p:jh M q x m W
 gr:dJ (MQ M q) w W
 jg:∀b,bm (m.L b)
theorem Kt.below{W:World}(h:Kt M q x m w W)(hb:Below W.heap.size W W'):Kt M q x m w W':=⟨h.p.below hb,h.gr.trans (.bQ hb),h.jg⟩
theorem mz(M q:Nat)(x:Im)(hx:x.Ok)(m:MS)(hL:∀b,bm (m.L b))(hle:m.next<=x.n)(w:World)(h:jh M q x m w):
  Calls Tryz.prog 105 #[.pointer (some ⟨M,0,none⟩)] w λe w'=>e= .returned (.int .i64 (((m.take x).1:Nat):Int))/\jh M q x (m.take x).2 w'/\dJ (MQ M q) w w':=by
 obtain⟨h1,h2,h3,h4,h5,h6,h7,h8,h9,h10,h11⟩:=dL hx.may;have fY:=hx.iu;have cX:Hid (Kt M q x m w w):=⟨h,.refl _ _,hL⟩;have HX:=hid hx;obtain⟨r,hr⟩:∃r,r=m.take x:=⟨_,rfl⟩;have HR:Hid (MS.fQ x (x.n-m.next) m=r):=by show _=_;rw[hr];rfl
 rw[<-hr];clear hx h hL h11 hr;go_enter Tryz.func105,Tryz.ntmps105;go_wp2_with fail;go_loopw [3,4,5,6] (λ_ _ _ _ wr=>∃(f:Nat) (m':MS),MS.fQ x f m'=r/\m'.next+f=x.n/\Kt M q x m' w wr) (λ_ _ _ _ wr=>x.n-SP M wr)
 case atStart=>exact⟨x.n-m.next,m,HR.out,by omega,cX.out⟩
 case round=>
  clear cX HR;obtain⟨f,m',hf,hn,st⟩:=hrel;have ST:=hid st;have HF:=hid hf;have OR:m'.next<=2048:=by omega
  have HM:Hid (SP M wr=m'.next):=st.p.nx;clear st hf;go_wp2_with fail;refine ai (Kt M q x m' w) (by kernel_rfl) (by kernel_rfl) (ST.out.below (Below.refl _ _).drew) ?_;clear ST;intro hne;have hc0:∀y:aT (Kt M q x m' w),y.W.cell? ⟨M,0,none⟩=some (.slice (some ⟨q,0,none⟩) x.n x.n):=λy=>y.h.p.c0
  have Hm:∀y:aT (Kt M q x m' w),y.W.cell? ⟨M,5,none⟩=some (.int .i64 (m'.next:Int)):=λy=>y.h.p.c5
  repeat go_big_quiet_step (fail)
  refine wpQuiet_nil ?_;intro w2 h2';have ST:=hid h2'.out;clear h2' hne hc0 Hm
  by_cases hlt:m'.next<x.n
  ·have hlt':(m'.next:Int)<(x.n:Int):=by omega
   have c5:=ST.out.p.c5;have f5:=ST.out.p.soft 5;obtain⟨f,rfl⟩:∃f',f=f'+1:=⟨f-1,by omega⟩;obtain⟨K,A,B,C,he,hK,hD⟩:=Me HX.out hlt;have HE:=hid he;have HK:=hid hK;have HD:=hid hD;have eP:Hid (Kt M q x {m' with next:=m'.next+1} w (w2.setCell ⟨M,5,none⟩ (.int .i64 ((m'.next+1:Nat):Int)))):=⟨ST.out.p.next _,ST.out.gr.trans (.bW (an.setCell w2 ⟨M,5,none⟩ _) (.inl rfl)),ST.out.jg⟩;have hrg:=eP.out.p.lH;rw[show((m'.next+1:Nat):Int)=(m'.next:Int)+1 from rfl] at hrg;obtain⟨b,hb⟩:∃b,b=m'.next:=⟨_,rfl⟩
   have HB:=hid hb;clear he hK hD hb;go_wp2_with (first|(refine aB rfl 23 (.tmp 31) rfl M 1 (aa x.g x.s x.i x.j).toList _ rfl hrg Tryz.underlying23 rfl (by kernel_rfl) ?_))
   refine(mr x.g x.s x.i x.j m'.next HX.out.may (by rw[<-HX.out.n];exact hlt) K A B C HE.out _).mono ?_;rintro e w3 ⟨rfl,hb3⟩;have eI:=hid (eP.out.below hb3);clear eP ST hb3 hrg c5 f5 HE;cases hd:x.data m'.next with
   |false=>
    have q1:(K==7)=false:=HK.out.trans hd;have uH:Hid (MS.fQ x f {m' with next:=m'.next+1}=r):=by
     have:=HF.out;rw[MS.fQ,if_neg (by rw[hd];decide)] at this;exact this
    clear hd HK HD HF;go_wp2_with fail;go_roundw
    case rel=>exact⟨f,_,uH.out,by show m'.next+1+f=x.n;omega,eI.out⟩
    case measure=>rw[HM.out,eI.out.p.nx];show x.n-(m'.next+1)<x.n-m'.next;omega
   |true=>
    have q1:(K==7)=true:=HK.out.trans hd;obtain⟨rfl,rfl,hg,hp⟩:=HD.out hd;have uH:Hid ((m'.next,MS.set x {m' with next:=m'.next+1} (MS.JO x m'.next) 0 (MS.KY x m'.next))=r):=by
     have:=HF.out;rw[MS.fQ,if_pos hd] at this;exact this
    have YC:MS.KY x m'.next<2048:=by omega
    obtain⟨γ,hγ⟩:∃γ,γ=MS.JO x m'.next:=⟨_,rfl⟩
    obtain⟨ρ,hρ⟩:∃ρ,ρ=MS.KY x m'.next:=⟨_,rfl⟩
    rw[<-hγ] at hg uH ⊢;rw[<-hρ] at hp YC uH ⊢;clear hd HK HD HF hγ hρ;go_wp2_with fail;refine(tQ M q x HX.out {m' with next:=m'.next+1} eI.out.jg γ 0 ρ hg (by decide) YC _ eI.out.p).mono ?_;rintro e w4 ⟨rfl,hs⟩;have HE:Hid (jh M q x r.2 w4/\dJ (MQ M q) w w4/\r.1=m'.next):=by
     rw[<-uH.out];exact⟨hs.m,eI.out.gr.trans (.ju hs.gr (.inr rfl)),rfl⟩
    clear hs eI;go_wp2_with fail;go_ret;exact⟨by rw[HE.out.2.2];rfl,HE.out.1,HE.out.2.1⟩
  ·obtain rfl:f=0:=by omega
   have hlt':¬(m'.next:Int)<(x.n:Int):=by omega
   obtain⟨ff,YZ⟩:=ST.out.p.k;have c6:w2.cell? ⟨M,6,none⟩=some (.bool ff):=YZ.cell (i:=6) rfl;have f6:=ST.out.p.soft 6;have HE:Hid (jh M q x r.2 (w2.setCell ⟨M,6,none⟩ (.bool true))/\dJ (MQ M q) w (w2.setCell ⟨M,6,none⟩ (.bool true))/\r.1=0):=by
    rw[<-HF.out];exact⟨ST.out.p.full true,ST.out.gr.trans (.bW (an.setCell w2 ⟨M,6,none⟩ _) (.inl rfl)),rfl⟩
   clear YZ ST HF;go_wp2_with fail;go_ret;exact⟨by rw[HE.out.2.2];rfl,HE.out.1,HE.out.2.1⟩
namespace Vp
def Ff(md:Region.Mode)(L:List Oper)(n:Nat)(o:Oper):Bool:=
 (match o.guard with|none=>true|some _=>false)&&(match o.op with| .select _ _=>false|_=>true)&&(match o.dst with|none=>false|some _=>true)&&
 (List.range L.length).all λj=>match Vl.dst L j with
  |none=>true
  |some d=> !Tb.eh o d||((decide (j<n)&&o.after.any λe=>Region.binds md e&&e.on==j)||decide (n<=j))
def Bo(md:Region.Mode)(L:List Oper)(n:Nat):Bool:=decide (n<=L.length)&&(L.take n).all (Ff md L n)
section
variable {P:Program} {L:List Oper} {V:(Nat->Bool)->Nat->Value->World->Prop} {S:(Nat->Bool)->World->Prop} {a:Act}
structure Xe(md:Region.Mode)(L:List Oper)(n:Nat)(o:Oper):Prop where
 g:o.guard=none
 s:∀cs b,o.op≠ .select cs b
 d:∃d,o.dst=some d
 r:∀j d,Vl.dst L j=some d->Tb.eh o d=true->(j<n/\∃e∈o.after,Region.binds md e=true/\e.on=j)\/n<=j
theorem Fg{md:Region.Mode}{n:Nat}(h:Bo md L n=true)(hi:L[i]? =some o)(hn:i<n):Xe md L n o:=by
 unfold Bo at h;rw[Bool.and_eq_true,List.all_eq_true] at h;have hm:o∈L.take n:=List.mem_of_getElem? (i:=i) (by rw[List.getElem?_take,if_pos hn];exact hi);have h1:=h.2 o hm;unfold Ff at h1;simp only[Bool.and_eq_true] at h1;obtain⟨⟨⟨hg,hs⟩,hd⟩,hr⟩:=h1;have k1:o.guard=none:=by cases hgg:o.guard with|none=>rfl|some x=>rw[hgg] at hg;cases hg
 have k3:∃d,o.dst=some d:=by
  cases hdd:o.dst with
  |none=>rw[hdd] at hd;cases hd
  |some x=>exact⟨x,rfl⟩
 refine⟨k1,λcs b e=>(by rw[e] at hs;cases hs),k3,λj d hj Lj=> ?_⟩;obtain⟨oj,Du,_⟩:=kW hj;have h2:=(List.all_eq_true.1 hr) j (List.mem_range.2 (List.getElem?_eq_some_iff.1 Du).1);rw[hj] at h2
 by_cases hjn:j<n
 ·simp only[Lj,Bool.not_true,Bool.false_or,Bool.and_eq_true,Bool.or_eq_true,decide_eq_true_eq,Array.any_eq_true'] at h2
  rcases h2 with⟨h3,e,he,o4⟩|h3
  ·simp only[beq_iff_eq] at o4
   exact .inl ⟨h3,e,he,o4.1,o4.2⟩
  ·omega
 ·exact .inr (by omega)
def Cl(L:List Oper)(l:Nat->Bool):Prop:=∀j o,L[j]? =some o->l j=true->zk .any o l=true
theorem Bg(h:zk .any o l=true)(hl:∀k,l k=true->l' k=true):zk .any o l'=true:=by
 unfold zk at h ⊢;rw[Array.all_eq_true'] at h ⊢;intro e he;have:=h e he;cases hb:Region.binds .any e with
 |false=>rfl
 |true=>rw[hb] at this;simpa using hl _ (by simpa using this)
theorem Cl.next(h:Cl L l)(hi:L[i]? =some o)(hu:zk .any o l=true):Cl L (λj=>j==i||l j):=by
 intro j oj hj hl;have hm:∀k,l k=true->(λj=>j==i||l j) k=true:=λk hk=>by show(k==i||l k)=true;rw[hk];simp
 by_cases e:j=i
 ·subst e;rw[hi] at hj;injection hj with hj;subst hj;exact Bg hu hm
 ·exact Bg (h j oj hj (by have:(j==i||l j)=true:=hl;simpa[e] using this)) hm
def Qa(L:List Oper)(n i0 j0:Nat):Bool:=(List.range n).all λi=>(List.range L.length).all λj=>match L[i]?,Vl.dst L j with
 |some o,some d=> !(decide (n<=j)&&Tb.eh o d)||(i==i0&&j==j0)
 |_,_=>true
theorem I9{n i0 j0:Nat}(h:Qa L n i0 j0=true){j:Nat}(hi:i<n)(ho:L[i]? =some o)(hj:n<=j)(hd:Vl.dst L j=some d)(hr:Tb.eh o d=true):i=i0/\j=j0:=by
 obtain⟨oj,Du,_⟩:=kW hd;have h1:=(List.all_eq_true.1 ((List.all_eq_true.1 h) i (List.mem_range.2 hi))) j (List.mem_range.2 (List.getElem?_eq_some_iff.1 Du).1);rw[ho,hd] at h1;simpa[hj,hr] using h1
theorem qo(n:Nat)(V:(Nat->Bool)->Nat->Value->World->Prop)(S:(Nat->Bool)->World->Prop)(C:World->Prop)(A:Act)(hm:P.follows .mixedOrders=true)(hd:eX .any L.toArray=true)(hpre:Bo .any L n=true)(hB:Vl.kq L a.tmps.size=true)
  (hVl:∀l l',(∀i,n<=i->i<L.length->l i=l' i)->∀i v w,V l i v w->V l' i v w) (hS:∀l l' w,(∀i,n<=i->i<L.length->l i=l' i)->S l w->S l' w) (hSC:∀l w,S l w->C w)
  (hVb:∀l i v W W',V l i v W->Below W.heap.size W W'->V l i v W') (hSb:∀l W W',S l W->Below W.heap.size W W'->C W'->S l W') (h0:S (λ_=>false) {w with drawn:=w.drawn+1})
  (hwalk:∀R:World->Prop,(∀W W',R W->Below W.heap.size W W'->R W')->Nonempty (aT (λW=>C W/\R W))->wpQuiet P (L.take n).toArray (λw'=>∃s:aT (λW=>C W/\R W),w'=s.W) (λa'=>a'=A) (L.take n) a)
  (hlate:∀l,Cl L l->∀i o j d,i<n->L[i]? =some o->n<=j->Vl.dst L j=some d->Tb.eh o d=true->l i=false->l j=false)
  (hst:fK P .any L.toArray Q (Vm.I L (W L n A V) S a) n (L.drop n))
  (hend:∀a' w',Vm.I L (W L n A V) S a (λ_=>true) a' w'->(∀ds:List Nat,(List.range L.length).all (λi=>decide (i<n)||match Vl.dst L i with|none=>true|some d=>ds.contains d)=true->a'=ds.foldl (λx d=>x.put (some d) (a'.tmps.getD d undef)) A)->Q .normal a' w'):(Code.region id L.toArray true).wp P Q a w:=by
 have hn:n<=L.length:=by unfold Bo at hpre;rw[Bool.and_eq_true,decide_eq_true_eq] at hpre;exact hpre.1
 have htk:∀{o},o∈L.take n->∃i,i<n/\L[i]? =some o:=λ{o} ho=>by
  obtain⟨i,hi⟩:=List.getElem?_of_mem ho;rw[List.getElem?_take] at hi;split at hi
  ·exact⟨i,by assumption,hi⟩
  ·cases hi
 have hlt:∀{i d},Vl.dst L i=some d->i<L.length:=λ{i d} e=>by
  obtain⟨o,ho,_⟩:=kW e;exact(List.getElem?_eq_some_iff.1 ho).1
 have Gk:∀R:World->Prop,(∀W W',R W->Below W.heap.size W W'->R W')->(∃W,C W/\R W)->A.defers=a.defers/\A.tmps.size=a.tmps.size/\(∀s,(∀o∈L.take n,o.dst≠some s)->A.tmps.getD s undef=a.tmps.getD s undef)/\
   ∀(o:Oper),o∈L.take n->∀d,o.dst=some d->∀w,(∃s:aT (λW=>C W/\R W),w=s.W)->o.quietAt P A (λw'=>∃s:aT (λW=>C W/\R W),w'=s.W) w (A.tmps.getD d undef):=λR hR ⟨W,hW⟩=>by
  refine Tb.qv (C:=λw'=>∃s:aT (λW=>C W/\R W),w'=s.W) (L.take n) a (λo ho=> ?_) ?_ (λo ho d VT=> ?_) (hwalk R hR ⟨⟨W,hW⟩⟩)
  ·obtain⟨i,hin,hi⟩:=htk ho
   have k:=Fg hpre hi hin;obtain⟨d,hdd⟩:=k.d;exact⟨k.g,k.s,d,hdd,Vl.qf hB (ew hi hdd)⟩
  ·refine List.pairwise_iff_getElem.2 λi j hi hj hij=> ?_
   have hin:i<n:=by rw[List.length_take] at hi;omega
   have hjn:j<n:=by rw[List.length_take] at hj;omega
   have ei:L[i]? =some (L.take n)[i]:=by rw[List.getElem_take];exact List.getElem?_eq_getElem _
   have ej:L[j]? =some (L.take n)[j]:=by rw[List.getElem_take];exact List.getElem?_eq_getElem _
   refine⟨λe=> ?_,λd hdy=> ?_⟩
   ·obtain⟨d,hdd⟩:=(Fg hpre ei hin).d
    exact Vl.lI hB (ew ei hdd) (m:=j) (by omega) (ew ej (by rw[<-e,hdd]))
   ·cases hr:Tb.eh (L.take n)[i] d with
    |false=>rfl
    |true=>
     rcases (Fg hpre ei hin).r j d (ew ej hdy) hr with⟨_,e,he,hb,Eb⟩|hge
     ·have:=cw hd (i:=i) (o:=_) (by rw[List.getElem?_toArray];exact ei) he hb
      omega
     ·omega
  ·obtain⟨i,hin,hi⟩:=htk ho
   cases hr:Tb.eh o d with
   |false=>rfl
   |true=>
    rcases (Fg hpre hi hin).r i d (ew hi VT) hr with⟨_,e,he,hb,Eb⟩|hge
    ·have:=cw hd (i:=i) (by simpa using hi) he hb
     omega
    ·omega
 have down:∀{l a' w'},Vm.I L (W L n A V) (λl w=>S l w/\Cl L l) a l a' w'->Vm.I L (W L n A V) S a l a' w':=λh=>⟨h.defers,h.size,h.other,h.vals,h.st.1⟩
 refine Vm.gk (W L n A V) (λl w=>S l w/\Cl L l) hm hd (λl l' he i v w h=> ?_) (λl l' w he h=>⟨hS l l' w (λi _ hi=>he i hi) h.1,λj o hj hl=> ?_⟩) ⟨h0,λj o _ e=>by cases e⟩ (λ_=> ?_) hB (λa' w' h=>hend a' w' (down h) λds hds=> ?_)
 ·unfold W at h ⊢
  split
  ·rwa[if_pos (by assumption)] at h
  ·rw[if_neg (by assumption)] at h
   exact hVl l l' (λi _ hi=>he i hi) i v w h
 ·have hjl:=(List.getElem?_eq_some_iff.1 hj).1
  have h2:=h.2 j o hj ((he j hjl).trans hl);unfold zk at h2 ⊢;rw[Array.all_eq_true'] at h2 ⊢;intro e OV;have h3:=h2 e OV;cases hb:Region.binds .any e with
  |false=>rfl
  |true=>
   have:=cw hd (i:=j) (by simpa using hj) OV hb;rw[hb] at h3;rw[<-he e.on (by omega)];simpa using h3
 rotate_left
 ·obtain⟨W,hW⟩:∃W,C W/\True:=⟨_,hSC _ _ h0,trivial⟩
  obtain⟨g1,g2,g3,_⟩:=Gk (λ_=>True) (λ_ _ _ _=>trivial) ⟨W,hW⟩;refine all h g1 g2 (λs hs=>g3 s λo ho e=> ?_) ds λi d hin hd=> ?_
  ·obtain⟨i,_,hi⟩:=htk ho
   exact hs i (ew hi e)
  ·have:=(List.all_eq_true.1 hds) i (List.mem_range.2 (hlt hd))
   rw[hd] at this;simpa[hin] using this
 have key:∀i o,i<n->L[i]? =some o->∀l a' w',l i=false->zk .any o l=true->Vm.I L (W L n A V) (λl w=>S l w/\Cl L l) a l a' w'->wpOp P L.toArray Q i (Vm.I L (W L n A V) (λl w=>S l w/\Cl L l) a (λj=>j==i||l j)) a' w':=by
  intro i o hin hi l a' w' hl hu h;have k:=Fg hpre hi hin;obtain⟨d,hdd⟩:=k.d;have hmem:o∈L.take n:=List.mem_of_getElem? (i:=i) (by rw[List.getElem?_take,if_pos hin];exact hi);obtain⟨_,_,hoth,hq⟩:=Gk (λW=>Below w'.heap.size w' W) (λW W' h1 h2=>h1.trans (h2.mono h1.size)) ⟨w',hSC l w' h.st.1,Below.refl _ _⟩;have U1:=hq o hmem d hdd;have hev:execOp a'.eval o=execOp A.eval o:=execOp_congr o k.s λy hy=>Tb.oH λs hs=>by
   have Lj:=Tb.oo hy hs
   by_cases hw:∃j,Vl.dst L j=some s
   ·obtain⟨j,hj⟩:=hw
    rcases k.r j s hj Lj with⟨hjn,e,he,hb,Eb⟩|hge
    ·have Ec:l j=true:=by rw[<-Eb];exact Tb.KO hu he hb
     exact(h.vals j s Ec hj).pre hjn hj
    ·have Ec:=hlate l h.st.2 i o j s hin hi hge hj Lj hl
     rw[hoth s λo2 er e=>by
      obtain⟨j2,ac4,Lm⟩:=htk er;exact Vl.lI hB hj (m:=j2) (by omega) (ew Lm e)]
     exact h.other s λj2 Lm e=>by
      by_cases YU:j2=j
      ·rw[YU,Ec] at Lm;cases Lm
      ·exact Vl.lI hB hj (m:=j2) YU e
   ·have hw:∀j,Vl.dst L j≠some s:=λj e=>hw ⟨j,e⟩
    rw[hoth s λo2 er e=>by
     obtain⟨j,_,hj⟩:=htk er;exact hw j (ew hj e)]
    exact h.other s λj _=>hw j
  have hi':L.toArray[i]? =some o:=by simpa using hi
  have ND:∀(l':Nat->Bool),(∀j,n<=j->j<L.length->l j=l' j)->∀j v W',V l j v W'->V l' j v W':=λl' he j v W'=>hVl l l' he j v W'
  have hup:∀j,n<=j->j<L.length->l j=(λj=>j==i||l j) j:=λj hj _=>by
   show l j=(j==i||l j);rw[show(j==i)=false by simp;omega,Bool.false_or]
  refine Tb.pJ hi' k.g (Oper.wp_of_quiet (C:=λw1=>∃s:aT (λW=>C W/\Below w'.heap.size w' W),w1=s.W) (K:=λb=>b=a'.put (some d) (A.tmps.getD d undef)) ⟨⟨w',hSC l w' h.st.1,Below.refl _ _⟩,rfl⟩ (λb W' vX hb=> ?_) ⟨A.tmps.getD d undef,λW' vX=> ?_,by rw[hdd]⟩)
  ·obtain⟨s0,rfl⟩:=vX
   have hW:=s0.h;subst hb;rw[<-hdd];refine h.next (sz:=0) hB i hi (A.tmps.getD d undef) hl (λj dj Ec hdj hv=> ?_) ?_ ⟨hS l _ _ hup (hSb l _ _ h.st.1 hW.2 hW.1),h.st.2.next hi hu⟩
   ·unfold W at hv ⊢
    split
    ·rwa[if_pos (by assumption)] at hv
    ·rw[if_neg (by assumption)] at hv
     exact ND _ hup _ _ _ (hVb _ _ _ _ _ hv hW.2)
   ·unfold W
    rw[if_pos hin,ew hi hdd];rfl
  ·obtain⟨s0,rfl⟩:=vX
   have:=U1 s0.W ⟨s0,rfl⟩;unfold Oper.quietAt at this ⊢;rw[hev];exact this
 refine Tb.qC L 0 λi o hi l a' w' hl hu h=> ?_
 rw[Nat.zero_add] at hl ⊢
 by_cases hin:i<n
 ·exact key i o hin hi l a' w' hl hu h
 ·have:=fK.get (L.drop n) n (i-n) o hst (by rw[List.getElem?_drop,show n+(i-n)=i by omega];exact hi) l a' w' (by rw[show n+(i-n)=i by omega];exact hl) hu (down h)
  rw[show n+(i-n)=i by omega] at this;exact wpOp_mono (λa1 w1 h1=>⟨h1.defers,h1.size,h1.other,h1.vals,h1.st,h.st.2.next hi hu⟩) this
end
end Vp
theorem CK(u v:Int)(W:World):(Instr.buildSlice 37 2 #[(0,.int .i64 u),(1,.int .i64 v)]).run Tryz.prog W= .ok (.slice (some ⟨W.heap.size,0,none⟩) 2 2) (W.alloc (.cells #[.int .i64 u,.int .i64 v] 3)):=by kernel_rfl
theorem CJ(u v x:Int)(W:World):(Instr.buildSlice 37 3 #[(0,.int .i64 u),(1,.int .i64 v),(2,.int .i64 x)]).run Tryz.prog W= .ok (.slice (some ⟨W.heap.size,0,none⟩) 3 3) (W.alloc (.cells #[.int .i64 u,.int .i64 v,.int .i64 x] 3)):=by kernel_rfl
def OfP(w:World)(i:Int)(e:Ending)(w':World):Prop:=
 Below w.heap.size w w'/\(((i<0\/65536<=i)/\e= .returned (.tuple #[.int .i64 0,.slice none 0 0,.int .i64 100]))\/
  ((0<=i/\i<65536)/\∃a c,e= .returned (.tuple #[.int .i64 ((Im.bC i.toNat:Nat):Int),.slice a (Im.bE i.toNat).length c,.int .i64 0])/\cY w' a 1 (Im.bE i.toNat).length (gZ (Im.bE i.toNat))/\∀b off,a=some ⟨b,off,none⟩->w.heap.size<=b/\b<w'.heap.size))
theorem qN(w:World)(cs:Array Value)(l:List Nat)(h:∀k,k<l.length->cs[k]? =some (.int .i64 ((l.getD k 0:Nat):Int))):cY (w.alloc (.cells cs 3)) (some ⟨w.heap.size,0,none⟩) 1 l.length (gZ l):=
 .inr ⟨w.heap.size,0,rfl,λk hk j v hv=>by
  cases j with
  |succ j=>cases hv
  |zero=>
   injection hv with hv
   subst hv;rw[Nat.zero_add,Nat.mul_one,Nat.add_zero];exact(At.new w 3 cs).cell (h k hk)⟩
theorem CR(i:Int)(w:World):Calls Tryz.prog 104 #[.int .i64 i] w λe w'=>OfP w i e w':=by
 have hbb:=CK;have hbc:=CJ;have Q4:=lz;have hB:∀(cs:Array Value),Below w.heap.size w (w.alloc (.cells cs 3)):=λcs=>(Below.refl _ _).alloc (Nat.le_refl _) _
 have HB:=hid hB;clear hB
 by_cases h0:i<0
 ·go_enter Tryz.func104,Tryz.ntmps104
  go_wp2_with fail;refine bodyPost_ret (results_tmp3 rfl _ _ _) rfl ?_;exact⟨Below.refl _ _,.inl ⟨.inl h0,rfl⟩⟩
 have q0:decide (i<0)=false:=decide_eq_false h0;obtain⟨n,rfl⟩:∃n:Nat,i=(n:Int):=⟨i.toNat,by omega⟩
 by_cases h1:65536<=n
 ·have q1:decide ((65536:Int)<=(n:Int))=true:=decide_eq_true (by omega)
  have q1':decide (65536<=n)=true:=decide_eq_true h1;clear h0;go_enter Tryz.func104,Tryz.ntmps104;go_wp2_with fail;refine bodyPost_ret (results_tmp3 rfl _ _ _) rfl ?_;exact⟨Below.refl _ _,.inl ⟨.inr (by omega),rfl⟩⟩
 have q1:decide ((65536:Int)<=(n:Int))=false:=decide_eq_false (by omega);have q1':decide (65536<=n)=false:=decide_eq_false h1;have hn:0<=(n:Int)/\(n:Int)<65536:=by omega
 have ky:=hid hn;have fY:n<65536:=by omega
 clear h0 h1 hn
 by_cases h8:n<8
 ·have q2:decide ((n:Int)<8)=true:=decide_eq_true (by omega)
  have q2':decide (n<8)=true:=decide_eq_true h8;go_enter Tryz.func104,Tryz.ntmps104;go_wp2_with fail;refine bodyPost_ret (results_tmp3 rfl _ _ _) rfl ?_;have e1:Im.bC (n:Int).toNat=n:=by rw[Int.toNat_natCast];unfold Im.bC;rw[if_pos h8]
  have e2:Im.bE (n:Int).toNat=[]:=by rw[Int.toNat_natCast];unfold Im.bE;rw[if_pos h8]
  exact⟨Below.refl _ _,.inr ⟨ky.out,none,0,by rw[e1,e2];rfl,.inl (by rw[e2];rfl),λb off e=>by cases e⟩⟩
 have q2:decide ((n:Int)<8)=false:=decide_eq_false (by omega);have q2':decide (n<8)=false:=decide_eq_false h8
 by_cases Gj:n<72
 ·have q3:decide ((n:Int)<72)=true:=decide_eq_true (by omega)
  have q3':decide (n<72)=true:=decide_eq_true Gj;have e1:Im.bC (n:Int).toNat=8:=by rw[Int.toNat_natCast];unfold Im.bC;rw[if_neg h8,if_pos Gj]
  have e2:Im.bE (n:Int).toNat=[n-8]:=by rw[Int.toNat_natCast];unfold Im.bE;rw[if_neg h8,if_pos Gj]
  have e3:(n:Int)-8=((n-8:Nat):Int):=by omega
  have HE:=hid (And.intro e1 (And.intro e2 e3));clear h8 Gj e1 e2 e3;go_enter Tryz.func104,Tryz.ntmps104;go_wp2_with fail;refine bodyPost_ret (results_tmp3 rfl _ _ _) rfl ?_;obtain⟨e1,e2,e3⟩:=HE.out;refine⟨HB.out _,.inr ⟨ky.out,some ⟨w.heap.size,0,none⟩,1,by rw[e1,e2];rfl,?_,λb off e=>by injection e with e;injection e with e;subst e;exact⟨Nat.le_refl _,by rw[World.size_alloc];omega⟩⟩⟩;rw[e2];exact qN w _ [n-8] λk hk=>by
   obtain rfl:k=0:=by simp at hk;exact hk
   rw[e3];rfl
 have q3:decide ((n:Int)<72)=false:=decide_eq_false (by omega);have q3':decide (n<72)=false:=decide_eq_false Gj
 by_cases Lw:n<4168
 ·have q4:decide ((n:Int)<4168)=true:=decide_eq_true (by omega)
  have q4':decide (n<4168)=true:=decide_eq_true Lw;have e1:Im.bC (n:Int).toNat=9:=by rw[Int.toNat_natCast];unfold Im.bC;rw[if_neg h8,if_neg Gj,if_pos Lw]
  have e2:Im.bE (n:Int).toNat=[(n-72)/64,(n-72)%64]:=by rw[Int.toNat_natCast];unfold Im.bE;rw[if_neg h8,if_neg Gj,if_pos Lw]
  obtain⟨A,hA⟩:∃A:Nat,A=(n-72)/64:=⟨_,rfl⟩;obtain⟨B,hB⟩:∃B:Nat,B=(n-72)%64:=⟨_,rfl⟩;have f1:((n:Int)-72).tdiv 64=(A:Int):=by rw[Int.tdiv_eq_ediv_of_nonneg (by omega)];omega
  have f2:((n:Int)-72).tmod 64=(B:Int):=by rw[Int.tmod_eq_emod_of_nonneg (by omega)];omega
  rw[<-hA,<-hB] at e2;have Vi:(72:Int)<=(n:Int):=by omega
  have O4:A<=1024:=by omega
  have HE:=hid (And.intro e1 e2);clear h8 Gj e1 e2 hA hB Lw;go_enter Tryz.func104,Tryz.ntmps104;go_wp2_with fail;refine bodyPost_ret (results_tmp3 rfl _ _ _) rfl ?_;obtain⟨e1,e2⟩:=HE.out;refine⟨HB.out _,.inr ⟨ky.out,some ⟨w.heap.size,0,none⟩,2,by rw[e1,e2];rfl,?_,λb off e=>by injection e with e;injection e with e;subst e;exact⟨Nat.le_refl _,by rw[World.size_alloc];omega⟩⟩⟩;rw[e2];exact qN w _ [A,B] λk hk=>by
   have:k=0\/k=1:=by simp at hk;omega
   rcases this with rfl|rfl<;>rfl
 have q4:decide ((n:Int)<4168)=false:=decide_eq_false (by omega);have q4':decide (n<4168)=false:=decide_eq_false Lw;have e1:Im.bC (n:Int).toNat=10:=by rw[Int.toNat_natCast];unfold Im.bC;rw[if_neg h8,if_neg Gj,if_neg Lw]
 have e2:Im.bE (n:Int).toNat=[(n-4168)/4096,(n-4168)%4096/64,(n-4168)%64]:=by rw[Int.toNat_natCast];unfold Im.bE;rw[if_neg h8,if_neg Gj,if_neg Lw]
 obtain⟨A,hA⟩:∃A:Nat,A=(n-4168)/4096:=⟨_,rfl⟩;obtain⟨B,hB⟩:∃B:Nat,B=(n-4168)%4096/64:=⟨_,rfl⟩;obtain⟨C,hC⟩:∃C:Nat,C=(n-4168)%64:=⟨_,rfl⟩;obtain⟨D,hD⟩:∃D:Nat,D=(n-4168)/64:=⟨_,rfl⟩;have f1:((n:Int)-4168).tdiv 4096=(A:Int):=by rw[Int.tdiv_eq_ediv_of_nonneg (by omega)];omega
 have f2:((n:Int)-4168).tdiv 64=(D:Int):=by rw[Int.tdiv_eq_ediv_of_nonneg (by omega)];omega
 have f3:(D:Int).tmod 64=(B:Int):=by rw[Int.tmod_eq_emod_of_nonneg (by omega)];omega
 have f4:((n:Int)-4168).tmod 64=(C:Int):=by rw[Int.tmod_eq_emod_of_nonneg (by omega)];omega
 rw[<-hA,<-hB,<-hC] at e2;have Vi:(4168:Int)<=(n:Int):=by omega
 have O4:A<=1024:=by omega
 have hD9:D<=1024:=by omega
 have HE:=hid (And.intro e1 e2);clear h8 Gj e1 e2 hA hB hC hD Lw;go_enter Tryz.func104,Tryz.ntmps104;go_wp2_with fail;refine bodyPost_ret (results_tmp3 rfl _ _ _) rfl ?_;obtain⟨e1,e2⟩:=HE.out;refine⟨HB.out _,.inr ⟨ky.out,some ⟨w.heap.size,0,none⟩,3,by rw[e1,e2];rfl,?_,λb off e=>by injection e with e;injection e with e;subst e;exact⟨Nat.le_refl _,by rw[World.size_alloc];omega⟩⟩⟩;rw[e2];exact qN w _ [A,B,C] λk hk=>by
  have:k=0\/k=1\/k=2:=by simp at hk;omega
  rcases this with rfl|rfl|rfl<;>rfl
end Go.Proofs.YtphamecphmbipaaGreatDoor
