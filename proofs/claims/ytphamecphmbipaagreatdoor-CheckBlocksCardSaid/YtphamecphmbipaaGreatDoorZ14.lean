/- Texts of this claim, merged. -/
import Derived.Test.YtphamecphmbipaaGreatDoorZ12
set_option linter.unusedVariables false
namespace Go.Proofs.YtphamecphmbipaaGreatDoor
open Go.RowKit
variable {v:Value} {Q:Exit->Act->World->Prop} {L:List Oper} {o:Oper} {id i d:Nat} {w w':World} {ops:Array Oper} {A:Act} {l l':Nat->Bool}
namespace Vl
section
variable {P:Program} {W:World} {o:Oper} {a:Act}
theorem br(x:Operand)(ho:o.op= .move x)(hx:a.eval x=v):(execOp a.eval o).run P W= .ok (.value v) W:=by simp[execOp,ho,hx]
theorem kV(x:Operand)(ho:o.op= .assign x)(hx:a.eval x=v):(execOp a.eval o).run P W= .ok (.value v) W:=by simp[execOp,ho,hx]
theorem M3(c x y:Operand)(b:Bool)(ho:o.op= .pick c x y)(hc:a.eval c= .bool b)(hv:(if b then a.eval x else a.eval y)=v):(execOp a.eval o).run P W= .ok (.value v) W:=by
 subst hv;cases b<;>simp[execOp,ho,hc,asBool]
theorem fJ(x:Operand)(i:Nat)(vs:Array Value)(ho:o.op= .extract x i)(hx:a.eval x= .tuple vs)(hv:vs[i]? =some v):(execOp a.eval o).run P W= .ok (.value v) W:=by
 simp[execOp,ho,hx,Instr.extract,hv]
theorem tY(ty:TypeId)(x:Operand)(ho:o.op= .load ty x)(g j:Nat)(hx:a.eval x= .pointer (some ⟨g,j,none⟩))
  (hc:W.cell? ⟨g,j,none⟩=some v) (hagg:(isAgg ty).run P W= .ok false W):(execOp a.eval o).run P W= .ok (.value v) W:=by
 unfold execOp;simp only[ho,hx,Instr.loadAt,Instr.sureAddr,Sem.run_bind,Sem.run_pure,Result.andThen_ok];simp[loadVar,Sem.run_bind,hagg,hc]
theorem Jf{W':World}(t:TypeId)(ho:o.op= .alloc t)(hr:(Instr.alloc t true (.tuple #[])).run P W= .ok v W'):(execOp a.eval o).run P W= .ok (.value v) W':=by
 simp[execOp,ho,hr]
theorem nI(f:FuncId)(x y:Operand)(MD:Array TypeId)(u v:Value)(ho:o.op= .call {callee:=.value (.func f),args:=#[x,y],argTypes:=MD})(hx:a.eval x=u)(hy:a.eval y=v)
  (hr:((do let d<-Deferred.ofValue (a.eval (.func f)) #[u,v];invoke d.target d.args):Sem Next).run P W= .ok (.enter f #[u,v]) W):(execOp a.eval o).run P W= .ok (.enter f #[u,v]) W:=by
 rw[<-hr];unfold execOp;rw[ho];simp only[resolve];simp[hx,hy]
theorem il{K:Act->World->Prop}(f:FuncId)(args:Array Value)(hrun:(execOp a.eval o).run P W= .ok (.enter f args) W)(hc:Calls P f args W λe W'=>∃v,e= .returned v/\K (a.put o.dst v) W'):o.wp P a W K Q:=by
 unfold Oper.wp;rw[hrun];refine hc.mono ?_;rintro e W' ⟨v,rfl,h⟩;exact h
theorem oT(a:Act):∀(ds:List Nat) (x:Act),(ds.foldl (λx d=>x.put (some d) (a.tmps.getD d undef)) x).defers=x.defers/\(ds.foldl (λx d=>x.put (some d) (a.tmps.getD d undef)) x).tmps.size=x.tmps.size/\
  ∀k,k<x.tmps.size->((ds.foldl (λx d=>x.put (some d) (a.tmps.getD d undef)) x).tmps.getD k undef=if k∈ds then a.tmps.getD k undef else x.tmps.getD k undef)
 |[],x=>⟨rfl,rfl,λk _=>by simp⟩
 |d::ds,x=>by
  obtain⟨h1,h2,h3⟩:=oT a ds (x.put (some d) (a.tmps.getD d undef));rw[List.foldl_cons];refine⟨h1.trans rfl,h2.trans (Tb.jE _ _ _),λk hk=> ?_⟩;rw[h3 k (by rw[Tb.jE];exact hk)]
  by_cases hm:k∈ds
  ·rw[if_pos hm,if_pos (List.mem_cons_of_mem _ hm)]
  rw[if_neg hm]
  by_cases e:k=d
  ·subst e
   rw[if_pos (List.mem_cons_self ..),Tb.nL _ _ _ hk]
  rw[if_neg (by simp[e,hm]),Tb.iz _ _ _ _ e]
theorem I.all{V:Nat->Value->World->Prop}{S:(Nat->Bool)->World->Prop}{a0:Act}(h:I L V S a0 (λ_=>true) a W)(ds:List Nat)(hd:∀i d,dst L i=some d->d∈ds):a=ds.foldl (λx d=>x.put (some d) (a.tmps.getD d undef)) a0:=by
 obtain⟨h1,h2,h3⟩:=oT a ds a0;generalize (ds.foldl (λx d=>x.put (some d) (a.tmps.getD d undef)) a0)=y at h1 h2 h3;have hs:a.tmps=y.tmps:=by
  refine Array.ext (h.size.trans h2.symm) λk hk1 hk2=> ?_
  have e:a.tmps.getD k undef=y.tmps.getD k undef:=by
   rw[h3 k (by rw[<-h.size];exact hk1)]
   by_cases hm:k∈ds
   ·rw[if_pos hm]
   rw[if_neg hm];exact h.other k λi _ e=>hm (hd i k e)
  rw[Array.getD_eq_getD_getElem?,Array.getD_eq_getD_getElem?,Array.getElem?_eq_getElem hk1,Array.getElem?_eq_getElem hk2] at e;exact e
 have NS:a.defers=y.defers:=h.defers.trans h1.symm;cases a
 cases y
 simp only at hs NS;rw[hs,NS]
theorem L6{ds:List Nat}(h:(List.range L.length).all (λi=>match dst L i with|none=>true|some d=>ds.contains d)=true)(i d:Nat)(hd:dst L i=some d):d∈ds:=by
 have hi:i<L.length:=by
  unfold dst at hd;cases hl:L[i]? with
  |none=>rw[hl] at hd;cases hd
  |some o=>exact(List.getElem?_eq_some_iff.1 hl).1
 have:=(List.all_eq_true.1 h) i (List.mem_range.2 hi);rw[hd] at this;simpa using this
end
end Vl
namespace Vm
open Go.Proofs.YtphamecphmbipaaGreatDoor.Vl
structure I(L:List Oper)(V:(Nat->Bool)->Nat->Value->World->Prop)(S:(Nat->Bool)->World->Prop)(a0:Act)(l:Nat->Bool)(a:Act)(W:World):Prop where
 defers:a.defers=a0.defers
 size:a.tmps.size=a0.tmps.size
 other:∀k,(∀i,l i=true->dst L i≠some k)->a.tmps.getD k undef=a0.tmps.getD k undef
 vals:∀i d,l i=true->dst L i=some d->V l i (a.tmps.getD d undef) W
 st:S l W
section
variable {P:Program} {L:List Oper} {V:(Nat->Bool)->Nat->Value->World->Prop} {S:(Nat->Bool)->World->Prop} {a0:Act} {l:Nat->Bool} {a:Act} {W W':World}
theorem I.old(h:I L V S a0 l a W)(k:Nat)(hk:(List.range L.length).all (λi=>dst L i !=some k)=true):a.tmps.getD k undef=a0.tmps.getD k undef:=by
 refine h.other k λi _ e=> ?_
 have hi:i<L.length:=by
  unfold dst at e;cases hl:L[i]? with
  |none=>rw[hl] at e;cases e
  |some o=>exact(List.getElem?_eq_some_iff.1 hl).1
 have:=(List.all_eq_true.1 hk) i (List.mem_range.2 hi);rw[e] at this;simp at this
theorem I.next(h:I L V S a0 l a W){sz:Nat}(hB:kG L a0.tmps.size=true)(n:Nat)(ho:L[n]? =some o)(v:Value)(hl:l n=false)(hV:∀i d,l i=true->dst L i=some d->V l i (a.tmps.getD d undef) W->V (λj=>j==n||l j) i (a.tmps.getD d undef) W')(hv:V (λj=>j==n||l j) n v W')(hS:S (λj=>j==n||l j) W'):
  I L V S a0 (λj=>j==n||l j) (a.put o.dst v) W':=by
 have mo:dst L n=o.dst:=by unfold dst;rw[ho];rfl
 cases hd:o.dst with
 |none=>
  refine⟨h.defers,h.size,λk hk=>h.other k λi hi=>hk i (by show(i==n||l i)=true;rw[hi,Bool.or_true]),λi d hi he=> ?_,hS⟩
  by_cases e:i=n
  ·subst e;rw[mo,hd] at he;cases he
  have hi':l i=true:=by
   have:(i==n||l i)=true:=hi;rwa[show(i==n)=false by simpa using e,Bool.false_or] at this
  exact hV i d hi' he (h.vals i d hi' he)
 |some d=>
  have hlt:=qv hB (n:=n) (d:=d) (by rw[mo,hd]);refine⟨h.defers,(Tb.jE _ _ _).trans h.size,λk hk=> ?_,λi d' hi he=> ?_,hS⟩
  ·have fV:k≠d:=λe=>hk n (by show(n==n||l n)=true;simp) (by rw[mo,hd,e])
   rw[Tb.iz _ _ _ _ fV];exact h.other k λi hi=>hk i (by show(i==n||l i)=true;rw[hi,Bool.or_true])
  by_cases e:i=n
  ·subst e
   rw[mo,hd] at he;injection he with he
   subst he;rw[Tb.nL _ _ _ (by rw[h.size];exact hlt)];exact hv
  have hi':l i=true:=by
   have:(i==n||l i)=true:=hi;rwa[show(i==n)=false by simpa using e,Bool.false_or] at this
  have hdd:d'≠d:=λe2=>lU hB (n:=n) (d:=d) (by rw[mo,hd]) e (by rw[he,e2])
  rw[Tb.iz _ _ _ _ hdd];exact hV i d' hi' he (h.vals i d' hi' he)
theorem cZ(V:(Nat->Bool)->Nat->Value->World->Prop)(S:(Nat->Bool)->World->Prop)(hm:P.follows .mixedOrders=true)(hd:ft .any L.toArray=true)
  (hVl:∀l l',(∀i,i<L.length->l i=l' i)->∀i v w,V l i v w->V l' i v w) (hS:∀l l' w,(∀i,i<L.length->l i=l' i)->S l w->S l' w) (h0:S (λ_=>false) {w with drawn:=w.drawn+1}) (hst:kG L a.tmps.size=true->gg P .any L.toArray Q (I L V S a) 0 L)
  (hB:kG L a.tmps.size=true) (hend:∀a' w',I L V S a (λ_=>true) a' w'->Q .normal a' w'):(Code.region id L.toArray true).wp P Q a w:=by
 refine mb (I L V S a) hm hd (λl l' a' w' he h=> ?_) ⟨rfl,rfl,λ_ _=>rfl,(λi d h=>by cases h),h0⟩ (hst hB) hend;have hlt:∀{i d},dst L i=some d->i<L.length:=λ{i d} e=>by
  unfold dst at e;cases hl:L[i]? with
  |none=>rw[hl] at e;cases e
  |some o=>exact(List.getElem?_eq_some_iff.1 hl).1
 exact⟨h.defers,h.size,λk hk=>h.other k λi hi e=>hk i (by rw[<-he i (hlt e)];exact hi) e,λi d hi e=>hVl l l' he i _ w' (h.vals i d (by rw[he i (hlt e)];exact hi) e),hS l l' w' he h.st⟩
theorem step{n:Nat}(h:I L V S a0 l a W)(hB:kG L a0.tmps.size=true)(hn:ops[n]? =some o)(Gl:L[n]? =some o)(hg:o.guard=none)(hl:l n=false)
  (hw:o.wp P a W (λa' W'=>∃v,a'=a.put o.dst v/\(∀i d,l i=true->dst L i=some d->V l i (a.tmps.getD d undef) W->V (λj=>j==n||l j) i (a.tmps.getD d undef) W')/\V (λj=>j==n||l j) n v W'/\S (λj=>j==n||l j) W') Q):wpOp P ops Q n (I L V S a0 (λj=>j==n||l j)) a W:=by
 refine Tb.pZ hn hg ?_;refine Oper.wp_mono (λa' W' h'=> ?_) hw;obtain⟨v,rfl,h1,h2,h3⟩:=h';exact h.next (sz:=0) hB n Gl v hl h1 h2 h3
theorem aJ{n:Nat}(h:I L V S a0 l a W)(hB:kG L a0.tmps.size=true)(hn:ops[n]? =some o)(Gl:L[n]? =some o)(hg:o.guard=none)(hl:l n=false)
  (v:Value) (hr:(execOp a.eval o).run P W= .ok (.value v) W) (hVq:∀i v,V l i v W->V (λj=>j==n||l j) i v W) (hv:V (λj=>j==n||l j) n v W) (hS:S l W->S (λj=>j==n||l j) W):wpOp P ops Q n (I L V S a0 (λj=>j==n||l j)) a W:=
 step h hB hn Gl hg hl (eZ hr ⟨v,rfl,λ_ _ _ _ h=>hVq _ _ h,hv,hS h.st⟩)
end
end Vm
namespace Vp
def Ln(md:Region.Mode)(L:List Oper)(n:Nat)(o:Oper):Bool:=
 (match o.guard with|none=>true|some _=>false)&&(match o.op with| .select _ _=>false|_=>true)&&(match o.dst with|none=>false|some _=>true)&&
 (List.range L.length).all λj=>match Vl.dst L j with
  |none=>true
  |some d=> !Tb.eE o d||(decide (j<n)&&o.after.any λe=>Region.binds md e&&e.on==j)
def preB(md:Region.Mode)(L:List Oper)(n:Nat):Bool:=decide (n<=L.length)&&(L.take n).all (Ln md L n)
section
variable {P:Program} {L:List Oper} {V:(Nat->Bool)->Nat->Value->World->Prop} {S:(Nat->Bool)->World->Prop} {a:Act}
theorem lu(h:Vl.dst L i=some d):∃o,L[i]? =some o/\o.dst=some d:=by
 unfold Vl.dst at h;cases hl:L[i]? with
 |none=>rw[hl] at h;cases h
 |some o=>rw[hl] at h;exact⟨o,rfl,h⟩
theorem eL(h:L[i]? =some o)(hd:o.dst=some d):Vl.dst L i=some d:=by
 unfold Vl.dst;rw[h];exact hd
structure PL(md:Region.Mode)(L:List Oper)(n:Nat)(o:Oper):Prop where
 g:o.guard=none
 s:∀cs b,o.op≠ .select cs b
 d:∃d,o.dst=some d
 r:∀j d,Vl.dst L j=some d->Tb.eE o d=true->j<n/\∃e∈o.after,Region.binds md e=true/\e.on=j
theorem Qm{md:Region.Mode}{n:Nat}(h:preB md L n=true)(hi:L[i]? =some o)(hn:i<n):PL md L n o:=by
 unfold preB at h;rw[Bool.and_eq_true,List.all_eq_true] at h;have hm:o∈L.take n:=List.mem_of_getElem? (i:=i) (by rw[List.getElem?_take,if_pos hn];exact hi);have h1:=h.2 o hm;unfold Ln at h1;simp only[Bool.and_eq_true] at h1;obtain⟨⟨⟨hg,hs⟩,hd⟩,hr⟩:=h1;have k1:o.guard=none:=by cases hgg:o.guard with|none=>rfl|some x=>rw[hgg] at hg;cases hg
 have k3:∃d,o.dst=some d:=by
  cases hdd:o.dst with
  |none=>rw[hdd] at hd;cases hd
  |some x=>exact⟨x,rfl⟩
 refine⟨k1,λcs b e=>(by rw[e] at hs;cases hs),k3,λj d hj LM=> ?_⟩;obtain⟨oj,DK,_⟩:=lu hj;have h2:=(List.all_eq_true.1 hr) j (List.mem_range.2 (List.getElem?_eq_some_iff.1 DK).1);rw[hj] at h2;simp only[LM,Bool.not_true,Bool.false_or,Bool.and_eq_true,decide_eq_true_eq,Array.any_eq_true'] at h2;obtain⟨h3,e,he,pr⟩:=h2;simp only[beq_iff_eq] at pr;exact⟨h3,e,he,pr.1,pr.2⟩
def W(L:List Oper)(n:Nat)(A:Act)(V:(Nat->Bool)->Nat->Value->World->Prop)(l:Nat->Bool)(i:Nat)(v:Value)(w:World):Prop:=
 if i<n then v=A.tmps.getD ((Vl.dst L i).getD 0) undef else V l i v w
theorem W.pre{n:Nat}(h:W L n A V l i v w)(hi:i<n)(hd:Vl.dst L i=some d):v=A.tmps.getD d undef:=by
 unfold W at h;rw[if_pos hi,hd] at h;exact h
theorem W.post{n:Nat}(h:W L n A V l i v w)(hi:¬i<n:=by decide):V l i v w:=by
 unfold W at h;rwa[if_neg hi] at h
theorem W.up{n:Nat}(h:W L n A V l i v w)(hv:¬i<n->V l i v w->V l' i v w'):W L n A V l' i v w':=by
 unfold W at h ⊢;split
 ·rwa[if_pos (by assumption)] at h
 rw[if_neg (by assumption)] at h;exact hv (by assumption) h
theorem W.mk{n:Nat}(h:V l i v w)(hi:¬i<n:=by decide):W L n A V l i v w:=by
 unfold W;rwa[if_neg hi]
theorem all{n:Nat}{a':Act}(h:Vm.I L (W L n A V) S a (λ_=>true) a' w')(hA:A.defers=a.defers)(hz:A.tmps.size=a.tmps.size)(ho:∀s,(∀i,Vl.dst L i≠some s)->A.tmps.getD s undef=a.tmps.getD s undef)(ds:List Nat)(hds:∀i d,¬i<n->Vl.dst L i=some d->d∈ds):
  a'=ds.foldl (λx d=>x.put (some d) (a'.tmps.getD d undef)) A:=by
 obtain⟨h1,h2,h3⟩:=Vl.oT a' ds A;generalize (ds.foldl (λx d=>x.put (some d) (a'.tmps.getD d undef)) A)=y at h1 h2 h3;have hs:a'.tmps=y.tmps:=by
  refine Array.ext (h.size.trans (hz.symm.trans h2.symm)) λk hk1 hk2=> ?_
  have e:a'.tmps.getD k undef=y.tmps.getD k undef:=by
   rw[h3 k (by rw[hz,<-h.size];exact hk1)]
   by_cases hm:k∈ds
   ·rw[if_pos hm]
   rw[if_neg hm]
   by_cases hw:∃i,Vl.dst L i=some k
   ·obtain⟨i,hi⟩:=hw
    have hin:i<n:=Classical.byContradiction λe=>hm (hds i k e hi)
    exact(h.vals i k rfl hi).pre hin hi
   have hw:∀i,Vl.dst L i≠some k:=λi e=>hw ⟨i,e⟩
   rw[ho k hw];exact h.other k λi _=>hw i
  rw[Array.getD_eq_getD_getElem?,Array.getD_eq_getD_getElem?,Array.getElem?_eq_getElem hk1,Array.getElem?_eq_getElem hk2] at e;exact e
 have NS:a'.defers=y.defers:=h.defers.trans (hA.symm.trans h1.symm);cases a'
 cases y
 simp only at hs NS;rw[hs,NS]
theorem bG(n:Nat)(V:(Nat->Bool)->Nat->Value->World->Prop)(S:(Nat->Bool)->World->Prop)(C:World->Prop)(A:Act)(hm:P.follows .mixedOrders=true)(hd:ft .any L.toArray=true)(hpre:preB .any L n=true)(hB:Vl.kG L a.tmps.size=true)
  (hVl:∀l l',(∀i,n<=i->i<L.length->l i=l' i)->∀i v w,V l i v w->V l' i v w) (hS:∀l l' w,(∀i,n<=i->i<L.length->l i=l' i)->S l w->S l' w) (hSC:∀l w,S l w->C w)
  (hVb:∀l i v W W',V l i v W->Below W.heap.size W W'->V l i v W') (hSb:∀l W W',S l W->Below W.heap.size W W'->C W'->S l W') (h0:S (λ_=>false) {w with drawn:=w.drawn+1})
  (hwalk:∀R:World->Prop,(∀W W',R W->Below W.heap.size W W'->R W')->Nonempty (a9 (λW=>C W/\R W))->wpQuiet P (L.take n).toArray (λw'=>∃s:a9 (λW=>C W/\R W),w'=s.W) (λa'=>a'=A) (L.take n) a)
  (hst:gg P .any L.toArray Q (Vm.I L (W L n A V) S a) n (L.drop n))
  (hend:∀a' w',Vm.I L (W L n A V) S a (λ_=>true) a' w'->(∀ds:List Nat,(List.range L.length).all (λi=>decide (i<n)||match Vl.dst L i with|none=>true|some d=>ds.contains d)=true->a'=ds.foldl (λx d=>x.put (some d) (a'.tmps.getD d undef)) A)->Q .normal a' w'):(Code.region id L.toArray true).wp P Q a w:=by
 have hn:n<=L.length:=by unfold preB at hpre;rw[Bool.and_eq_true,decide_eq_true_eq] at hpre;exact hpre.1
 have htk:∀{o},o∈L.take n->∃i,i<n/\L[i]? =some o:=λ{o} ho=>by
  obtain⟨i,hi⟩:=List.getElem?_of_mem ho;rw[List.getElem?_take] at hi;split at hi
  ·exact⟨i,by assumption,hi⟩
  cases hi
 have hlt:∀{i d},Vl.dst L i=some d->i<L.length:=λ{i d} e=>by
  obtain⟨o,ho,_⟩:=lu e;exact(List.getElem?_eq_some_iff.1 ho).1
 have GH:∀R:World->Prop,(∀W W',R W->Below W.heap.size W W'->R W')->(∃W,C W/\R W)->A.defers=a.defers/\A.tmps.size=a.tmps.size/\(∀s,(∀o∈L.take n,o.dst≠some s)->A.tmps.getD s undef=a.tmps.getD s undef)/\
   ∀(o:Oper),o∈L.take n->∀d,o.dst=some d->∀w,(∃s:a9 (λW=>C W/\R W),w=s.W)->o.quietAt P A (λw'=>∃s:a9 (λW=>C W/\R W),w'=s.W) w (A.tmps.getD d undef):=λR hR ⟨W,hW⟩=>by
  refine Tb.qK (C:=λw'=>∃s:a9 (λW=>C W/\R W),w'=s.W) (L.take n) a (λo ho=> ?_) ?_ (λo ho d Wv=> ?_) (hwalk R hR ⟨⟨W,hW⟩⟩)
  ·obtain⟨i,hin,hi⟩:=htk ho
   have k:=Qm hpre hi hin;obtain⟨d,hdd⟩:=k.d;exact⟨k.g,k.s,d,hdd,Vl.qv hB (eL hi hdd)⟩
  ·refine List.pairwise_iff_getElem.2 λi j hi hj hij=> ?_
   have hin:i<n:=by rw[List.length_take] at hi;omega
   have hjn:j<n:=by rw[List.length_take] at hj;omega
   have ei:L[i]? =some (L.take n)[i]:=by rw[List.getElem_take];exact List.getElem?_eq_getElem _
   have ej:L[j]? =some (L.take n)[j]:=by rw[List.getElem_take];exact List.getElem?_eq_getElem _
   refine⟨λe=> ?_,λd hdy=> ?_⟩
   ·obtain⟨d,hdd⟩:=(Qm hpre ei hin).d
    exact Vl.lU hB (eL ei hdd) (m:=j) (by omega) (eL ej (by rw[<-e,hdd]))
   cases hr:Tb.eE (L.take n)[i] d with
   |false=>rfl
   |true=>
    obtain⟨_,e,he,hb,Es⟩:=(Qm hpre ei hin).r j d (eL ej hdy) hr;have:=cX hd (i:=i) (o:=_) (by rw[List.getElem?_toArray];exact ei) he hb;omega
  obtain⟨i,hin,hi⟩:=htk ho;cases hr:Tb.eE o d with
  |false=>rfl
  |true=>
   obtain⟨_,e,he,hb,Es⟩:=(Qm hpre hi hin).r i d (eL hi Wv) hr;have:=cX hd (i:=i) (by simpa using hi) he hb;omega
 refine Vm.cZ (W L n A V) S hm hd (λl l' he i v w h=> ?_) (λl l' w he=>hS l l' w λi _ hi=>he i hi) h0 (λ_=> ?_) hB (λa' w' h=>hend a' w' h λds hds=> ?_)
 ·unfold W at h ⊢
  split
  ·rwa[if_pos (by assumption)] at h
  rw[if_neg (by assumption)] at h;exact hVl l l' (λi _ hi=>he i hi) i v w h
 rotate_left
 ·obtain⟨W,hW⟩:∃W,C W/\True:=⟨_,hSC _ _ h0,trivial⟩
  obtain⟨g1,g2,g3,_⟩:=GH (λ_=>True) (λ_ _ _ _=>trivial) ⟨W,hW⟩;refine all h g1 g2 (λs hs=>g3 s λo ho e=> ?_) ds λi d hin hd=> ?_
  ·obtain⟨i,_,hi⟩:=htk ho
   exact hs i (eL hi e)
  have:=(List.all_eq_true.1 hds) i (List.mem_range.2 (hlt hd));rw[hd] at this;simpa[hin] using this
 have key:∀i o,i<n->L[i]? =some o->∀l a' w',l i=false->zF .any o l=true->Vm.I L (W L n A V) S a l a' w'->wpOp P L.toArray Q i (Vm.I L (W L n A V) S a (λj=>j==i||l j)) a' w':=by
  intro i o hin hi l a' w' hl hu h;have k:=Qm hpre hi hin;obtain⟨d,hdd⟩:=k.d;have hmem:o∈L.take n:=List.mem_of_getElem? (i:=i) (by rw[List.getElem?_take,if_pos hin];exact hi);obtain⟨_,_,hoth,hq⟩:=GH (λW=>Below w'.heap.size w' W) (λW W' h1 h2=>h1.trans (h2.mono h1.size)) ⟨w',hSC l w' h.st,Below.refl _ _⟩;have VC:=hq o hmem d hdd;have hev:execOp a'.eval o=execOp A.eval o:=execOp_congr o k.s λy hy=>Tb.oW λs hs=>by
   have LM:=Tb.oH hy hs
   by_cases hw:∃j,Vl.dst L j=some s
   ·obtain⟨j,hj⟩:=hw
    obtain⟨hjn,e,he,hb,Es⟩:=k.r j s hj LM;have Et:l j=true:=by rw[<-Es];exact Tb.Lg hu he hb
    exact(h.vals j s Et hj).pre hjn hj
   have hw:∀j,Vl.dst L j≠some s:=λj e=>hw ⟨j,e⟩
   rw[hoth s λo2 eI e=>by
    obtain⟨j,_,hj⟩:=htk eI;exact hw j (eL hj e)]
   exact h.other s λj _=>hw j
  have hi':L.toArray[i]? =some o:=by simpa using hi
  have N6:∀(l':Nat->Bool),(∀j,n<=j->j<L.length->l j=l' j)->∀j v W',V l j v W'->V l' j v W':=λl' he j v W'=>hVl l l' he j v W'
  have hup:∀j,n<=j->j<L.length->l j=(λj=>j==i||l j) j:=λj hj _=>by
   show l j=(j==i||l j);rw[show(j==i)=false by simp;omega,Bool.false_or]
  refine Tb.pZ hi' k.g (Oper.wp_of_quiet (C:=λw1=>∃s:a9 (λW=>C W/\Below w'.heap.size w' W),w1=s.W) (K:=λb=>b=a'.put (some d) (A.tmps.getD d undef)) ⟨⟨w',hSC l w' h.st,Below.refl _ _⟩,rfl⟩ (λb W' wE hb=> ?_) ⟨A.tmps.getD d undef,λW' wE=> ?_,by rw[hdd]⟩)
  ·obtain⟨s0,rfl⟩:=wE
   have hW:=s0.h;subst hb;rw[<-hdd];refine h.next (sz:=0) hB i hi (A.tmps.getD d undef) hl (λj dj Et hdj hv=> ?_) ?_ (hS l _ _ hup (hSb l _ _ h.st hW.2 hW.1))
   ·unfold W at hv ⊢
    split
    ·rwa[if_pos (by assumption)] at hv
    rw[if_neg (by assumption)] at hv;exact N6 _ hup _ _ _ (hVb _ _ _ _ _ hv hW.2)
   unfold W;rw[if_pos hin,eL hi hdd];rfl
  obtain⟨s0,rfl⟩:=wE;have:=VC s0.W ⟨s0,rfl⟩;unfold Oper.quietAt at this ⊢;rw[hev];exact this
 refine Tb.qS L 0 λi o hi l a' w' hl hu h=> ?_
 rw[Nat.zero_add] at hl ⊢
 by_cases hin:i<n
 ·exact key i o hin hi l a' w' hl hu h
 have:=gg.get (L.drop n) n (i-n) o hst (by rw[List.getElem?_drop,show n+(i-n)=i by omega];exact hi) l a' w' (by rw[show n+(i-n)=i by omega];exact hl) hu h;rwa[show n+(i-n)=i by omega] at this
end
end Vp
namespace Vp
def FB(md:Region.Mode)(L:List Oper)(n:Nat)(o:Oper):Bool:=
 (match o.guard with|none=>true|some _=>false)&&(match o.op with| .select _ _=>false|_=>true)&&(match o.dst with|none=>false|some _=>true)&&
 (List.range L.length).all λj=>match Vl.dst L j with
  |none=>true
  |some d=> !Tb.eE o d||((decide (j<n)&&o.after.any λe=>Region.binds md e&&e.on==j)||decide (n<=j))
def BD(md:Region.Mode)(L:List Oper)(n:Nat):Bool:=decide (n<=L.length)&&(L.take n).all (FB md L n)
section
variable {P:Program} {L:List Oper} {V:(Nat->Bool)->Nat->Value->World->Prop} {S:(Nat->Bool)->World->Prop} {a:Act}
structure XL(md:Region.Mode)(L:List Oper)(n:Nat)(o:Oper):Prop where
 g:o.guard=none
 s:∀cs b,o.op≠ .select cs b
 d:∃d,o.dst=some d
 r:∀j d,Vl.dst L j=some d->Tb.eE o d=true->(j<n/\∃e∈o.after,Region.binds md e=true/\e.on=j)\/n<=j
theorem FC{md:Region.Mode}{n:Nat}(h:BD md L n=true)(hi:L[i]? =some o)(hn:i<n):XL md L n o:=by
 unfold BD at h;rw[Bool.and_eq_true,List.all_eq_true] at h;have hm:o∈L.take n:=List.mem_of_getElem? (i:=i) (by rw[List.getElem?_take,if_pos hn];exact hi);have h1:=h.2 o hm;unfold FB at h1;simp only[Bool.and_eq_true] at h1;obtain⟨⟨⟨hg,hs⟩,hd⟩,hr⟩:=h1;have k1:o.guard=none:=by cases hgg:o.guard with|none=>rfl|some x=>rw[hgg] at hg;cases hg
 have k3:∃d,o.dst=some d:=by
  cases hdd:o.dst with
  |none=>rw[hdd] at hd;cases hd
  |some x=>exact⟨x,rfl⟩
 refine⟨k1,λcs b e=>(by rw[e] at hs;cases hs),k3,λj d hj LM=> ?_⟩;obtain⟨oj,DK,_⟩:=lu hj;have h2:=(List.all_eq_true.1 hr) j (List.mem_range.2 (List.getElem?_eq_some_iff.1 DK).1);rw[hj] at h2
 by_cases hjn:j<n
 ·simp only[LM,Bool.not_true,Bool.false_or,Bool.and_eq_true,Bool.or_eq_true,decide_eq_true_eq,Array.any_eq_true'] at h2
  rcases h2 with⟨h3,e,he,pr⟩|h3
  ·simp only[beq_iff_eq] at pr
   exact .inl ⟨h3,e,he,pr.1,pr.2⟩
  omega
 exact .inr (by omega)
def Cl(L:List Oper)(l:Nat->Bool):Prop:=∀j o,L[j]? =some o->l j=true->zF .any o l=true
theorem Bu(h:zF .any o l=true)(hl:∀k,l k=true->l' k=true):zF .any o l'=true:=by
 unfold zF at h ⊢;rw[Array.all_eq_true'] at h ⊢;intro e he;have:=h e he;cases hb:Region.binds .any e with
 |false=>rfl
 |true=>rw[hb] at this;simpa using hl _ (by simpa using this)
theorem Cl.next(h:Cl L l)(hi:L[i]? =some o)(hu:zF .any o l=true):Cl L (λj=>j==i||l j):=by
 intro j oj hj hl;have hm:∀k,l k=true->(λj=>j==i||l j) k=true:=λk hk=>by show(k==i||l k)=true;rw[hk];simp
 by_cases e:j=i
 ·subst e;rw[hi] at hj;injection hj with hj;subst hj;exact Bu hu hm
 exact Bu (h j oj hj (by have:(j==i||l j)=true:=hl;simpa[e] using this)) hm
def QC(L:List Oper)(n i0 j0:Nat):Bool:=(List.range n).all λi=>(List.range L.length).all λj=>match L[i]?,Vl.dst L j with
 |some o,some d=> !(decide (n<=j)&&Tb.eE o d)||(i==i0&&j==j0)
 |_,_=>true
theorem JB{n i0 j0:Nat}(h:QC L n i0 j0=true){j:Nat}(hi:i<n)(ho:L[i]? =some o)(hj:n<=j)(hd:Vl.dst L j=some d)(hr:Tb.eE o d=true):i=i0/\j=j0:=by
 obtain⟨oj,DK,_⟩:=lu hd;have h1:=(List.all_eq_true.1 ((List.all_eq_true.1 h) i (List.mem_range.2 hi))) j (List.mem_range.2 (List.getElem?_eq_some_iff.1 DK).1);rw[ho,hd] at h1;simpa[hj,hr] using h1
theorem qF(n:Nat)(V:(Nat->Bool)->Nat->Value->World->Prop)(S:(Nat->Bool)->World->Prop)(C:World->Prop)(A:Act)(hm:P.follows .mixedOrders=true)(hd:ft .any L.toArray=true)(hpre:BD .any L n=true)(hB:Vl.kG L a.tmps.size=true)
  (hVl:∀l l',(∀i,n<=i->i<L.length->l i=l' i)->∀i v w,V l i v w->V l' i v w) (hS:∀l l' w,(∀i,n<=i->i<L.length->l i=l' i)->S l w->S l' w) (hSC:∀l w,S l w->C w)
  (hVb:∀l i v W W',V l i v W->Below W.heap.size W W'->V l i v W') (hSb:∀l W W',S l W->Below W.heap.size W W'->C W'->S l W') (h0:S (λ_=>false) {w with drawn:=w.drawn+1})
  (hwalk:∀R:World->Prop,(∀W W',R W->Below W.heap.size W W'->R W')->Nonempty (a9 (λW=>C W/\R W))->wpQuiet P (L.take n).toArray (λw'=>∃s:a9 (λW=>C W/\R W),w'=s.W) (λa'=>a'=A) (L.take n) a)
  (hlate:∀l,Cl L l->∀i o j d,i<n->L[i]? =some o->n<=j->Vl.dst L j=some d->Tb.eE o d=true->l i=false->l j=false)
  (hst:gg P .any L.toArray Q (Vm.I L (W L n A V) S a) n (L.drop n))
  (hend:∀a' w',Vm.I L (W L n A V) S a (λ_=>true) a' w'->(∀ds:List Nat,(List.range L.length).all (λi=>decide (i<n)||match Vl.dst L i with|none=>true|some d=>ds.contains d)=true->a'=ds.foldl (λx d=>x.put (some d) (a'.tmps.getD d undef)) A)->Q .normal a' w'):(Code.region id L.toArray true).wp P Q a w:=by
 have hn:n<=L.length:=by unfold BD at hpre;rw[Bool.and_eq_true,decide_eq_true_eq] at hpre;exact hpre.1
 have htk:∀{o},o∈L.take n->∃i,i<n/\L[i]? =some o:=λ{o} ho=>by
  obtain⟨i,hi⟩:=List.getElem?_of_mem ho;rw[List.getElem?_take] at hi;split at hi
  ·exact⟨i,by assumption,hi⟩
  cases hi
 have hlt:∀{i d},Vl.dst L i=some d->i<L.length:=λ{i d} e=>by
  obtain⟨o,ho,_⟩:=lu e;exact(List.getElem?_eq_some_iff.1 ho).1
 have GH:∀R:World->Prop,(∀W W',R W->Below W.heap.size W W'->R W')->(∃W,C W/\R W)->A.defers=a.defers/\A.tmps.size=a.tmps.size/\(∀s,(∀o∈L.take n,o.dst≠some s)->A.tmps.getD s undef=a.tmps.getD s undef)/\
   ∀(o:Oper),o∈L.take n->∀d,o.dst=some d->∀w,(∃s:a9 (λW=>C W/\R W),w=s.W)->o.quietAt P A (λw'=>∃s:a9 (λW=>C W/\R W),w'=s.W) w (A.tmps.getD d undef):=λR hR ⟨W,hW⟩=>by
  refine Tb.qK (C:=λw'=>∃s:a9 (λW=>C W/\R W),w'=s.W) (L.take n) a (λo ho=> ?_) ?_ (λo ho d Wv=> ?_) (hwalk R hR ⟨⟨W,hW⟩⟩)
  ·obtain⟨i,hin,hi⟩:=htk ho
   have k:=FC hpre hi hin;obtain⟨d,hdd⟩:=k.d;exact⟨k.g,k.s,d,hdd,Vl.qv hB (eL hi hdd)⟩
  ·refine List.pairwise_iff_getElem.2 λi j hi hj hij=> ?_
   have hin:i<n:=by rw[List.length_take] at hi;omega
   have hjn:j<n:=by rw[List.length_take] at hj;omega
   have ei:L[i]? =some (L.take n)[i]:=by rw[List.getElem_take];exact List.getElem?_eq_getElem _
   have ej:L[j]? =some (L.take n)[j]:=by rw[List.getElem_take];exact List.getElem?_eq_getElem _
   refine⟨λe=> ?_,λd hdy=> ?_⟩
   ·obtain⟨d,hdd⟩:=(FC hpre ei hin).d
    exact Vl.lU hB (eL ei hdd) (m:=j) (by omega) (eL ej (by rw[<-e,hdd]))
   cases hr:Tb.eE (L.take n)[i] d with
   |false=>rfl
   |true=>
    rcases (FC hpre ei hin).r j d (eL ej hdy) hr with⟨_,e,he,hb,Es⟩|hge
    ·have:=cX hd (i:=i) (o:=_) (by rw[List.getElem?_toArray];exact ei) he hb
     omega
    omega
  obtain⟨i,hin,hi⟩:=htk ho;cases hr:Tb.eE o d with
  |false=>rfl
  |true=>
   rcases (FC hpre hi hin).r i d (eL hi Wv) hr with⟨_,e,he,hb,Es⟩|hge
   ·have:=cX hd (i:=i) (by simpa using hi) he hb
    omega
   omega
 have down:∀{l a' w'},Vm.I L (W L n A V) (λl w=>S l w/\Cl L l) a l a' w'->Vm.I L (W L n A V) S a l a' w':=λh=>⟨h.defers,h.size,h.other,h.vals,h.st.1⟩
 refine Vm.cZ (W L n A V) (λl w=>S l w/\Cl L l) hm hd (λl l' he i v w h=> ?_) (λl l' w he h=>⟨hS l l' w (λi _ hi=>he i hi) h.1,λj o hj hl=> ?_⟩) ⟨h0,λj o _ e=>by cases e⟩ (λ_=> ?_) hB (λa' w' h=>hend a' w' (down h) λds hds=> ?_)
 ·unfold W at h ⊢
  split
  ·rwa[if_pos (by assumption)] at h
  rw[if_neg (by assumption)] at h;exact hVl l l' (λi _ hi=>he i hi) i v w h
 ·have hjl:=(List.getElem?_eq_some_iff.1 hj).1
  have h2:=h.2 j o hj ((he j hjl).trans hl);unfold zF at h2 ⊢;rw[Array.all_eq_true'] at h2 ⊢;intro e Pq;have h3:=h2 e Pq;cases hb:Region.binds .any e with
  |false=>rfl
  |true=>
   have:=cX hd (i:=j) (by simpa using hj) Pq hb;rw[hb] at h3;rw[<-he e.on (by omega)];simpa using h3
 rotate_left
 ·obtain⟨W,hW⟩:∃W,C W/\True:=⟨_,hSC _ _ h0,trivial⟩
  obtain⟨g1,g2,g3,_⟩:=GH (λ_=>True) (λ_ _ _ _=>trivial) ⟨W,hW⟩;refine all h g1 g2 (λs hs=>g3 s λo ho e=> ?_) ds λi d hin hd=> ?_
  ·obtain⟨i,_,hi⟩:=htk ho
   exact hs i (eL hi e)
  have:=(List.all_eq_true.1 hds) i (List.mem_range.2 (hlt hd));rw[hd] at this;simpa[hin] using this
 have key:∀i o,i<n->L[i]? =some o->∀l a' w',l i=false->zF .any o l=true->Vm.I L (W L n A V) (λl w=>S l w/\Cl L l) a l a' w'->wpOp P L.toArray Q i (Vm.I L (W L n A V) (λl w=>S l w/\Cl L l) a (λj=>j==i||l j)) a' w':=by
  intro i o hin hi l a' w' hl hu h;have k:=FC hpre hi hin;obtain⟨d,hdd⟩:=k.d;have hmem:o∈L.take n:=List.mem_of_getElem? (i:=i) (by rw[List.getElem?_take,if_pos hin];exact hi);obtain⟨_,_,hoth,hq⟩:=GH (λW=>Below w'.heap.size w' W) (λW W' h1 h2=>h1.trans (h2.mono h1.size)) ⟨w',hSC l w' h.st.1,Below.refl _ _⟩;have VC:=hq o hmem d hdd;have hev:execOp a'.eval o=execOp A.eval o:=execOp_congr o k.s λy hy=>Tb.oW λs hs=>by
   have LM:=Tb.oH hy hs
   by_cases hw:∃j,Vl.dst L j=some s
   ·obtain⟨j,hj⟩:=hw
    rcases k.r j s hj LM with⟨hjn,e,he,hb,Es⟩|hge
    ·have Et:l j=true:=by rw[<-Es];exact Tb.Lg hu he hb
     exact(h.vals j s Et hj).pre hjn hj
    have Et:=hlate l h.st.2 i o j s hin hi hge hj LM hl;rw[hoth s λo2 eI e=>by
     obtain⟨j2,adz,LN⟩:=htk eI;exact Vl.lU hB hj (m:=j2) (by omega) (eL LN e)]
    exact h.other s λj2 LN e=>by
     by_cases Ri:j2=j
     ·rw[Ri,Et] at LN;cases LN
     exact Vl.lU hB hj (m:=j2) Ri e
   have hw:∀j,Vl.dst L j≠some s:=λj e=>hw ⟨j,e⟩
   rw[hoth s λo2 eI e=>by
    obtain⟨j,_,hj⟩:=htk eI;exact hw j (eL hj e)]
   exact h.other s λj _=>hw j
  have hi':L.toArray[i]? =some o:=by simpa using hi
  have N6:∀(l':Nat->Bool),(∀j,n<=j->j<L.length->l j=l' j)->∀j v W',V l j v W'->V l' j v W':=λl' he j v W'=>hVl l l' he j v W'
  have hup:∀j,n<=j->j<L.length->l j=(λj=>j==i||l j) j:=λj hj _=>by
   show l j=(j==i||l j);rw[show(j==i)=false by simp;omega,Bool.false_or]
  refine Tb.pZ hi' k.g (Oper.wp_of_quiet (C:=λw1=>∃s:a9 (λW=>C W/\Below w'.heap.size w' W),w1=s.W) (K:=λb=>b=a'.put (some d) (A.tmps.getD d undef)) ⟨⟨w',hSC l w' h.st.1,Below.refl _ _⟩,rfl⟩ (λb W' wE hb=> ?_) ⟨A.tmps.getD d undef,λW' wE=> ?_,by rw[hdd]⟩)
  ·obtain⟨s0,rfl⟩:=wE
   have hW:=s0.h;subst hb;rw[<-hdd];refine h.next (sz:=0) hB i hi (A.tmps.getD d undef) hl (λj dj Et hdj hv=> ?_) ?_ ⟨hS l _ _ hup (hSb l _ _ h.st.1 hW.2 hW.1),h.st.2.next hi hu⟩
   ·unfold W at hv ⊢
    split
    ·rwa[if_pos (by assumption)] at hv
    rw[if_neg (by assumption)] at hv;exact N6 _ hup _ _ _ (hVb _ _ _ _ _ hv hW.2)
   unfold W;rw[if_pos hin,eL hi hdd];rfl
  obtain⟨s0,rfl⟩:=wE;have:=VC s0.W ⟨s0,rfl⟩;unfold Oper.quietAt at this ⊢;rw[hev];exact this
 refine Tb.qS L 0 λi o hi l a' w' hl hu h=> ?_
 rw[Nat.zero_add] at hl ⊢
 by_cases hin:i<n
 ·exact key i o hin hi l a' w' hl hu h
 have:=gg.get (L.drop n) n (i-n) o hst (by rw[List.getElem?_drop,show n+(i-n)=i by omega];exact hi) l a' w' (by rw[show n+(i-n)=i by omega];exact hl) hu (down h);rw[show n+(i-n)=i by omega] at this;exact wpOp_mono (λa1 w1 h1=>⟨h1.defers,h1.size,h1.other,h1.vals,h1.st,h.st.2.next hi hu⟩) this
end
end Vp
end Go.Proofs.YtphamecphmbipaaGreatDoor
