/- Texts of this claim, merged. -/
import Derived.Test.YtphamecphmbipaaGreatDoorK14
set_option linter.unusedVariables false
namespace Go.Proofs.YtphamecphmbipaaGreatDoor
open Go.RowKit
variable {ops:Array Oper} {Q:Exit->Act->World->Prop} {o:Oper} {K:Act->World->Prop} {a:Option Addr} {w:World} {v:Value} {l:Nat->Bool} {L:List Oper} {d m id base k B cap len:Nat} {p:List MemPlace} {T e:TypeId} {xs:List Value} {x:Operand}
namespace Tb
theorem pJ{P:Program}{i:Nat}{a:Act}(hi:ops[i]? =some o)(hg:o.guard=none)(h:o.wp P a w K Q):wpOp P ops Q i K a w:=by
 unfold wpOp;rw[hi];have:Region.wanted o (yielded ops a.tmps)=true:=by unfold Region.wanted;rw[hg]
 simp only[this,if_true];exact .inl h
theorem jn(a:Act)(d:Nat)(v:Value):(a.put (some d) v).tmps.size=a.tmps.size:=by simp[Act.put]
theorem nw(a:Act)(d:Nat)(v:Value)(h:d<a.tmps.size):(a.put (some d) v).tmps.getD d undef=v:=by simp[Act.put,Array.getD_eq_getD_getElem?,h]
theorem gY(a:Act)(d s:Nat)(v:Value)(h:s≠d):(a.put (some d) v).tmps.getD s undef=a.tmps.getD s undef:=by
 simp only[Act.put,Array.getD_eq_getD_getElem?,Array.getElem?_setIfInBounds_ne (Ne.symm h)]
end Tb
section
variable {P:Program} {w w':World} {o:Oper} {a:Act} {K:Act->World->Prop} {Q:Exit->Act->World->Prop}
theorem eM(hr:(execOp a.eval o).run P w= .ok (.value v) w')(h:K (a.put o.dst v) w'):o.wp P a w K Q:=by
 unfold Oper.wp;rw[hr];exact h
theorem IW(hr:(execOp a.eval o).run P w= .ok .skip w')(h:K (a.put o.dst undef) w'):o.wp P a w K Q:=by
 unfold Oper.wp;rw[hr];exact h
theorem aq(hu:zk .any o l=true)(k:Nat)(hk:(o.after.any λe=>Region.binds .any e&&e.on==k)=true:=by kernel_rfl):l k=true:=by
 unfold zk at hu;rw[Array.all_eq_true'] at hu;rw[Array.any_eq_true'] at hk;obtain⟨e,he,hb⟩:=hk;rw[Bool.and_eq_true] at hb;have:=hu e he;rw[hb.1] at this;have e2:e.on=k:=by simpa using hb.2
 rw[e2] at this;simpa using this
end
namespace Vl
def dst(L:List Oper)(n:Nat):Option Nat:=(L[n]?).bind (·.dst)
def kq(L:List Oper)(sz:Nat):Bool:=
 (List.range L.length).all λn=>match dst L n with
  |none=>true
  |some d=>decide (d<sz)&&(List.range L.length).all λm=>m==n||dst L m !=some d
theorem qf{sz:Nat}(h:kq L sz=true){n:Nat}(hd:dst L n=some d):d<sz:=by
 unfold kq at h;rw[List.all_eq_true] at h;have hn:n<L.length:=by
  unfold dst at hd;cases hl:L[n]? with
  |none=>rw[hl] at hd;cases hd
  |some o=>exact(List.getElem?_eq_some_iff.1 hl).1
 have:=h n (List.mem_range.2 hn);rw[hd] at this;simp only[Bool.and_eq_true,decide_eq_true_eq] at this;exact this.1
theorem lI{sz:Nat}(h:kq L sz=true){n:Nat}(hd:dst L n=some d)(hm:m≠n):dst L m≠some d:=by
 unfold kq at h;rw[List.all_eq_true] at h;have hn:n<L.length:=by
  unfold dst at hd;cases hl:L[n]? with
  |none=>rw[hl] at hd;cases hd
  |some o=>exact(List.getElem?_eq_some_iff.1 hl).1
 have h1:=h n (List.mem_range.2 hn);rw[hd] at h1;simp only[Bool.and_eq_true] at h1;intro e;have OQ:m<L.length:=by
  unfold dst at e;cases hl:L[m]? with
  |none=>rw[hl] at e;cases e
  |some o=>exact(List.getElem?_eq_some_iff.1 hl).1
 have h2:=(List.all_eq_true.1 h1.2) m (List.mem_range.2 OQ);rw[e] at h2;simp[hm] at h2
structure I(L:List Oper)(V:Nat->Value->World->Prop)(S:(Nat->Bool)->World->Prop)(a0:Act)(l:Nat->Bool)(a:Act)(W:World):Prop where
 defers:a.defers=a0.defers
 size:a.tmps.size=a0.tmps.size
 other:∀k,(∀i,l i=true->dst L i≠some k)->a.tmps.getD k undef=a0.tmps.getD k undef
 vals:∀i d,l i=true->dst L i=some d->V i (a.tmps.getD d undef) W
 st:S l W
section
variable {P:Program} {L:List Oper} {V:Nat->Value->World->Prop} {S:(Nat->Bool)->World->Prop} {a0:Act} {l:Nat->Bool} {a:Act} {W W':World}
theorem I.old(h:I L V S a0 l a W)(k:Nat)(hk:(List.range L.length).all (λi=>dst L i !=some k)=true):a.tmps.getD k undef=a0.tmps.getD k undef:=by
 refine h.other k λi _ e=> ?_
 have hi:i<L.length:=by
  unfold dst at e;cases hl:L[i]? with
  |none=>rw[hl] at e;cases e
  |some o=>exact(List.getElem?_eq_some_iff.1 hl).1
 have:=(List.all_eq_true.1 hk) i (List.mem_range.2 hi);rw[e] at this;simp at this
theorem I.next(h:I L V S a0 l a W){sz:Nat}(hB:kq L a0.tmps.size=true)(n:Nat)(ho:L[n]? =some o)(v:Value)(hl:l n=false)(hV:∀i v,l i=true->V i v W->V i v W')(hv:V n v W')(hS:S (λj=>j==n||l j) W'):
  I L V S a0 (λj=>j==n||l j) (a.put o.dst v) W':=by
 have lY:dst L n=o.dst:=by unfold dst;rw[ho];rfl
 cases hd:o.dst with
 |none=>
  refine⟨h.defers,h.size,λk hk=>h.other k λi hi=>hk i (by show(i==n||l i)=true;rw[hi,Bool.or_true]),λi d hi he=> ?_,hS⟩
  by_cases e:i=n
  ·subst e;rw[lY,hd] at he;cases he
  ·have hi':l i=true:=by
    have:(i==n||l i)=true:=hi;rwa[show(i==n)=false by simpa using e,Bool.false_or] at this
   exact hV i _ hi' (h.vals i d hi' he)
 |some d=>
  have hlt:=qf hB (n:=n) (d:=d) (by rw[lY,hd]);refine⟨h.defers,(Tb.jn _ _ _).trans h.size,λk hk=> ?_,λi d' hi he=> ?_,hS⟩
  ·have fE:k≠d:=λe=>hk n (by show(n==n||l n)=true;simp) (by rw[lY,hd,e])
   rw[Tb.gY _ _ _ _ fE];exact h.other k λi hi=>hk i (by show(i==n||l i)=true;rw[hi,Bool.or_true])
  ·by_cases e:i=n
   ·subst e
    rw[lY,hd] at he;injection he with he
    subst he;rw[Tb.nw _ _ _ (by rw[h.size];exact hlt)];exact hv
   ·have hi':l i=true:=by
     have:(i==n||l i)=true:=hi;rwa[show(i==n)=false by simpa using e,Bool.false_or] at this
    have hdd:d'≠d:=λe2=>lI hB (n:=n) (d:=d) (by rw[lY,hd]) e (by rw[he,e2])
    rw[Tb.gY _ _ _ _ hdd];exact hV i _ hi' (h.vals i d' hi' he)
theorem gk(V:Nat->Value->World->Prop)(S:(Nat->Bool)->World->Prop)(hm:P.follows .mixedOrders=true)(hd:eX .any L.toArray=true)
  (hS:∀l l' w,(∀i,i<L.length->l i=l' i)->S l w->S l' w) (h0:S (λ_=>false) {w with drawn:=w.drawn+1}) (hst:kq L a.tmps.size=true->fK P .any L.toArray Q (I L V S a) 0 L)
  (hB:kq L a.tmps.size=true) (hend:∀a' w',I L V S a (λ_=>true) a' w'->Q .normal a' w'):(Code.region id L.toArray true).wp P Q a w:=by
 refine lR (I L V S a) hm hd (λl l' a' w' he h=> ?_) ⟨rfl,rfl,λ_ _=>rfl,(λi d h=>by cases h),h0⟩ (hst hB) hend;have hlt:∀{i d},dst L i=some d->i<L.length:=λ{i d} e=>by
  unfold dst at e;cases hl:L[i]? with
  |none=>rw[hl] at e;cases e
  |some o=>exact(List.getElem?_eq_some_iff.1 hl).1
 exact⟨h.defers,h.size,λk hk=>h.other k λi hi e=>hk i (by rw[<-he i (hlt e)];exact hi) e,λi d hi e=>h.vals i d (by rw[he i (hlt e)];exact hi) e,hS l l' w' he h.st⟩
theorem step{n:Nat}(h:I L V S a0 l a W)(hB:kq L a0.tmps.size=true)(hn:ops[n]? =some o)(FY:L[n]? =some o)(hg:o.guard=none)(hl:l n=false)
  (hw:o.wp P a W (λa' W'=>∃v,a'=a.put o.dst v/\(∀i v,l i=true->V i v W->V i v W')/\V n v W'/\S (λj=>j==n||l j) W') Q):wpOp P ops Q n (I L V S a0 (λj=>j==n||l j)) a W:=by
 refine Tb.pJ hn hg ?_;refine Oper.wp_mono (λa' W' h'=> ?_) hw;obtain⟨v,rfl,h1,h2,h3⟩:=h';exact h.next (sz:=0) hB n FY v hl h1 h2 h3
theorem bB{n:Nat}(h:I L V S a0 l a W)(hB:kq L a0.tmps.size=true)(hn:ops[n]? =some o)(FY:L[n]? =some o)(hg:o.guard=none)(hl:l n=false)
  (v:Value) (hr:(execOp a.eval o).run P W= .ok (.value v) W) (hv:V n v W) (hS:S l W->S (λj=>j==n||l j) W):wpOp P ops Q n (I L V S a0 (λj=>j==n||l j)) a W:=
 step h hB hn FY hg hl (eM hr ⟨v,rfl,λ_ _ _ h=>h,hv,hS h.st⟩)
theorem zD{g:Nat}(hg:dst L g=some d){c:Bool}(hv:a.tmps.getD d undef= .bool c):yielded L.toArray a.tmps g=some c:=by
 unfold yielded;unfold dst at hg;rw[List.getElem?_toArray,hg];have hd:a.tmps[d]? =some (.bool c):=by
  rw[Array.getD_eq_getD_getElem?] at hv;cases h:a.tmps[d]? with
  |none=>rw[h] at hv;cases hv
  |some x=>rw[h] at hv;simpa using hv
 simp[hd]
theorem stepG{n:Nat}(h:I L V S a0 l a W)(hB:kq L a0.tmps.size=true)(FY:L[n]? =some o)(g:Nat)(b:Bool)(hg:o.guard=some (g,b))(d:Nat)(hd:dst L g=some d)(c:Bool)(hc:a.tmps.getD d undef= .bool c)(hl:l n=false)
  (hw:c=b->o.wp P a W (λa' W'=>∃v,a'=a.put o.dst v/\(∀i v,l i=true->V i v W->V i v W')/\V n v W'/\S (λj=>j==n||l j) W') Q)
  (hno:c≠b->V n undef W/\S (λj=>j==n||l j) W):wpOp P L.toArray Q n (I L V S a0 (λj=>j==n||l j)) a W:=by
 unfold wpOp;rw[List.getElem?_toArray,FY];have hy:=zD (L:=L) hd hc
 by_cases e:c=b
 ·have hwant:Region.wanted o (yielded L.toArray a.tmps)=true:=by unfold Region.wanted;rw[hg];simp[hy,e]
  simp only[hwant,if_true];refine .inl (Oper.wp_mono (λa' W' h'=> ?_) (hw e));obtain⟨v,rfl,h1,h2,h3⟩:=h';exact h.next (sz:=0) hB n FY v hl h1 h2 h3
 ·have hwant:Region.wanted o (yielded L.toArray a.tmps)=false:=by unfold Region.wanted;rw[hg];simp[hy,e]
  simp only[hwant,if_false,Bool.false_eq_true];obtain⟨h1,h2⟩:=hno e;exact h.next (sz:=0) hB n FY undef hl (λ_ _ _ h=>h) h1 h2
end
end Vl
namespace Vl
section
variable {P:Program} {W:World} {o:Oper} {a:Act}
theorem ea(x:Operand)(ho:o.op= .move x)(hx:a.eval x=v):(execOp a.eval o).run P W= .ok (.value v) W:=by simp[execOp,ho,hx]
theorem qS(x:Operand)(ho:o.op= .assign x)(hx:a.eval x=v):(execOp a.eval o).run P W= .ok (.value v) W:=by simp[execOp,ho,hx]
theorem Mw(c x y:Operand)(b:Bool)(ho:o.op= .pick c x y)(hc:a.eval c= .bool b)(hv:(if b then a.eval x else a.eval y)=v):(execOp a.eval o).run P W= .ok (.value v) W:=by
 subst hv;cases b<;>simp[execOp,ho,hc,asBool]
theorem fu(x:Operand)(i:Nat)(vs:Array Value)(ho:o.op= .extract x i)(hx:a.eval x= .tuple vs)(hv:vs[i]? =some v):(execOp a.eval o).run P W= .ok (.value v) W:=by
 simp[execOp,ho,hx,Instr.extract,hv]
theorem KT(ty:TypeId)(x:Operand)(ho:o.op= .load ty x)(g j:Nat)(hx:a.eval x= .pointer (some ⟨g,j,none⟩))
  (hc:W.cell? ⟨g,j,none⟩=some v) (hagg:(isAgg ty).run P W= .ok false W):(execOp a.eval o).run P W= .ok (.value v) W:=by
 unfold execOp;simp only[ho,hx,Instr.loadAt,Instr.sureAddr,Sem.run_bind,Sem.run_pure,Result.andThen_ok];simp[loadVar,Sem.run_bind,hagg,hc]
theorem IJ{W':World}(t:TypeId)(ho:o.op= .alloc t)(hr:(Instr.alloc t true (.tuple #[])).run P W= .ok v W'):(execOp a.eval o).run P W= .ok (.value v) W':=by
 simp[execOp,ho,hr]
theorem nr(f:FuncId)(x y:Operand)(Mc:Array TypeId)(u v:Value)(ho:o.op= .call {callee:=.value (.func f),args:=#[x,y],argTypes:=Mc})(hx:a.eval x=u)(hy:a.eval y=v)
  (hr:((do let d<-Deferred.ofValue (a.eval (.func f)) #[u,v];invoke d.target d.args):Sem Next).run P W= .ok (.enter f #[u,v]) W):(execOp a.eval o).run P W= .ok (.enter f #[u,v]) W:=by
 rw[<-hr];unfold execOp;rw[ho];simp only[resolve];simp[hx,hy]
theorem iQ(f:FuncId)(args:Array Value)(hrun:(execOp a.eval o).run P W= .ok (.enter f args) W)(hc:Calls P f args W λe W'=>∃v,e= .returned v/\K (a.put o.dst v) W'):o.wp P a W K Q:=by
 unfold Oper.wp;rw[hrun];refine hc.mono ?_;rintro e W' ⟨v,rfl,h⟩;exact h
theorem oE(a:Act):∀(ds:List Nat) (x:Act),(ds.foldl (λx d=>x.put (some d) (a.tmps.getD d undef)) x).defers=x.defers/\(ds.foldl (λx d=>x.put (some d) (a.tmps.getD d undef)) x).tmps.size=x.tmps.size/\
  ∀k,k<x.tmps.size->((ds.foldl (λx d=>x.put (some d) (a.tmps.getD d undef)) x).tmps.getD k undef=if k∈ds then a.tmps.getD k undef else x.tmps.getD k undef)
 |[],x=>⟨rfl,rfl,λk _=>by simp⟩
 |d::ds,x=>by
  obtain⟨h1,h2,h3⟩:=oE a ds (x.put (some d) (a.tmps.getD d undef));rw[List.foldl_cons];refine⟨h1.trans rfl,h2.trans (Tb.jn _ _ _),λk hk=> ?_⟩;rw[h3 k (by rw[Tb.jn];exact hk)]
  by_cases hm:k∈ds
  ·rw[if_pos hm,if_pos (List.mem_cons_of_mem _ hm)]
  ·rw[if_neg hm]
   by_cases e:k=d
   ·subst e
    rw[if_pos (List.mem_cons_self ..),Tb.nw _ _ _ hk]
   ·rw[if_neg (by simp[e,hm]),Tb.gY _ _ _ _ e]
theorem I.all{V:Nat->Value->World->Prop}{S:(Nat->Bool)->World->Prop}{a0:Act}(h:I L V S a0 (λ_=>true) a W)(ds:List Nat)(hd:∀i d,dst L i=some d->d∈ds):a=ds.foldl (λx d=>x.put (some d) (a.tmps.getD d undef)) a0:=by
 obtain⟨h1,h2,h3⟩:=oE a ds a0;generalize (ds.foldl (λx d=>x.put (some d) (a.tmps.getD d undef)) a0)=y at h1 h2 h3;have hs:a.tmps=y.tmps:=by
  refine Array.ext (h.size.trans h2.symm) λk hk1 hk2=> ?_
  have e:a.tmps.getD k undef=y.tmps.getD k undef:=by
   rw[h3 k (by rw[<-h.size];exact hk1)]
   by_cases hm:k∈ds
   ·rw[if_pos hm]
   ·rw[if_neg hm]
    exact h.other k λi _ e=>hm (hd i k e)
  rw[Array.getD_eq_getD_getElem?,Array.getD_eq_getD_getElem?,Array.getElem?_eq_getElem hk1,Array.getElem?_eq_getElem hk2] at e;exact e
 have Nr:a.defers=y.defers:=h.defers.trans h1.symm;cases a
 cases y
 simp only at hs Nr;rw[hs,Nr]
theorem Rz{ds:List Nat}(h:(List.range L.length).all (λi=>match dst L i with|none=>true|some d=>ds.contains d)=true)(i d:Nat)(hd:dst L i=some d):d∈ds:=by
 have hi:i<L.length:=by
  unfold dst at hd;cases hl:L[i]? with
  |none=>rw[hl] at hd;cases hd
  |some o=>exact(List.getElem?_eq_some_iff.1 hl).1
 have:=(List.all_eq_true.1 h) i (List.mem_range.2 hi);rw[hd] at this;simpa using this
end
end Vl
def fg(W:World)(B:Nat)(v:Value)(nn E:Int):World:=((W.setCell ⟨B+1+1,0,none⟩ v).setCell ⟨B+1+1+1,0,none⟩ (.int .u32 nn)).setCell ⟨B+1+1+1+1,0,none⟩ (.int .i64 E)
section
variable {w:World} {G S I J:Int} {la:Option Addr} {N:Nat} {L:Nat->Nat->Int} {hs ht:Int} {av:Value} {nn E:Int} {W W':World}
end
section
variable {w:World} {G S I J:Int} {la:Option Addr} {N:Nat} {L:Nat->Nat->Int} {hs ht:Int} {av:Value} {nn E:Int} {W W':World}
end
section
variable {w:World} {G S I J:Int} {la:Option Addr} {N:Nat} {L:Nat->Nat->Int} {hs ht:Int} {av:Value} {nn E:Int} {W W':World}
end
theorem dw{W:World}{p size:Nat}{cs:Array Value}(hA:At W p T cs)(h:W.ownsRow base e size v k xs)(he:e≠T):v.ownBlock≠some p:=by
 intro hp;rcases h.2 with⟨rfl,_⟩|⟨q,cap,cur,rfl,_,hh,_⟩
 ·cases hp
 ·injection hp with hp
  subst hp;have:=hA.symm.trans hh;injection this with this
  injection this with _ h2
  exact he h2.symm
section
variable {w:World} {p8:Nat} {hs ht:Int} {a:Option Addr} {n c:Nat} {l:List Tr} {X:Int} {D:Nat} {o:Option Obj} {a0:Act} {f:Nat->Bool} {a':Act} {W W':World}
end
section
variable {w:World} {G S I J:Int} {la:Option Addr} {N:Nat} {L:Nat->Nat->Int} {hs ht:Int} {av:Value} {nn E:Int} {W W':World}
theorem mB{b:Nat}{u:Value}(hA:At W b T #[u]):KeepsFrom B W (W.setCell ⟨b,0,none⟩ v):=(an.setCell W ⟨b,0,none⟩ v).keeps (hA.cell (i:=0) rfl)
theorem De{size:Nat}(ho:W.ownsRow base e size v k xs)(hg:W.grownBy W' v.ownBlock):KeepsFrom B W W':=
 ⟨hg.size,λi o _ hi hc=>by
  refine(hg.block i (Array.getElem?_eq_some_iff.1 hi).1 (λe=> ?_)).trans hi;rcases ho.2 with⟨hv,_⟩|⟨g',cap',cur,hv,hbg,hg',_⟩
  ·subst hv;cases e
  ·subst hv
   have:i=g':=by simpa[Value.ownBlock] using e
   subst this;rw[hi] at hg';injection hg' with hg'
   subst hg';cases hc⟩
end
namespace Vm
open Go.Proofs.YtphamecphmbipaaGreatDoor.Vl
structure I(L:List Oper)(V:(Nat->Bool)->Nat->Value->World->Prop)(S:(Nat->Bool)->World->Prop)(a0:Act)(l:Nat->Bool)(a:Act)(W:World):Prop where
 defers:a.defers=a0.defers
 size:a.tmps.size=a0.tmps.size
 other:∀k,(∀i,l i=true->dst L i≠some k)->a.tmps.getD k undef=a0.tmps.getD k undef
 vals:∀i d,l i=true->dst L i=some d->V l i (a.tmps.getD d undef) W
 st:S l W
section
variable {P:Program} {L:List Oper} {V:(Nat->Bool)->Nat->Value->World->Prop} {S:(Nat->Bool)->World->Prop} {a0:Act} {l:Nat->Bool} {a:Act} {W W':World}
theorem I.old(h:I L V S a0 l a W)(k:Nat)(hk:(List.range L.length).all (λi=>dst L i !=some k)=true):a.tmps.getD k undef=a0.tmps.getD k undef:=by
 refine h.other k λi _ e=> ?_
 have hi:i<L.length:=by
  unfold dst at e;cases hl:L[i]? with
  |none=>rw[hl] at e;cases e
  |some o=>exact(List.getElem?_eq_some_iff.1 hl).1
 have:=(List.all_eq_true.1 hk) i (List.mem_range.2 hi);rw[e] at this;simp at this
theorem I.next(h:I L V S a0 l a W){sz:Nat}(hB:kq L a0.tmps.size=true)(n:Nat)(ho:L[n]? =some o)(v:Value)(hl:l n=false)(hV:∀i d,l i=true->dst L i=some d->V l i (a.tmps.getD d undef) W->V (λj=>j==n||l j) i (a.tmps.getD d undef) W')(hv:V (λj=>j==n||l j) n v W')(hS:S (λj=>j==n||l j) W'):
  I L V S a0 (λj=>j==n||l j) (a.put o.dst v) W':=by
 have lY:dst L n=o.dst:=by unfold dst;rw[ho];rfl
 cases hd:o.dst with
 |none=>
  refine⟨h.defers,h.size,λk hk=>h.other k λi hi=>hk i (by show(i==n||l i)=true;rw[hi,Bool.or_true]),λi d hi he=> ?_,hS⟩
  by_cases e:i=n
  ·subst e;rw[lY,hd] at he;cases he
  ·have hi':l i=true:=by
    have:(i==n||l i)=true:=hi;rwa[show(i==n)=false by simpa using e,Bool.false_or] at this
   exact hV i d hi' he (h.vals i d hi' he)
 |some d=>
  have hlt:=qf hB (n:=n) (d:=d) (by rw[lY,hd]);refine⟨h.defers,(Tb.jn _ _ _).trans h.size,λk hk=> ?_,λi d' hi he=> ?_,hS⟩
  ·have fE:k≠d:=λe=>hk n (by show(n==n||l n)=true;simp) (by rw[lY,hd,e])
   rw[Tb.gY _ _ _ _ fE];exact h.other k λi hi=>hk i (by show(i==n||l i)=true;rw[hi,Bool.or_true])
  ·by_cases e:i=n
   ·subst e
    rw[lY,hd] at he;injection he with he
    subst he;rw[Tb.nw _ _ _ (by rw[h.size];exact hlt)];exact hv
   ·have hi':l i=true:=by
     have:(i==n||l i)=true:=hi;rwa[show(i==n)=false by simpa using e,Bool.false_or] at this
    have hdd:d'≠d:=λe2=>lI hB (n:=n) (d:=d) (by rw[lY,hd]) e (by rw[he,e2])
    rw[Tb.gY _ _ _ _ hdd];exact hV i d' hi' he (h.vals i d' hi' he)
theorem gk(V:(Nat->Bool)->Nat->Value->World->Prop)(S:(Nat->Bool)->World->Prop)(hm:P.follows .mixedOrders=true)(hd:eX .any L.toArray=true)
  (hVl:∀l l',(∀i,i<L.length->l i=l' i)->∀i v w,V l i v w->V l' i v w) (hS:∀l l' w,(∀i,i<L.length->l i=l' i)->S l w->S l' w) (h0:S (λ_=>false) {w with drawn:=w.drawn+1}) (hst:kq L a.tmps.size=true->fK P .any L.toArray Q (I L V S a) 0 L)
  (hB:kq L a.tmps.size=true) (hend:∀a' w',I L V S a (λ_=>true) a' w'->Q .normal a' w'):(Code.region id L.toArray true).wp P Q a w:=by
 refine lR (I L V S a) hm hd (λl l' a' w' he h=> ?_) ⟨rfl,rfl,λ_ _=>rfl,(λi d h=>by cases h),h0⟩ (hst hB) hend;have hlt:∀{i d},dst L i=some d->i<L.length:=λ{i d} e=>by
  unfold dst at e;cases hl:L[i]? with
  |none=>rw[hl] at e;cases e
  |some o=>exact(List.getElem?_eq_some_iff.1 hl).1
 exact⟨h.defers,h.size,λk hk=>h.other k λi hi e=>hk i (by rw[<-he i (hlt e)];exact hi) e,λi d hi e=>hVl l l' he i _ w' (h.vals i d (by rw[he i (hlt e)];exact hi) e),hS l l' w' he h.st⟩
theorem step{n:Nat}(h:I L V S a0 l a W)(hB:kq L a0.tmps.size=true)(hn:ops[n]? =some o)(FY:L[n]? =some o)(hg:o.guard=none)(hl:l n=false)
  (hw:o.wp P a W (λa' W'=>∃v,a'=a.put o.dst v/\(∀i d,l i=true->dst L i=some d->V l i (a.tmps.getD d undef) W->V (λj=>j==n||l j) i (a.tmps.getD d undef) W')/\V (λj=>j==n||l j) n v W'/\S (λj=>j==n||l j) W') Q):wpOp P ops Q n (I L V S a0 (λj=>j==n||l j)) a W:=by
 refine Tb.pJ hn hg ?_;refine Oper.wp_mono (λa' W' h'=> ?_) hw;obtain⟨v,rfl,h1,h2,h3⟩:=h';exact h.next (sz:=0) hB n FY v hl h1 h2 h3
theorem bB{n:Nat}(h:I L V S a0 l a W)(hB:kq L a0.tmps.size=true)(hn:ops[n]? =some o)(FY:L[n]? =some o)(hg:o.guard=none)(hl:l n=false)
  (v:Value) (hr:(execOp a.eval o).run P W= .ok (.value v) W) (hVq:∀i v,V l i v W->V (λj=>j==n||l j) i v W) (hv:V (λj=>j==n||l j) n v W) (hS:S l W->S (λj=>j==n||l j) W):wpOp P ops Q n (I L V S a0 (λj=>j==n||l j)) a W:=
 step h hB hn FY hg hl (eM hr ⟨v,rfl,λ_ _ _ _ h=>hVq _ _ h,hv,hS h.st⟩)
end
end Vm
namespace Tb
def ML(sk:List (Nat×Nat×Nat))(n:Nat):Bool:=sk.any λx=>x.2.2==n
def Qe(sk:List (Nat×Nat×Nat))(n:Nat):Bool:=sk.any λx=>x.1==n
def eh(o:Oper)(s:Nat):Bool:=o.op.operands.toList.any λx=>match x with| .tmp t=>t==s|_=>false
section
variable {P:Program}
theorem oH{a b:Act}(h:∀s,x= .tmp s->a.tmps.getD s undef=b.tmps.getD s undef):a.eval x=b.eval x:=by
 cases x with
 |tmp t=>exact h t rfl
 |const v=>rfl
 |global g=>rfl
 |func f=>rfl
theorem oo{s:Nat}(hx:x∈o.op.operands)(he:x= .tmp s):eh o s=true:=by
 unfold eh;rw[List.any_eq_true];exact⟨x,by simpa using hx,by rw[he];simp⟩
theorem qv{C:World->Prop}{A:Act}:∀(l:List Oper) (a:Act),(∀o∈l,o.guard=none/\(∀cs b,o.op≠ .select cs b)/\∃d,o.dst=some d/\d<a.tmps.size)->l.Pairwise (λx y=>x.dst≠y.dst/\(∀d,y.dst=some d->eh x d=false))->(∀o∈l,∀d,o.dst=some d->eh o d=false)->
  wpQuiet P ops C (λa'=>a'=A) l a->A.defers=a.defers/\A.tmps.size=a.tmps.size/\(∀s,(∀o∈l,o.dst≠some s)->A.tmps.getD s undef=a.tmps.getD s undef)/\∀o∈l,∀d,o.dst=some d->∀w,C w->o.quietAt P A C w (A.tmps.getD d undef)
 |[],a,_,_,_,h=>by
  have h:a=A:=h;subst h;exact⟨rfl,rfl,λ_ _=>rfl,λo ho=>by cases ho⟩
 |o::l,a,hg,hp,hr,h=>by
  obtain⟨hgo,hso,d,hd,hlt⟩:=hg o (by simp);obtain⟨hp1,hp2⟩:=List.pairwise_cons.1 hp;unfold wpQuiet at h;rw[if_pos (by unfold Region.wanted;rw[hgo])] at h;obtain⟨v,hv,hk⟩:=h;rw[hd] at hk;obtain⟨i1,i2,i3,i4⟩:=qv l (a.put (some d) v) (λo' ho'=>by
   obtain⟨h1,h2,d',h3,h4⟩:=hg o' (by simp[ho']);exact⟨h1,h2,d',h3,by rw[jn];exact h4⟩) hp2 (λo' ho'=>hr o' (by simp[ho'])) hk
  have hAd:A.tmps.getD d undef=v:=by
   rw[i3 d (λo' ho' e=>(hp1 o' ho').1 (hd.trans e.symm))];exact nw _ _ _ hlt
  have hoth:∀s,(∀o'∈o::l,o'.dst≠some s)->A.tmps.getD s undef=a.tmps.getD s undef:=λs hs=>by
   rw[i3 s (λo' ho'=>hs o' (by simp[ho']))];exact gY _ _ _ _ (λe=>hs o (by simp) (by rw[hd,e]))
  refine⟨i1,i2.trans (jn _ _ _),hoth,?_⟩;intro o' ho' d' hd' w hw;rcases List.mem_cons.1 ho' with rfl|ho'
  ·have e:d=d':=by rw[hd] at hd';injection hd'
   subst e;rw[hAd];have:=hv w hw;unfold Oper.quietAt at this ⊢;rw[execOp_congr (ρ:=A.eval) (ρ':=a.eval) o' hso λx hx=>oH λs hs=> ?_]
   ·exact this
   ·refine hoth s λo2 er e=> ?_
    have h1:=oo hx hs;rcases List.mem_cons.1 er with rfl|er
    ·rw[hr o2 (by simp) s e] at h1;cases h1
    ·rw[(hp1 o2 er).2 s e] at h1;cases h1
  ·exact i4 o' ho' d' hd' w hw
structure Ok(md:Region.Mode)(L:List Oper)(sk:List (Nat×Nat×Nat))(i:Nat)(o:Oper):Prop where
 g:o.guard=none
 s:∀cs b,o.op≠ .select cs b
 r:∀j oj d,L[j]? =some oj->oj.dst=some d->eh o d=true->∃e∈o.after,Region.binds md e=true/\e.on=j
 d:∀j oj d,L[j]? =some oj->oj.dst=some d->j≠i->o.dst≠some d
 a:∀j oj d,L[j]? =some oj->oj.dst=some d->Qe sk j=true->ML sk i=false->eh o d=false
 st:ML sk i=true->o.dst=none/\Qe sk i=false/\∀x∈sk,x.2.2=i->∃e∈o.after,Region.binds md e=true/\e.on=x.1
 ns:ML sk i=false->(∃d,o.dst=some d)/\∀x∈sk,(x.1=i->o.dst=some x.2.1)/\(x.1≠i->o.dst≠some x.2.1)
theorem qC{md:Region.Mode}{I:(Nat->Bool)->Act->World->Prop}:∀(l:List Oper) (n:Nat),(∀i o,l[i]? =some o->∀l' a w,l' (n+i)=false->zk md o l'=true->I l' a w->wpOp P ops Q (n+i) (I (λj=>j==(n+i)||l' j)) a w)->fK P md ops Q I n l
 |[],_,_=>trivial
 |o::l,n,h=>⟨λl' a w h1 h2 h3=>h 0 o rfl l' a w h1 h2 h3,qC l (n+1) λi o' hi l' a w h1 h2 h3=>by
   have:=h (i+1) o' (by simpa using hi) l' a w (by rw[show n+(i+1)=n+1+i by omega];exact h1) h2 h3;rwa[show n+(i+1)=n+1+i by omega] at this⟩
theorem KO{md:Region.Mode}(h:zk md o l=true){e:Edge}(he:e∈o.after)(hb:Region.binds md e=true):l e.on=true:=by
 unfold zk at h;rw[Array.all_eq_true'] at h;have:=h e he;rwa[hb,Bool.not_true,Bool.false_or] at this
end
end Tb
namespace Tb
end Tb
section
variable {w:World} {t:Tr} {ca:Option Addr} {cc:Nat} {ra:Option Addr} {rc:Nat} {la:Option Addr} {cnt lc:Nat} {W W':World}
end
def chF(xb xt xo:Nat->Int)(i:Nat):List Value:=[.int .i64 (xb i),.int .i64 (xt i),.int .u8 (xo i)]
theorem ah.take{W:World}{n:Nat}{f:Nat->List Value}(h:ah W base e m (.slice a n cap) n f)(hf:∀i,(f i).length=m)(hk:k<=n):ah W base e m (.slice a k cap) k f:=by
 refine⟨dC hf k,?_⟩;rcases h.2 with⟨hv,h0⟩|⟨g,cap',cur,hv,hb,hg,hn,hc,hs,ht⟩
 ·injection hv with h1 h2 h3
  have ke:k=0:=by omega
  subst h1 h3 ke;exact .inl ⟨rfl,rfl⟩
 ·injection hv with h1 h2 h3
  subst h1 h3;refine .inr ⟨g,cap,cur,rfl,hb,hg,by omega,hc,hs,?_⟩;have h1:k*m<=n*m:=Nat.mul_le_mul_right m hk;have h2:cur.toList.take (k*m)=(Cs f n).take (k*m):=by rw[<-ht,List.take_take,Nat.min_eq_left h1]
  rw[h2];have h3:Cs f n=Cs f k++Cs (λi=>f (k+i)) (n-k):=by rw[wL];congr 1;omega
  rw[h3,List.take_left' (dC hf k)]
section
open Go.ChangeShapes Go.WideShapes Go.ChangeAt Go.Deep
theorem Je{H:Type}{enc:TypeId×Value->H}{W:World}{d:DataW H}(h:DataW.Trod enc Tryz.prog W 0 (λ_=>true) true 37 (.slice a len cap) d p):
  ∃m:Nat->Int,cY W a 1 len (inF m)/\(∀i,-9223372036854775808<=m i/\m i<=9223372036854775807)/\(len:Int)<=9223372036854775807/\(a=none->len=0/\cap=0):=by
 obtain⟨fuel,hf⟩:=h;rcases open_ints Tryz.underlying37 Tryz.underlying3 (by kernel_rfl) hf with⟨hcs,_⟩|⟨x,l,c,zs,hcs,_,hl,hm,hz,_,hcell,hwz⟩
 ·simp[Value.cells] at hcs
  obtain⟨rfl,rfl,rfl⟩:=hcs;exact⟨λ_=>0,.inl rfl,λ_=>⟨(by decide:(-9223372036854775808:Int)<=0),(by decide:(0:Int)<=9223372036854775807)⟩,by omega,λ_=>⟨rfl,rfl⟩⟩
 ·simp[Value.cells] at hcs
  obtain⟨rfl,rfl,rfl⟩:=hcs;have hmax:maxLen=9223372036854775807:=rfl;have hzl:len<=zs.length:=by rw[hz];split<;>omega
  refine⟨λi=>zs.getD i 0,?_,?_,by omega,λh=>by cases h⟩
  ·by_cases h0:len=0
   ·exact .inl h0
   ·obtain⟨b,off,spot⟩:=x
    have hc:=hcell 0 (by omega);have hspot:spot=none:=by simpa[Addr.add] using World.cell?_spot hc
    subst hspot;refine .inr ⟨b,off,rfl,λi hi j v hv=> ?_⟩;have hc:=hcell i (by omega);rw[bh] at hc;cases j with
    |zero=>rw[Nat.mul_one,Nat.add_zero,hc];exact hv
    |succ j=>cases hv
  ·intro i
   show _<=zs.getD i 0/\zs.getD i 0<=_
   by_cases hi:i<zs.length
   ·exact bounds_i64 (hwz (zs.getD i 0) (by rw[List.getD_eq_getElem?_getD,List.getElem?_eq_getElem hi];exact List.getElem_mem _))
   ·have:zs.getD i 0=0:=by rw[List.getD_eq_getElem?_getD,List.getElem?_eq_none (by omega)];rfl
    rw[this];decide
set_option maxRecDepth 100000 in
theorem NT{H:Type}{enc:TypeId×Value->H}{W:World}{d:DataW H}(h:DataW.Trod enc Tryz.prog W 0 (λ_=>true) true 25 (.slice a len cap) d p):
  ∃(xb xt xo:Nat->Int),cY W a 3 len (chF xb xt xo)/\(∀i,-9223372036854775808<=xb i/\xb i<=9223372036854775807)/\(∀i,-9223372036854775808<=xt i/\xt i<=9223372036854775807)/\(∀i,0<=xo i/\xo i<256)/\(len:Int)<=9223372036854775807/\(∀b off,a=some ⟨b,off,none⟩->0<len->b<W.heap.size):=by
 obtain⟨fuel,hf⟩:=h;rcases open_slice Tryz.underlying25 hf with⟨hcs,_⟩|⟨x,l,c,m,nn,DD,Pl,hcs,_,hl,hm,hmm,_,hall⟩
 ·simp[Value.cells] at hcs
  obtain⟨rfl,rfl,rfl⟩:=hcs;exact⟨λ_=>0,λ_=>0,λ_=>0,.inl rfl,λ_=>⟨(by decide:(-9223372036854775808:Int)<=0),(by decide:(0:Int)<=9223372036854775807)⟩,λ_=>⟨(by decide:(-9223372036854775808:Int)<=0),(by decide:(0:Int)<=9223372036854775807)⟩,λ_=>⟨Int.le_refl 0,(by decide:(0:Int)<256)⟩,by omega,λb off e=>by cases e⟩
 ·simp[Value.cells] at hcs
  obtain⟨rfl,rfl,rfl⟩:=hcs;have hmax:maxLen=9223372036854775807:=rfl;have hlm:len<=m:=by rw[hmm];split<;>omega
  have hce:Tryz.prog.cellsOf 149=3:=by kernel_rfl
  rw[hce] at hall;have key:∀i,i<len->∃(b e g:Int),W.cell? (x.add (i*3))=some (.int .i64 b)/\W.cell? (x.add (i*3+1))=some (.int .i64 e)/\W.cell? (x.add (i*3+2))=some (.int .u8 g)/\(-9223372036854775808<=b/\b<=9223372036854775807)/\(-9223372036854775808<=e/\e<=9223372036854775807)/\0<=g/\g<256:=by
   intro i hi;obtain⟨cs',h1,h2⟩:=hall i (by omega);obtain⟨_,hlen,hcell⟩:=World.cells?_some h1;obtain⟨xs,k,_,_,_,hxl,hfl⟩:=DataW.trod_struct Tryz.underlying149 h2
   match xs,hxl,cs',hlen with
   |[y0,y1,y2],_,[v0,v1,v2],_=>
    have g0:=hfl 0 _ rfl;have g1:=hfl 1 _ rfl;have g2:=hfl 2 _ rfl;have AE:Tryz.prog.cellsOf 3=1:=by kernel_rfl
    have VW:Tryz.prog.cellsOf 5=1:=by kernel_rfl
    simp[AE,VW] at g0 g1 g2;obtain⟨b,e0,_,wb⟩:=DataW.trod_int Tryz.underlying3 g0;obtain⟨e,e1,_,we⟩:=DataW.trod_int Tryz.underlying3 g1;obtain⟨g,e2,_,wg⟩:=DataW.trod_int Tryz.underlying5 g2;simp at e0 e1 e2;have bb:=bounds_i64 wb;have be:=bounds_i64 we;have bg:=bounds_u8 wg;have c0:=hcell 0 (by omega);have c1:=hcell 1 (by omega);have c2:=hcell 2 (by omega);rw[add_add] at c0 c1 c2;exact⟨b,e,g,by simpa[e0] using c0,by simpa[e1] using c1,by simpa[e2] using c2,bb,be,by omega,by omega⟩
  refine⟨λi=>if hi:i<len then(key i hi).choose else 0,λi=>if hi:i<len then(key i hi).choose_spec.choose else 0,λi=>if hi:i<len then(key i hi).choose_spec.choose_spec.choose else 0,?_,?_,?_,?_,by omega,?_⟩
  ·by_cases h0:len=0
   ·exact .inl h0
   ·obtain⟨b,off,spot⟩:=x
    have hc:=(key 0 (by omega)).choose_spec.choose_spec.choose_spec.1;have hspot:spot=none:=by simpa[Addr.add] using World.cell?_spot hc
    subst hspot;refine .inr ⟨b,off,rfl,λi hi j v hv=> ?_⟩;have hk:=(key i hi).choose_spec.choose_spec.choose_spec;have hj3:j<3:=(List.getElem?_eq_some_iff.1 hv).1;unfold chF at hv;simp only[hi,dif_pos] at hv;rw[Nat.add_assoc,<-bh];obtain rfl|rfl|rfl:j=0\/j=1\/j=2:=by omega
    ·rw[<-hv];exact hk.1
    ·rw[<-hv];exact hk.2.1
    ·rw[<-hv];exact hk.2.2.1
  ·intro i
   by_cases hi:i<len
   ·simp only[hi,dif_pos];exact(key i hi).choose_spec.choose_spec.choose_spec.2.2.2.1
   ·simp only[hi,dif_neg,not_false_eq_true];decide
  ·intro i
   by_cases hi:i<len
   ·simp only[hi,dif_pos];exact(key i hi).choose_spec.choose_spec.choose_spec.2.2.2.2.1
   ·simp only[hi,dif_neg,not_false_eq_true];decide
  ·intro i
   by_cases hi:i<len
   ·simp only[hi,dif_pos];exact(key i hi).choose_spec.choose_spec.choose_spec.2.2.2.2.2
   ·simp only[hi,dif_neg,not_false_eq_true];decide
  ·intro b off e h0
   injection e with e
   subst e;have hc:=(key 0 h0).choose_spec.choose_spec.choose_spec.1;exact World.block_lt_of_cell? W _ hc
end
end Go.Proofs.YtphamecphmbipaaGreatDoor
