/- Texts of this claim, merged. -/
import Derived.Test.YtphamecphmbipaaGreatDoorZ11
import Derived.RegionIn
set_option linter.unusedVariables false
namespace Go.Proofs.YtphamecphmbipaaGreatDoor
open Go.RowKit
variable {id i d B base k:Nat} {Q Q':Exit->Act->World->Prop} {a:Act} {w:World} {L:List Oper} {ops:Array Oper} {o:Oper} {K K':Act->World->Prop} {v:Value} {l:Nat->Bool} {x:Operand} {e T:TypeId} {X:World->Prop} {xs:List Value}
namespace Mv
section
variable {P:Program} {ops:Array Oper} {σ:Type} {C:σ->World->Prop}
end
end Mv
section
variable {P:Program} {md:Region.Mode} {ops:Array Oper}
theorem uQ{σ:Type}{n:Nat}{ops1:Array Oper}{l2:List Oper}{C:σ->World->Prop}(hb:mu md n ops=true)(hd:ft md ops=true)(hd1:ft md ops1=true)(uq:ops1.size=n)(h1:∀i,i<n->ops1[i]? =ops[i]?)(hl:∀j,l2[j]? =ops[n+j]?)
  {Q:Exit->Act->World->Prop} {Q1:σ->Act->Prop} (hQ:∀s a w,C s w->Q1 s a->wpList P ops Q l2 a w):∀(fuel:Nat) (bf listed:Array Bool) (s:σ) (a:Act) (w:World),C s w->Mv.Cl md ops listed->bf.size=n->listed.size=ops.size->
   (∀i,i<n->bf[i]? =listed[i]?)->(∀i,n<=i->i<ops.size->listed.getD i true=false)->Mv.wpAnyL P md ops1 C Q1 fuel bf s a->wpAny P md ops Q (l2.length+fuel) listed a w:=by
 have hnn:n<=ops.size:=by
  rcases Nat.lt_or_ge ops.size n with h|h
  ·have:=h1 ops.size h
   rw[Array.getElem?_eq_none af,Array.getElem?_eq_none_iff] at this;omega
  exact h
 have done:∀(fuel:Nat) (bf listed:Array Bool) (s:σ) (a:Act) (w:World),C s w->bf.size=n->listed.size=ops.size->(∀i,i<n->bf[i]? =listed[i]?)->(∀i,n<=i->i<ops.size->listed.getD i true=false)->
   Region.ready md ops1 bf=[]->Q1 s a->wpAny P md ops Q (l2.length+fuel) listed a w:=λfuel bf listed s a w hw hs1 hs hll h0 hr hq=>by
  refine oZ hb hd l2 n fuel listed a w af hl hs (λi hi=> ?_) h0 (hQ s a w hw hq);have:=oG hd1 (by omega) hr i (by omega);rw[Array.getD_eq_getD_getElem?,hll i hi,<-Array.getD_eq_getD_getElem?] at this;exact this
 intro fuel
 induction fuel with
 |zero=>intro bf listed s a w hw hcl hs1 hs hll h0 h;exact done 0 bf listed s a w hw hs1 hs hll h0 h.1 h.2
 |succ fuel ih=>
  intro bf listed s a w hw hcl hs1 hs hll h0 h
  by_cases hr:Region.ready md ops1 bf=[]
  ·exact done _ bf listed s a w hw hs1 hs hll h0 hr (h.1 hr)
  obtain⟨i0,hi0⟩:=List.exists_mem_of_ne_nil _ hr;obtain⟨hu0,o0,ho0,GA⟩:=mem_ready.1 hi0;have AR:i0<n:=by rw[<-uq];exact(Array.getElem?_eq_some_iff.1 ho0).1
  have get:∀i,i<n->∀d,bf.getD i d=listed.getD i d:=λi hi d=>by rw[Array.getD_eq_getD_getElem?,Array.getD_eq_getD_getElem?,hll i hi]
  have up:i0∈Region.ready md ops listed:=mem_ready.2 ⟨by rw[<-get i0 AR];exact hu0,o0,by rw[<-h1 i0 AR];exact ho0,λe he pr=>by
   have hlt:=cX hd1 ho0 he pr;rw[<-get e.on (by omega)];exact GA e he pr⟩
  rw[show l2.length+(fuel+1)=(l2.length+fuel)+1 by omega];refine⟨λNA=>(by rw[NA] at up;cases up),λi hi=> ?_⟩;obtain⟨hu,o,ho,hall⟩:=mem_ready.1 hi;have hin:i<n:=by
   rcases Nat.lt_or_ge i n with hh|hh
   ·exact hh
   have hx:=hcl.reach hall ho (mV hb ho hh (i:=i0) (by omega));rw[<-get i0 AR] at hx;rw[Array.getD_eq_getD_getElem?,Array.getElem?_eq_getElem (by omega)] at hx hu0;simp at hx hu0;rw[hx] at hu0;cases hu0
  have wm:ops1[i]? =some o:=by rw[h1 i hin];exact ho
  have hi1:i∈Region.ready md ops1 bf:=mem_ready.2 ⟨by rw[get i hin];exact hu,o,wm,λe he pr=>by
   have hlt:=cX hd1 wm he pr;rw[get e.on (by omega)];exact hall e he pr⟩
  have hq:=h.2 i hi1;have hwant:∀a:Act,Region.wanted o (yielded ops1 a.tmps)=Region.wanted o (yielded ops a.tmps):=λa=>by
   unfold Region.wanted;cases hg:o.guard with
   |none=>rfl
   |some p=>
    obtain⟨g,b⟩:=p;have:=pH hb ho hin hg;simp only[yielded,h1 g this]
  have hq':Mv.dS P ops C i (Mv.wpAnyL P md ops1 C Q1 fuel (bf.setIfInBounds i true)) s a:=by
   unfold Mv.dS at hq ⊢;simp only[wm] at hq;simp only[ho];unfold Mv.LX at hq ⊢;rw[<-hwant];exact hq
  refine Mv.o8 hw (λs' a' w' hw' h'=>ih (bf.setIfInBounds i true) (listed.setIfInBounds i true) s' a' w' hw' (hcl.next hi) (by simpa using hs1) (by simpa using hs) (λj hj=> ?_) (λj hj hjs=> ?_) h') hq'
  ·by_cases rZ:i=j
   ·subst rZ;simp[hs1,hs,hj,show i<ops.size by omega]
   rw[Array.getElem?_setIfInBounds_ne rZ,Array.getElem?_setIfInBounds_ne rZ];exact hll j hj
  rw[Array.getD_eq_getD_getElem?,Array.getElem?_setIfInBounds_ne (by omega),<-Array.getD_eq_getD_getElem?];exact h0 j hj hjs
theorem vd{σ:Type}(C:σ->World->Prop)(s:σ)(n:Nat)(hm:P.follows .mixedOrders=true)(hB:Region.lexB .any (L.take n).toArray=true)(hch:Mv.kj .any (L.take n).toArray=true)
  (hb:mu .any n L.toArray=true) (hd:ft .any L.toArray=true) (hd1:ft .any (L.take n).toArray=true) (hn:n<=L.length) (hC:C s {w with drawn:=w.drawn+1})
  (h:Nonempty (a9 λw=>∃s,C s w)->Mv.du P (L.take n).toArray C (λs a'=>∀w',C s w'->wpList P L.toArray Q (L.drop n) a' w') (L.take n) s a):(Code.region id L.toArray true).wp P Q a w:=by
 simp only[Region.lexB,Bool.and_eq_true] at hB;have hlen:(L.take n).length=n:=by simp[Nat.min_eq_left hn]
 have hq:=Mv.fH (P:=P) (C:=C) (md:=.any) Mv.iN hch (Q:=λs a'=>∀w',C s w'->wpList P L.toArray Q (L.drop n) a' w') hB.1 (L.take n) 0 (Array.replicate n false) s a ⟨_,hC⟩ (λj oj hj hl=>by
   rcases Nat.lt_or_ge j n with h'|h'
   ·simp[h'] at hl
   simp[h'] at hl) (λj hj=>by omega) (by simp) (by have:=hB.2;simpa[Nat.min_eq_left hn] using this) (h ⟨⟨_,s,hC⟩⟩)
 rw[hlen] at hq;have:=uQ (P:=P) (md:=.any) (ops:=L.toArray) (ops1:=(L.take n).toArray) (l2:=L.drop n) (n:=n) (C:=C) hb hd hd1 (by simp[Nat.min_eq_left hn]) (λi hi=>by simp[hi]) (λj=>by simp)
  (Q:=Q) (Q1:=λs a'=>∀w',C s w'->wpList P L.toArray Q (L.drop n) a' w') (λs a w hw h=>h w hw) n (Array.replicate n false) (Array.replicate L.length false) s a {w with drawn:=w.drawn+1} hC (λj oj hj hl e he pr=>by
   rcases Nat.lt_or_ge j L.length with h'|h'
   ·simp[h'] at hl
   simp[h'] at hl) (by simp) (by simp)
  (λi hi=>by simp[hi,show i<L.length by omega]) (λi hi hs=>by simp at hs;simp[hs]) hq
 rw[show(L.drop n).length+n=L.length by simp;omega] at this;refine wp_region_any hm ?_;simpa using this
end
namespace Tb
theorem pZ{P:Program}(hi:ops[i]? =some o)(hg:o.guard=none)(h:o.wp P a w K Q):wpOp P ops Q i K a w:=by
 unfold wpOp;rw[hi];have:Region.wanted o (yielded ops a.tmps)=true:=by unfold Region.wanted;rw[hg]
 simp only[this,if_true];exact .inl h
theorem jE(a:Act)(d:Nat)(v:Value):(a.put (some d) v).tmps.size=a.tmps.size:=by simp[Act.put]
theorem nL(a:Act)(d:Nat)(v:Value)(h:d<a.tmps.size):(a.put (some d) v).tmps.getD d undef=v:=by simp[Act.put,Array.getD_eq_getD_getElem?,h]
theorem iz(a:Act)(d s:Nat)(v:Value)(h:s≠d):(a.put (some d) v).tmps.getD s undef=a.tmps.getD s undef:=by
 simp only[Act.put,Array.getD_eq_getD_getElem?,Array.getElem?_setIfInBounds_ne (Ne.symm h)]
end Tb
section
variable {P:Program} {w w':World} {o:Oper} {a:Act} {K:Act->World->Prop} {Q:Exit->Act->World->Prop}
theorem eZ(hr:(execOp a.eval o).run P w= .ok (.value v) w')(h:K (a.put o.dst v) w'):o.wp P a w K Q:=by
 unfold Oper.wp;rw[hr];exact h
theorem Jo(hr:(execOp a.eval o).run P w= .ok .skip w')(h:K (a.put o.dst undef) w'):o.wp P a w K Q:=by
 unfold Oper.wp;rw[hr];exact h
theorem aq(hu:zF .any o l=true)(k:Nat)(hk:(o.after.any λe=>Region.binds .any e&&e.on==k)=true:=by kernel_rfl):l k=true:=by
 unfold zF at hu;rw[Array.all_eq_true'] at hu;rw[Array.any_eq_true'] at hk;obtain⟨e,he,hb⟩:=hk;rw[Bool.and_eq_true] at hb;have:=hu e he;rw[hb.1] at this;have e2:e.on=k:=by simpa using hb.2
 rw[e2] at this;simpa using this
end
namespace Vl
def dst(L:List Oper)(n:Nat):Option Nat:=(L[n]?).bind (·.dst)
def kG(L:List Oper)(sz:Nat):Bool:=
 (List.range L.length).all λn=>match dst L n with
  |none=>true
  |some d=>decide (d<sz)&&(List.range L.length).all λm=>m==n||dst L m !=some d
theorem qv{sz:Nat}(h:kG L sz=true){n:Nat}(hd:dst L n=some d):d<sz:=by
 unfold kG at h;rw[List.all_eq_true] at h;have hn:n<L.length:=by
  unfold dst at hd;cases hl:L[n]? with
  |none=>rw[hl] at hd;cases hd
  |some o=>exact(List.getElem?_eq_some_iff.1 hl).1
 have:=h n (List.mem_range.2 hn);rw[hd] at this;simp only[Bool.and_eq_true,decide_eq_true_eq] at this;exact this.1
theorem lU{sz:Nat}(h:kG L sz=true){n m:Nat}(hd:dst L n=some d)(hm:m≠n):dst L m≠some d:=by
 unfold kG at h;rw[List.all_eq_true] at h;have hn:n<L.length:=by
  unfold dst at hd;cases hl:L[n]? with
  |none=>rw[hl] at hd;cases hd
  |some o=>exact(List.getElem?_eq_some_iff.1 hl).1
 have h1:=h n (List.mem_range.2 hn);rw[hd] at h1;simp only[Bool.and_eq_true] at h1;intro e;have Pm:m<L.length:=by
  unfold dst at e;cases hl:L[m]? with
  |none=>rw[hl] at e;cases e
  |some o=>exact(List.getElem?_eq_some_iff.1 hl).1
 have h2:=(List.all_eq_true.1 h1.2) m (List.mem_range.2 Pm);rw[e] at h2;simp[hm] at h2
structure I(L:List Oper)(V:Nat->Value->World->Prop)(S:(Nat->Bool)->World->Prop)(a0:Act)(l:Nat->Bool)(a:Act)(W:World):Prop where
 defers:a.defers=a0.defers
 size:a.tmps.size=a0.tmps.size
 other:∀k,(∀i,l i=true->dst L i≠some k)->a.tmps.getD k undef=a0.tmps.getD k undef
 vals:∀i d,l i=true->dst L i=some d->V i (a.tmps.getD d undef) W
 st:S l W
section
variable {P:Program} {L:List Oper} {V:Nat->Value->World->Prop} {S:(Nat->Bool)->World->Prop} {a0:Act} {l:Nat->Bool} {a:Act} {W W':World}
theorem I.old(h:I L V S a0 l a W)(k:Nat)(hk:(List.range L.length).all (λi=>dst L i !=some k)=true):a.tmps.getD k undef=a0.tmps.getD k undef:=by
 refine h.other k λi _ e=> ?_
 have hi:i<L.length:=by
  unfold dst at e;cases hl:L[i]? with
  |none=>rw[hl] at e;cases e
  |some o=>exact(List.getElem?_eq_some_iff.1 hl).1
 have:=(List.all_eq_true.1 hk) i (List.mem_range.2 hi);rw[e] at this;simp at this
theorem I.next(h:I L V S a0 l a W){sz:Nat}(hB:kG L a0.tmps.size=true)(n:Nat)(ho:L[n]? =some o)(v:Value)(hl:l n=false)(hV:∀i v,l i=true->V i v W->V i v W')(hv:V n v W')(hS:S (λj=>j==n||l j) W'):
  I L V S a0 (λj=>j==n||l j) (a.put o.dst v) W':=by
 have mo:dst L n=o.dst:=by unfold dst;rw[ho];rfl
 cases hd:o.dst with
 |none=>
  refine⟨h.defers,h.size,λk hk=>h.other k λi hi=>hk i (by show(i==n||l i)=true;rw[hi,Bool.or_true]),λi d hi he=> ?_,hS⟩
  by_cases e:i=n
  ·subst e;rw[mo,hd] at he;cases he
  have hi':l i=true:=by
   have:(i==n||l i)=true:=hi;rwa[show(i==n)=false by simpa using e,Bool.false_or] at this
  exact hV i _ hi' (h.vals i d hi' he)
 |some d=>
  have hlt:=qv hB (n:=n) (d:=d) (by rw[mo,hd]);refine⟨h.defers,(Tb.jE _ _ _).trans h.size,λk hk=> ?_,λi d' hi he=> ?_,hS⟩
  ·have fV:k≠d:=λe=>hk n (by show(n==n||l n)=true;simp) (by rw[mo,hd,e])
   rw[Tb.iz _ _ _ _ fV];exact h.other k λi hi=>hk i (by show(i==n||l i)=true;rw[hi,Bool.or_true])
  by_cases e:i=n
  ·subst e
   rw[mo,hd] at he;injection he with he
   subst he;rw[Tb.nL _ _ _ (by rw[h.size];exact hlt)];exact hv
  have hi':l i=true:=by
   have:(i==n||l i)=true:=hi;rwa[show(i==n)=false by simpa using e,Bool.false_or] at this
  have hdd:d'≠d:=λe2=>lU hB (n:=n) (d:=d) (by rw[mo,hd]) e (by rw[he,e2])
  rw[Tb.iz _ _ _ _ hdd];exact hV i _ hi' (h.vals i d' hi' he)
theorem cZ(V:Nat->Value->World->Prop)(S:(Nat->Bool)->World->Prop)(hm:P.follows .mixedOrders=true)(hd:ft .any L.toArray=true)
  (hS:∀l l' w,(∀i,i<L.length->l i=l' i)->S l w->S l' w) (h0:S (λ_=>false) {w with drawn:=w.drawn+1}) (hst:kG L a.tmps.size=true->gg P .any L.toArray Q (I L V S a) 0 L)
  (hB:kG L a.tmps.size=true) (hend:∀a' w',I L V S a (λ_=>true) a' w'->Q .normal a' w'):(Code.region id L.toArray true).wp P Q a w:=by
 refine mb (I L V S a) hm hd (λl l' a' w' he h=> ?_) ⟨rfl,rfl,λ_ _=>rfl,(λi d h=>by cases h),h0⟩ (hst hB) hend;have hlt:∀{i d},dst L i=some d->i<L.length:=λ{i d} e=>by
  unfold dst at e;cases hl:L[i]? with
  |none=>rw[hl] at e;cases e
  |some o=>exact(List.getElem?_eq_some_iff.1 hl).1
 exact⟨h.defers,h.size,λk hk=>h.other k λi hi e=>hk i (by rw[<-he i (hlt e)];exact hi) e,λi d hi e=>h.vals i d (by rw[he i (hlt e)];exact hi) e,hS l l' w' he h.st⟩
theorem step{n:Nat}(h:I L V S a0 l a W)(hB:kG L a0.tmps.size=true)(hn:ops[n]? =some o)(Gl:L[n]? =some o)(hg:o.guard=none)(hl:l n=false)
  (hw:o.wp P a W (λa' W'=>∃v,a'=a.put o.dst v/\(∀i v,l i=true->V i v W->V i v W')/\V n v W'/\S (λj=>j==n||l j) W') Q):wpOp P ops Q n (I L V S a0 (λj=>j==n||l j)) a W:=by
 refine Tb.pZ hn hg ?_;refine Oper.wp_mono (λa' W' h'=> ?_) hw;obtain⟨v,rfl,h1,h2,h3⟩:=h';exact h.next (sz:=0) hB n Gl v hl h1 h2 h3
theorem aJ{n:Nat}(h:I L V S a0 l a W)(hB:kG L a0.tmps.size=true)(hn:ops[n]? =some o)(Gl:L[n]? =some o)(hg:o.guard=none)(hl:l n=false)
  (v:Value) (hr:(execOp a.eval o).run P W= .ok (.value v) W) (hv:V n v W) (hS:S l W->S (λj=>j==n||l j) W):wpOp P ops Q n (I L V S a0 (λj=>j==n||l j)) a W:=
 step h hB hn Gl hg hl (eZ hr ⟨v,rfl,λ_ _ _ h=>h,hv,hS h.st⟩)
theorem zW{g:Nat}(hg:dst L g=some d){c:Bool}(hv:a.tmps.getD d undef= .bool c):yielded L.toArray a.tmps g=some c:=by
 unfold yielded;unfold dst at hg;rw[List.getElem?_toArray,hg];have hd:a.tmps[d]? =some (.bool c):=by
  rw[Array.getD_eq_getD_getElem?] at hv;cases h:a.tmps[d]? with
  |none=>rw[h] at hv;cases hv
  |some x=>rw[h] at hv;simpa using hv
 simp[hd]
theorem stepG{n:Nat}(h:I L V S a0 l a W)(hB:kG L a0.tmps.size=true)(Gl:L[n]? =some o)(g:Nat)(b:Bool)(hg:o.guard=some (g,b))(d:Nat)(hd:dst L g=some d)(c:Bool)(hc:a.tmps.getD d undef= .bool c)(hl:l n=false)
  (hw:c=b->o.wp P a W (λa' W'=>∃v,a'=a.put o.dst v/\(∀i v,l i=true->V i v W->V i v W')/\V n v W'/\S (λj=>j==n||l j) W') Q)
  (hno:c≠b->V n undef W/\S (λj=>j==n||l j) W):wpOp P L.toArray Q n (I L V S a0 (λj=>j==n||l j)) a W:=by
 unfold wpOp;rw[List.getElem?_toArray,Gl];have hy:=zW (L:=L) hd hc
 by_cases e:c=b
 ·have hwant:Region.wanted o (yielded L.toArray a.tmps)=true:=by unfold Region.wanted;rw[hg];simp[hy,e]
  simp only[hwant,if_true];refine .inl (Oper.wp_mono (λa' W' h'=> ?_) (hw e));obtain⟨v,rfl,h1,h2,h3⟩:=h';exact h.next (sz:=0) hB n Gl v hl h1 h2 h3
 have hwant:Region.wanted o (yielded L.toArray a.tmps)=false:=by unfold Region.wanted;rw[hg];simp[hy,e]
 simp only[hwant,if_false,Bool.false_eq_true];obtain⟨h1,h2⟩:=hno e;exact h.next (sz:=0) hB n Gl undef hl (λ_ _ _ h=>h) h1 h2
end
end Vl
section
variable {w:World} {G S I J:Int} {p1 p2 px q n:Nat} {zx zx':Nat->Int} {im im':Nat->Nat->Int} {W W':World}
end
structure Ss(w:World)(g s i j q:Nat)(w':World):Prop where
 le:w.heap.size<=q
 a:aE w' q 32 256 (2+j+g*s) (λb=>Ks .u8 256 (iL g s i j b))
 bel:Below w.heap.size w w'
namespace Tb
def Nj(sk:List (Nat×Nat×Nat))(n:Nat):Bool:=sk.any λx=>x.2.2==n
def QG(sk:List (Nat×Nat×Nat))(n:Nat):Bool:=sk.any λx=>x.1==n
def eE(o:Oper)(s:Nat):Bool:=o.op.operands.toList.any λx=>match x with| .tmp t=>t==s|_=>false
section
variable {P:Program}
theorem oW{b:Act}(h:∀s,x= .tmp s->a.tmps.getD s undef=b.tmps.getD s undef):a.eval x=b.eval x:=by
 cases x with
 |tmp t=>exact h t rfl
 |const v=>rfl
 |global g=>rfl
 |func f=>rfl
theorem oH{s:Nat}(hx:x∈o.op.operands)(he:x= .tmp s):eE o s=true:=by
 unfold eE;rw[List.any_eq_true];exact⟨x,by simpa using hx,by rw[he];simp⟩
theorem qK{C:World->Prop}{A:Act}:∀(l:List Oper) (a:Act),(∀o∈l,o.guard=none/\(∀cs b,o.op≠ .select cs b)/\∃d,o.dst=some d/\d<a.tmps.size)->l.Pairwise (λx y=>x.dst≠y.dst/\(∀d,y.dst=some d->eE x d=false))->(∀o∈l,∀d,o.dst=some d->eE o d=false)->
  wpQuiet P ops C (λa'=>a'=A) l a->A.defers=a.defers/\A.tmps.size=a.tmps.size/\(∀s,(∀o∈l,o.dst≠some s)->A.tmps.getD s undef=a.tmps.getD s undef)/\∀o∈l,∀d,o.dst=some d->∀w,C w->o.quietAt P A C w (A.tmps.getD d undef)
 |[],a,_,_,_,h=>by
  have h:a=A:=h;subst h;exact⟨rfl,rfl,λ_ _=>rfl,λo ho=>by cases ho⟩
 |o::l,a,hg,hp,hr,h=>by
  obtain⟨hgo,hso,d,hd,hlt⟩:=hg o (by simp);obtain⟨hp1,hp2⟩:=List.pairwise_cons.1 hp;unfold wpQuiet at h;rw[if_pos (by unfold Region.wanted;rw[hgo])] at h;obtain⟨v,hv,hk⟩:=h;rw[hd] at hk;obtain⟨i1,i2,i3,i4⟩:=qK l (a.put (some d) v) (λo' ho'=>by
   obtain⟨h1,h2,d',h3,h4⟩:=hg o' (by simp[ho']);exact⟨h1,h2,d',h3,by rw[jE];exact h4⟩) hp2 (λo' ho'=>hr o' (by simp[ho'])) hk
  have hAd:A.tmps.getD d undef=v:=by
   rw[i3 d (λo' ho' e=>(hp1 o' ho').1 (hd.trans e.symm))];exact nL _ _ _ hlt
  have hoth:∀s,(∀o'∈o::l,o'.dst≠some s)->A.tmps.getD s undef=a.tmps.getD s undef:=λs hs=>by
   rw[i3 s (λo' ho'=>hs o' (by simp[ho']))];exact iz _ _ _ _ (λe=>hs o (by simp) (by rw[hd,e]))
  refine⟨i1,i2.trans (jE _ _ _),hoth,?_⟩;intro o' ho' d' hd' w hw;rcases List.mem_cons.1 ho' with rfl|ho'
  ·have e:d=d':=by rw[hd] at hd';injection hd'
   subst e;rw[hAd];have:=hv w hw;unfold Oper.quietAt at this ⊢;rw[execOp_congr (ρ:=A.eval) (ρ':=a.eval) o' hso λx hx=>oW λs hs=> ?_]
   ·exact this
   refine hoth s λo2 eI e=> ?_
   have h1:=oH hx hs;rcases List.mem_cons.1 eI with rfl|eI
   ·rw[hr o2 (by simp) s e] at h1;cases h1
   rw[(hp1 o2 eI).2 s e] at h1;cases h1
  exact i4 o' ho' d' hd' w hw
structure Ok(md:Region.Mode)(L:List Oper)(sk:List (Nat×Nat×Nat))(i:Nat)(o:Oper):Prop where
 g:o.guard=none
 s:∀cs b,o.op≠ .select cs b
 r:∀j oj d,L[j]? =some oj->oj.dst=some d->eE o d=true->∃e∈o.after,Region.binds md e=true/\e.on=j
 d:∀j oj d,L[j]? =some oj->oj.dst=some d->j≠i->o.dst≠some d
 a:∀j oj d,L[j]? =some oj->oj.dst=some d->QG sk j=true->Nj sk i=false->eE o d=false
 st:Nj sk i=true->o.dst=none/\QG sk i=false/\∀x∈sk,x.2.2=i->∃e∈o.after,Region.binds md e=true/\e.on=x.1
 ns:Nj sk i=false->(∃d,o.dst=some d)/\∀x∈sk,(x.1=i->o.dst=some x.2.1)/\(x.1≠i->o.dst≠some x.2.1)
theorem qS{md:Region.Mode}{I:(Nat->Bool)->Act->World->Prop}:∀(l:List Oper) (n:Nat),(∀i o,l[i]? =some o->∀l' a w,l' (n+i)=false->zF md o l'=true->I l' a w->wpOp P ops Q (n+i) (I (λj=>j==(n+i)||l' j)) a w)->gg P md ops Q I n l
 |[],_,_=>trivial
 |o::l,n,h=>⟨λl' a w h1 h2 h3=>h 0 o rfl l' a w h1 h2 h3,qS l (n+1) λi o' hi l' a w h1 h2 h3=>by
   have:=h (i+1) o' (by simpa using hi) l' a w (by rw[show n+(i+1)=n+1+i by omega];exact h1) h2 h3;rwa[show n+(i+1)=n+1+i by omega] at this⟩
theorem Lg{md:Region.Mode}(h:zF md o l=true){e:Edge}(he:e∈o.after)(hb:Region.binds md e=true):l e.on=true:=by
 unfold zF at h;rw[Array.all_eq_true'] at h;have:=h e he;rwa[hb,Bool.not_true,Bool.false_or] at this
end
end Tb
section
variable {F:Fence} {n:Nat} {P:Program}
def Kept(B:Nat)(X:World->Prop):Prop:=∀W W' row,X W->W.grownBy W' row->(∀r,row=some r->B<=r/\∃o:Obj,W.heap[r]? =some o/\o.isCells=false)->X W'
theorem Kept.from{J:Nat->World->Prop}(h:∀k,Kept B (J k)):OwnFrom B J:=λs W W' row hs hg hr=>h s W W' row hs hg hr
theorem Kept.turns(h:Kept B X){A C:World}(hs:X A)(ht:sG (λ_=>False) A C):X C:=by
 obtain⟨row,hg,hr⟩:=ht;exact h A C row hs hg (λr e=>(hr r e).elim)
theorem Kept.and{Y:World->Prop}(h:Kept B X)(k:Kept B Y):Kept B (λW=>X W/\Y W):=λW W' row hs hg hr=>⟨h W W' row hs.1 hg hr,k W W' row hs.2 hg hr⟩
theorem Kept.pure(B:Nat)(p:Prop):Kept B (λ_=>p):=λ_ _ _ h _ _=>h
theorem Kept.ex{α:Type}{X:α->World->Prop}(h:∀x,Kept B (X x)):Kept B (λW=>∃x,X x W):=λW W' row hs hg hr=>let ⟨x,hx⟩:=hs;⟨x,h x W W' row hx hg hr⟩
theorem Kept.all{α:Type}{X:α->World->Prop}(h:∀x,Kept B (X x)):Kept B (λW=>∀x,X x W):=λW W' row hs hg hr x=>h x W W' row (hs x) hg hr
theorem Kept.Jq(h:aC B X):Kept B X:=λW W' row hs hg hr=>h W W' hs (Still.jK hg λr e=>(hr r e).1)
theorem Kept.cell(B:Nat)(p:Addr)(v:Value):Kept B (λW=>W.cell? p=some v):=λW W' row hs hg hr=>by
 have hl:=World.block_lt_of_cell? W _ hs;refine(World.cell?_of_block (w:=W) (hg.block p.block hl λe=> ?_)).trans hs;obtain⟨_,o,ho,hc⟩:=hr _ e.symm;simp only[World.cell?,ho] at hs;cases o with
 |cells c e f=>cases hc
 |_=>cases hs
theorem Kept.own{size:Nat}:Kept B (λW=>W.ownsRow base e size v k xs):=λW W' row hs hg hr=>by
 refine World.ownsRow.kept hs hg ?_;cases row with
 |none=>cases h1:v.ownBlock with
  |none=>exact .inl rfl
  |some g=>exact .inr (λe=>by cases e)
 |some r=>
  obtain⟨_,o,ho,hc⟩:=hr r rfl;cases h1:v.ownBlock with
  |none=>exact .inl rfl
  |some g=>
   refine .inr λe=> ?_
   injection e with e
   subst e;rcases hs.2 with⟨hv,_⟩|⟨g',cap',cur,hv,hbg,hg',h⟩
   ·subst hv;cases h1
   subst hv;have:g'=g:=by simpa[Value.ownBlock] using h1
   subst this;rw[ho] at hg';injection hg' with hg'
   subst hg';cases hc
end
section
variable {P:Program}
theorem Kept.at{b:Nat}(T:TypeId)(cs:Array Value):Kept B (λW=>At W b T cs):=λW W' row hs hg hr=>by
 refine(hg.block b hs.lt λe=> ?_).trans hs;obtain⟨_,o,ho,hc⟩:=hr b e.symm;have:some (Obj.cells cs T (0,0))=some o:=Eq.trans (Eq.symm hs) ho;injection this with this
 subst this;cases hc
theorem Kept.below{n:Nat}(w:World)(hn:n<=B)(hw:n<=w.heap.size):Kept B (λW=>Below n w W):=Kept.Jq (aC.below w hn hw)
end
section
variable {P:Program}
theorem xz{g:Operand}{ps:Array Tmp}{Mb L9:Code}{gf:Nat}{lb:Array Value}
  (hg:a.eval g= .func (.func gf) #[] lb) (eg:∀args w,(callFunc gf args).run P w= .ok (.enter gf args) w)
  {iV:Nat->Array Value} {N:Nat} {eA:Nat->World->Prop} (hit:lF Fence.wide 4 P gf lb iV N (λ_=>False) eA) (hps:∀k,(iV k).size=ps.size)
  (J:Nat->World->Prop) (Jx:Code->Nat->World->Prop)
  (hJ:∀k,Kept w.heap.size (J k)) (AV:∀c k,Kept w.heap.size (Jx c k)) (hN:∀k,Kept w.heap.size (eA k)) (h0:J 0 w) (hn0:eA 0 w) (A1:Nat->Act)
  (assign:∀(l k:Nat) (W:World) (K:Act->World->Prop),k<N->K (A1 k) W->
   Mb.wpIn (Fence.wide.inRound l) 3 P (Exit.then K (λ_ _ _=>False)) {tmps:=(ps.zip (iV k)).foldl (λt (p,v)=>t.setIfInBounds p v) a.tmps,defers:=[]} W)
  (body:∀(l k:Nat) (W:World),k<N->J k W->eA k W->L9.wpIn (Fence.wide.inRound l) 3 P (nH w.heap.size J Jx eA k W) (A1 k) W)
  (done:∀(D:Nat) (W:World),w.heap.size<=D->J N W->W.heap[D]? =some (.deferred (some []))->Q .normal {a with defers:={target:=.collected D,args:=#[]}::a.defers} W)
  (stop:∀(D:Nat) (c:Code) (k:Nat) (W:World),w.heap.size<=D->k<N->Jx c k W->W.heap[D]? =some (.deferred (some []))->c.wp P Q {a with defers:={target:=.collected D,args:=#[]}::a.defers} W):
  (Code.rangeFunc g ps Mb L9).wp P Q a w:=by
 refine(wpIn_wide (n:=5)).1 ?_;exact jT rfl (by decide) hg trivial eg hit (λr h=>h.elim) hps J Jx (λk a' _=>a'=A1 k)
  (Kept.from hJ) (λc=>Kept.from (AV c)) (Kept.from hN) (λa'=>Kept.from (λk=>Kept.pure _ _))
  (λk A C hs ht=>(hJ k).turns hs ht) (λc k A C hs ht=>(AV c k).turns hs ht) h0 hn0
  (λl k W K hk hj hn hK=>assign l k W K hk (hK _ _ (KeepsFrom.refl _ _) hj hn rfl))
  (λl k a' W hk hj hn ha=>by subst ha;exact body l k W hk hj hn)
  done (λD c k W h1 h2 h3 h4=>wpIn_wide.2 (stop D c k W h1 h2 h3 h4))
end
namespace Mv
def gD(o:Oper):Bool:=match o.op with| .defer _=>false|_=>true
section
variable {m:Nat} {P:Program} {ops:Array Oper} {md:Region.Mode} {σ:Type} {C:σ->World->Prop} {lp:Nat}
theorem ym(ho:gD o=true)(c):o.op≠ .defer c:=by
 intro h;unfold gD at ho;rw[h] at ho;cases ho
theorem qG(ht:ops.all gD=true){s:σ}{K:σ->Act->Prop}(hC:C s w)(h:∀s a w',C s w'->K s a->K' a w')(hh:dS P ops C i K s a):
  wpOpIn (Fence.wide.inRound lp) m P ops Q' i K' a w:=by
 unfold dS at hh;unfold wpOpIn;split
 ·rename_i ho;simp only[ho] at hh;exact h _ _ _ hC hh
 rename_i o ho;simp only[ho] at hh;have LJ:gD o=true:=by
  rw[Array.all_eq_true_iff_forall_mem] at ht;exact ht o (Array.mem_of_getElem? ho)
 have hab:∀f,o.about P w a.eval=some f->(Fence.wide.inRound lp).fn f:=λf _=>trivial
 rcases hh with⟨hw,hy⟩|⟨hw,hk⟩
 ·simp only[hw,if_true]
  unfold Oper.wpIn;refine⟨hab,?_⟩;rw[Oper.semAt_plain _ _ _ (ym LJ)];rcases hy with⟨_,hk⟩|⟨_,v,hs,hk⟩
  ·have h3:=hk w hC
   generalize (execOp a.eval o).run P w=r at*;cases r with
   |ok n w'=>
    cases n<;>simp only[dh] at h3<;>simp only[Oper.uponIn]
    ·obtain⟨s',h4,h5⟩:=h3;exact h _ _ _ h4 h5
    ·obtain⟨s',h4,h5⟩:=h3;exact h _ _ _ h4 h5
    refine⟨λe=>by simp[Fence.wide] at e,CallsIn.inRound lp (callsIn_wide.2 (h3.mono ?_))⟩;rintro e w2 ⟨v,rfl,s',h4,h5⟩;exact h _ _ _ h4 h5
   |halt x w'=>simp only[dh] at h3
  have h3:=hs w ⟨_,hC⟩;generalize (execOp a.eval o).run P w=r at*;cases r with
  |ok n w'=>
   cases n<;>simp only[stillUpon] at h3<;>simp only[Oper.uponIn]
   ·obtain⟨rfl,rfl⟩:=h3;exact h _ _ _ hC hk
   obtain⟨rfl,rfl⟩:=h3;exact h _ _ _ hC hk
  |halt x w'=>simp only[stillUpon] at h3
 rw[if_neg (by rw[hw];decide)];exact⟨hab,h _ _ _ hC hk⟩
theorem kp(ht:ops.all gD=true){Q:σ->Act->Prop}(hQ:∀s a w,C s w->Q s a->Q' .normal a w):∀(fuel:Nat) (listed:Array Bool) (s:σ) (a:Act) (w:World),C s w->
  wpAnyL P md ops C Q fuel listed s a->wpAnyIn (Fence.wide.inRound lp) m P md ops Q' fuel listed a w
 |0,_,_,_,_,hw,h=>⟨h.1,hQ _ _ _ hw h.2⟩
 |fuel+1,_,_,_,_,hw,h=>⟨λh0=>hQ _ _ _ hw (h.1 h0),λi hi=>qG ht hw (λs' a' w' hw'=>kp ht hQ fuel _ s' a' w' hw') (h.2 i hi)⟩
theorem kK(C:σ->World->Prop)(s:σ){l:List Oper}(hm:P.follows .mixedOrders=true)(hB:Region.lexB .any l.toArray=true)(hch:kj .any l.toArray=true)(ht:l.toArray.all gD=true)(hC:C s {w with drawn:=w.drawn+1})
  (h:Nonempty (a9 λw=>∃s,C s w)->du P l.toArray C (λs a'=>∀w',C s w'->Q .normal a' w') l s a):(Code.region id l.toArray true).wpIn (Fence.wide.inRound lp) m P Q a w:=by
 simp only[Region.lexB,Bool.and_eq_true] at hB;refine wpIn_region_any hm (kp ht (Q:=λs a'=>∀w',C s w'->Q .normal a' w') (λ_ _ w' hw' h=>h w' hw') _ _ s _ _ hC ?_);have:=fH (C:=C) (md:=.any) iN hch hB.1 l 0 (Array.replicate l.toArray.size false) s a ⟨_,hC⟩ (λj oj hj hl=>by
   rcases Nat.lt_or_ge j l.toArray.size with h'|h'
   ·rw[List.size_toArray] at h';simp[h'] at hl
   rw[List.size_toArray] at h';simp[h'] at hl) (λj hj=>by omega) (by simp) (by simpa using hB.2) (h ⟨⟨_,s,hC⟩⟩)
 simpa using this
def Nm(Q:Exit->Act->World->Prop):Exit->Act->World->Prop
 | .normal,a,w=>Q .normal a w
 |_,_,_=>False
theorem Nm.mk(h:Q .normal a w):Nm Q .normal a w:=h
theorem Nm.no(Q:Exit->Act->World->Prop):¬LetsOut (Nm Q):=λ⟨_,_,h⟩=>h
theorem ve(ht:ops.all gD=true)(hK:∀a w,K a w->K' a w)(h:wpOp P ops (Nm Q) i K a w):
  wpOpIn (Fence.wide.inRound lp) m P ops Q i K' a w:=by
 unfold wpOp at h;unfold wpOpIn;split
 ·rename_i ho;simp only[ho] at h;exact hK _ _ h
 rename_i o ho;simp only[ho] at h;have hmem:=Array.mem_of_getElem? ho;have LJ:gD o=true:=by
  rw[Array.all_eq_true_iff_forall_mem] at ht;exact ht o hmem
 by_cases hw:Region.wanted o (yielded ops a.tmps)=true
 ·simp only[hw,if_true] at h ⊢
  rcases h with h|⟨_,h⟩
  rotate_left
  ·exact absurd h (Nm.no Q)
  unfold Oper.wpIn;refine⟨λf _=>trivial,?_⟩;rw[Oper.semAt_plain _ _ _ (ym LJ)];unfold Oper.wp at h;generalize (execOp a.eval o).run P w=r at*;cases r with
  |ok n w'=>
   cases n with
   |value v=>exact hK _ _ h
   |skip=>exact hK _ _ h
   |«defer»d=>exact hK _ _ h
   |enter f args=>
    refine⟨λe=>by simp[Fence.wide] at e,CallsIn.inRound lp (callsIn_wide.2 (Calls.mono h ?_))⟩;intro e w2 h2;cases e with
    |returned v=>exact hK _ _ h2
    |panicked ch=>exact h2.elim
    |outgrown=>exact absurd h2 (Nm.no Q)
   |row r args=>
    refine⟨λe=>by simp[Fence.wide] at e,λc cs _=> ?_⟩;obtain⟨v,w2,hR,hs⟩:=h c cs;exact⟨v,w2,hK _ _ hR,stepsIn_wide.2 hs⟩
   |_=>exact h.elim
  |halt x w'=>
   cases x with
   |panic v=>exact h.elim
   |_=>exact h.elim
 simp only[hw] at h ⊢;exact⟨λf _=>trivial,hK _ _ h⟩
theorem kN(ht:ops.all gD=true):∀(fuel:Nat) (listed:Array Bool) (a:Act) (w:World),wpAny P md ops (Nm Q) fuel listed a w->wpAnyIn (Fence.wide.inRound lp) m P md ops Q fuel listed a w
 |0,_,_,_,h=>h
 |fuel+1,_,_,_,h=>⟨h.1,λi hi=>ve ht (λa' w' h'=>kN ht fuel _ a' w' h') (h.2 i hi)⟩
theorem kL(C:σ->World->Prop)(s:σ)(n:Nat)(hm:P.follows .mixedOrders=true)(hB:Region.lexB .any (L.take n).toArray=true)(hch:kj .any (L.take n).toArray=true)
  (hb:mu .any n L.toArray=true) (hd:ft .any L.toArray=true) (hd1:ft .any (L.take n).toArray=true) (ht:L.toArray.all gD=true) (hn:n<=L.length) (hC:C s {w with drawn:=w.drawn+1})
  (h:Nonempty (a9 λw=>∃s,C s w)->du P (L.take n).toArray C (λs a'=>∀w',C s w'->wpList P L.toArray (Nm Q) (L.drop n) a' w') (L.take n) s a):(Code.region id L.toArray true).wpIn (Fence.wide.inRound lp) m P Q a w:=by
 simp only[Region.lexB,Bool.and_eq_true] at hB;have hlen:(L.take n).length=n:=by simp[Nat.min_eq_left hn]
 have hq:=fH (P:=P) (C:=C) (md:=.any) iN hch (Q:=λs a'=>∀w',C s w'->wpList P L.toArray (Nm Q) (L.drop n) a' w') hB.1 (L.take n) 0 (Array.replicate n false) s a ⟨_,hC⟩ (λj oj hj hl=>by
   rcases Nat.lt_or_ge j n with h'|h'
   ·simp[h'] at hl
   simp[h'] at hl) (λj hj=>by omega) (by simp) (by have:=hB.2;simpa[Nat.min_eq_left hn] using this) (h ⟨⟨_,s,hC⟩⟩)
 rw[hlen] at hq;have:=uQ (P:=P) (md:=.any) (ops:=L.toArray) (ops1:=(L.take n).toArray) (l2:=L.drop n) (n:=n) (C:=C) hb hd hd1 (by simp[Nat.min_eq_left hn]) (λi hi=>by simp[hi]) (λj=>by simp)
  (Q:=Nm Q) (Q1:=λs a'=>∀w',C s w'->wpList P L.toArray (Nm Q) (L.drop n) a' w') (λs a w hw h=>h w hw) n (Array.replicate n false) (Array.replicate L.length false) s a {w with drawn:=w.drawn+1} hC (λj oj hj hl e he pr=>by
   rcases Nat.lt_or_ge j L.length with h'|h'
   ·simp[h'] at hl
   simp[h'] at hl) (by simp) (by simp)
  (λi hi=>by simp[hi,show i<L.length by omega]) (λi hi hs=>by simp at hs;simp[hs]) hq
 rw[show(L.drop n).length+n=L.length by simp;omega] at this;refine wpIn_region_any hm (kN ht _ _ _ _ ?_);simpa using this
end
end Mv
section
variable {w:World} {G S I J:Int} {la:Option Addr} {N:Nat} {L:Nat->Nat->Int} {hs ht:Int} {av:Value} {nn E:Int} {W W':World}
end
def fw(W:World)(B:Nat)(v:Value)(nn E:Int):World:=((W.setCell ⟨B+1+1,0,none⟩ v).setCell ⟨B+1+1+1,0,none⟩ (.int .u32 nn)).setCell ⟨B+1+1+1+1,0,none⟩ (.int .i64 E)
section
variable {w:World} {G S I J:Int} {la:Option Addr} {N:Nat} {L:Nat->Nat->Int} {hs ht:Int} {av:Value} {nn E:Int} {W W':World}
end
section
variable {w:World} {G S I J:Int} {la:Option Addr} {N:Nat} {L:Nat->Nat->Int} {hs ht:Int} {av:Value} {nn E:Int} {W W':World}
end
section
variable {w:World} {G S I J:Int} {la:Option Addr} {N:Nat} {L:Nat->Nat->Int} {hs ht:Int} {av:Value} {nn E:Int} {W W':World}
end
theorem dJ{W:World}{p size:Nat}{cs:Array Value}(hA:At W p T cs)(h:W.ownsRow base e size v k xs)(he:e≠T):v.ownBlock≠some p:=by
 intro hp;rcases h.2 with⟨rfl,_⟩|⟨q,cap,cur,rfl,_,hh,_⟩
 ·cases hp
 injection hp with hp
 subst hp;have:=hA.symm.trans hh;injection this with this
 injection this with _ h2
 exact he h2.symm
section
variable {w:World} {p8:Nat} {hs ht:Int} {a:Option Addr} {n c:Nat} {l:List Tr} {X:Int} {D:Nat} {o:Option Obj} {a0:Act} {f:Nat->Bool} {a':Act} {W W':World}
end
section
variable {w:World} {G S I J:Int} {la:Option Addr} {N:Nat} {L:Nat->Nat->Int} {hs ht:Int} {av:Value} {nn E:Int} {W W':World}
theorem mL{b:Nat}{u:Value}(hA:At W b T #[u]):KeepsFrom B W (W.setCell ⟨b,0,none⟩ v):=(az.setCell W ⟨b,0,none⟩ v).keeps (hA.cell (i:=0) rfl)
theorem Dt{size:Nat}(ho:W.ownsRow base e size v k xs)(hg:W.grownBy W' v.ownBlock):KeepsFrom B W W':=
 ⟨hg.size,λi o _ hi hc=>by
  refine(hg.block i (Array.getElem?_eq_some_iff.1 hi).1 (λe=> ?_)).trans hi;rcases ho.2 with⟨hv,_⟩|⟨g',cap',cur,hv,hbg,hg',_⟩
  ·subst hv;cases e
  subst hv;have:i=g':=by simpa[Value.ownBlock] using e
  subst this;rw[hi] at hg';injection hg' with hg'
  subst hg';cases hc⟩
end
end Go.Proofs.YtphamecphmbipaaGreatDoor
