/- Texts of this claim, merged by a program (a claim may have 60 files): Val, Val2, ValL, Pre. -/
import Derived.Test.YtphamecphmbipaaGreatDoorK06
import Derived.Test.YtphamecphmbipaaGreatDoorK12
namespace Go.Proofs.YtphamecphmbipaaGreatDoor.Vl
open Go.RowKit Go.Proofs.YtphamecphmbipaaGreatDoor
set_option linter.unusedVariables false
def dst (L:List Oper) (n:Nat):Option Nat:=(L[n]?).bind (·.dst)
def dstB (L:List Oper) (sz:Nat):Bool :=
 (List.range L.length).all fun n => match dst L n with
  | none => true
  | some d => decide (d < sz) && (List.range L.length).all fun m => m == n || dst L m != some d
theorem dstB_lt {L:List Oper} {sz:Nat} (h:dstB L sz = true) {n d:Nat} (hd:dst L n = some d):d < sz:=by
 unfold dstB at h
 rw [List.all_eq_true] at h
 have hn:n < L.length:=by
  unfold dst at hd
  cases hl:L[n]? with
  | none => rw [hl] at hd;cases hd
  | some o => exact (List.getElem?_eq_some_iff.1 hl).1
 have:=h n (List.mem_range.2 hn)
 rw [hd] at this
 simp only [Bool.and_eq_true,decide_eq_true_eq] at this
 exact this.1
theorem dstB_ne {L:List Oper} {sz:Nat} (h:dstB L sz = true) {n m d:Nat} (hd:dst L n = some d) (hm:m ≠ n):dst L m ≠ some d:=by
 unfold dstB at h
 rw [List.all_eq_true] at h
 have hn:n < L.length:=by
  unfold dst at hd
  cases hl:L[n]? with
  | none => rw [hl] at hd;cases hd
  | some o => exact (List.getElem?_eq_some_iff.1 hl).1
 have h1:=h n (List.mem_range.2 hn)
 rw [hd] at h1
 simp only [Bool.and_eq_true] at h1
 intro e
 have hml:m < L.length:=by
  unfold dst at e
  cases hl:L[m]? with
  | none => rw [hl] at e;cases e
  | some o => exact (List.getElem?_eq_some_iff.1 hl).1
 have h2:=(List.all_eq_true.1 h1.2) m (List.mem_range.2 hml)
 rw [e] at h2
 simp [hm] at h2
structure I (L:List Oper) (V:Nat → Value → World → Prop) (S:(Nat → Bool) → World → Prop) (a0:Act) (l:Nat → Bool) (a:Act) (W:World):Prop where
 defers:a.defers = a0.defers
 size:a.tmps.size = a0.tmps.size
 other:∀ k,(∀ i,l i = true → dst L i ≠ some k) → a.tmps.getD k undef = a0.tmps.getD k undef
 vals:∀ i d,l i = true → dst L i = some d → V i (a.tmps.getD d undef) W
 st:S l W
section
variable {P:Program} {L:List Oper} {V:Nat → Value → World → Prop} {S:(Nat → Bool) → World → Prop} {a0:Act} {l:Nat → Bool} {a:Act} {W W':World}
theorem I.next (h:I L V S a0 l a W) {sz:Nat} (hB:dstB L a0.tmps.size = true) (n:Nat) {o:Oper} (ho:L[n]? = some o) (v:Value) (hl:l n = false) (hV:∀ i v,l i = true → V i v W → V i v W') (hv:V n v W') (hS:S (fun j => j == n || l j) W') :
  I L V S a0 (fun j => j == n || l j) (a.put o.dst v) W':=by
 have hdn:dst L n = o.dst:=by unfold dst;rw [ho];rfl
 cases hd:o.dst with
 | none =>
  refine ⟨h.defers,h.size,fun k hk => h.other k fun i hi => hk i (by show (i == n || l i) = true;rw [hi,Bool.or_true]),fun i d hi he => ?_,hS⟩
  by_cases e:i = n
  ·subst e;rw [hdn,hd] at he;cases he
  ·have hi':l i = true:=by
    have:(i == n || l i) = true:=hi
    rwa [show (i == n) = false by simpa using e,Bool.false_or] at this
   exact hV i _ hi' (h.vals i d hi' he)
 | some d =>
  have hlt:=dstB_lt hB (n:=n) (d:=d) (by rw [hdn,hd])
  refine ⟨h.defers,(Tb.put_size _ _ _).trans h.size,fun k hk => ?_,fun i d' hi he => ?_,hS⟩
  ·have hkd:k ≠ d:=fun e => hk n (by show (n == n || l n) = true;simp) (by rw [hdn,hd,e])
   rw [Tb.put_other _ _ _ _ hkd]
   exact h.other k fun i hi => hk i (by show (i == n || l i) = true;rw [hi,Bool.or_true])
  ·by_cases e:i = n
   ·subst e
    rw [hdn,hd] at he
    injection he with he
    subst he
    rw [Tb.put_same _ _ _ (by rw [h.size];exact hlt)]
    exact hv
   ·have hi':l i = true:=by
     have:(i == n || l i) = true:=hi
     rwa [show (i == n) = false by simpa using e,Bool.false_or] at this
    have hdd:d' ≠ d:=fun e2 => dstB_ne hB (n:=n) (d:=d) (by rw [hdn,hd]) e (by rw [he,e2])
    rw [Tb.put_other _ _ _ _ hdd]
    exact hV i _ hi' (h.vals i d' hi' he)
theorem step {ops:Array Oper} {Q:Exit → Act → World → Prop} {n:Nat} {o:Oper} (h:I L V S a0 l a W) (hB:dstB L a0.tmps.size = true) (hn:ops[n]? = some o) (hnL:L[n]? = some o) (hg:o.guard = none) (hl:l n = false)
  (hw:o.wp P a W (fun a' W' => ∃ v,a' = a.put o.dst v ∧ (∀ i v,l i = true → V i v W → V i v W') ∧ V n v W' ∧ S (fun j => j == n || l j) W') Q):wpOp P ops Q n (I L V S a0 (fun j => j == n || l j)) a W:=by
 refine Tb.wpOp_of hn hg ?_
 refine Oper.wp_mono (fun a' W' h' => ?_) hw
 obtain ⟨v,rfl,h1,h2,h3⟩:=h'
 exact h.next (sz:=0) hB n hnL v hl h1 h2 h3
end
end Go.Proofs.YtphamecphmbipaaGreatDoor.Vl

namespace Go.Proofs.YtphamecphmbipaaGreatDoor.Vl
open Go.RowKit Go.Proofs.YtphamecphmbipaaGreatDoor
set_option linter.unusedVariables false
section
variable {P:Program} {W:World} {o:Oper} {a:Act}
theorem r_move {v:Value} (x:Operand) (ho:o.op = .move x) (hx:a.eval x = v):(execOp a.eval o).run P W = .ok (.value v) W:=by simp [execOp,ho,hx]
theorem r_assign {v:Value} (x:Operand) (ho:o.op = .assign x) (hx:a.eval x = v):(execOp a.eval o).run P W = .ok (.value v) W:=by simp [execOp,ho,hx]
theorem r_extract {v:Value} (x:Operand) (i:Nat) (vs:Array Value) (ho:o.op = .extract x i) (hx:a.eval x = .tuple vs) (hv:vs[i]? = some v):(execOp a.eval o).run P W = .ok (.value v) W:=by
 simp [execOp,ho,hx,Instr.extract,hv]
theorem r_call2 (f:FuncId) (x y:Operand) (tys:Array TypeId) (u v:Value) (ho:o.op = .call { callee:=.value (.func f),args:=#[x,y],argTypes:=tys }) (hx:a.eval x = u) (hy:a.eval y = v)
  (hr:((do let d ← Deferred.ofValue (a.eval (.func f)) #[u,v];invoke d.target d.args):Sem Next).run P W = .ok (.enter f #[u,v]) W):(execOp a.eval o).run P W = .ok (.enter f #[u,v]) W:=by
 rw [← hr]
 unfold execOp
 rw [ho]
 simp only [resolve]
 simp [hx,hy]
theorem op_call {K:Act → World → Prop} {Q:Exit → Act → World → Prop} (f:FuncId) (args:Array Value) (hrun:(execOp a.eval o).run P W = .ok (.enter f args) W) (hc:Calls P f args W fun e W' => ∃ v,e = .returned v ∧ K (a.put o.dst v) W'):o.wp P a W K Q:=by
 unfold Oper.wp;rw [hrun]
 refine hc.mono ?_
 rintro e W' ⟨v,rfl,h⟩
 exact h
theorem foldl_put (a:Act):∀ (ds:List Nat) (x:Act),(ds.foldl (fun x d => x.put (some d) (a.tmps.getD d undef)) x).defers = x.defers ∧ (ds.foldl (fun x d => x.put (some d) (a.tmps.getD d undef)) x).tmps.size = x.tmps.size ∧
  ∀ k,k < x.tmps.size → ((ds.foldl (fun x d => x.put (some d) (a.tmps.getD d undef)) x).tmps.getD k undef = if k ∈ ds then a.tmps.getD k undef else x.tmps.getD k undef)
 | [],x => ⟨rfl,rfl,fun k _ => by simp⟩
 | d :: ds,x => by
  obtain ⟨h1,h2,h3⟩:=foldl_put a ds (x.put (some d) (a.tmps.getD d undef))
  rw [List.foldl_cons]
  refine ⟨h1.trans rfl,h2.trans (Tb.put_size _ _ _),fun k hk => ?_⟩
  rw [h3 k (by rw [Tb.put_size];exact hk)]
  by_cases hm:k ∈ ds
  ·rw [if_pos hm,if_pos (List.mem_cons_of_mem _ hm)]
  ·rw [if_neg hm]
   by_cases e:k = d
   ·subst e
    rw [if_pos (List.mem_cons_self ..),Tb.put_same _ _ _ hk]
   ·rw [if_neg (by simp [e,hm]),Tb.put_other _ _ _ _ e]
theorem I.all {L:List Oper} {V:Nat → Value → World → Prop} {S:(Nat → Bool) → World → Prop} {a0:Act} (h:I L V S a0 (fun _ => true) a W) (ds:List Nat) (hd:∀ i d,dst L i = some d → d ∈ ds):a = ds.foldl (fun x d => x.put (some d) (a.tmps.getD d undef)) a0:=by
 obtain ⟨h1,h2,h3⟩:=foldl_put a ds a0
 generalize (ds.foldl (fun x d => x.put (some d) (a.tmps.getD d undef)) a0) = y at h1 h2 h3
 have hs:a.tmps = y.tmps:=by
  refine Array.ext (h.size.trans h2.symm) fun k hk1 hk2 => ?_
  have e:a.tmps.getD k undef = y.tmps.getD k undef:=by
   rw [h3 k (by rw [← h.size];exact hk1)]
   by_cases hm:k ∈ ds
   ·rw [if_pos hm]
   ·rw [if_neg hm]
    exact h.other k fun i _ e => hm (hd i k e)
  rw [Array.getD_eq_getD_getElem?,Array.getD_eq_getD_getElem?,Array.getElem?_eq_getElem hk1,Array.getElem?_eq_getElem hk2] at e
  exact e
 have hdf:a.defers = y.defers:=h.defers.trans h1.symm
 cases a
 cases y
 simp only at hs hdf
 rw [hs,hdf]
end
end Go.Proofs.YtphamecphmbipaaGreatDoor.Vl

namespace Go.Proofs.YtphamecphmbipaaGreatDoor.Vm
open Go.RowKit Go.Proofs.YtphamecphmbipaaGreatDoor Go.Proofs.YtphamecphmbipaaGreatDoor.Vl
set_option linter.unusedVariables false
structure I (L:List Oper) (V:(Nat → Bool) → Nat → Value → World → Prop) (S:(Nat → Bool) → World → Prop) (a0:Act) (l:Nat → Bool) (a:Act) (W:World):Prop where
 defers:a.defers = a0.defers
 size:a.tmps.size = a0.tmps.size
 other:∀ k,(∀ i,l i = true → dst L i ≠ some k) → a.tmps.getD k undef = a0.tmps.getD k undef
 vals:∀ i d,l i = true → dst L i = some d → V l i (a.tmps.getD d undef) W
 st:S l W
section
variable {P:Program} {L:List Oper} {V:(Nat → Bool) → Nat → Value → World → Prop} {S:(Nat → Bool) → World → Prop} {a0:Act} {l:Nat → Bool} {a:Act} {W W':World}
theorem I.old (h:I L V S a0 l a W) (k:Nat) (hk:(List.range L.length).all (fun i => dst L i != some k) = true):a.tmps.getD k undef = a0.tmps.getD k undef:=by
 refine h.other k fun i _ e => ?_
 have hi:i < L.length:=by
  unfold dst at e
  cases hl:L[i]? with
  | none => rw [hl] at e;cases e
  | some o => exact (List.getElem?_eq_some_iff.1 hl).1
 have:=(List.all_eq_true.1 hk) i (List.mem_range.2 hi)
 rw [e] at this
 simp at this
theorem I.next (h:I L V S a0 l a W) {sz:Nat} (hB:dstB L a0.tmps.size = true) (n:Nat) {o:Oper} (ho:L[n]? = some o) (v:Value) (hl:l n = false) (hV:∀ i d,l i = true → dst L i = some d → V l i (a.tmps.getD d undef) W → V (fun j => j == n || l j) i (a.tmps.getD d undef) W') (hv:V (fun j => j == n || l j) n v W') (hS:S (fun j => j == n || l j) W') :
  I L V S a0 (fun j => j == n || l j) (a.put o.dst v) W':=by
 have hdn:dst L n = o.dst:=by unfold dst;rw [ho];rfl
 cases hd:o.dst with
 | none =>
  refine ⟨h.defers,h.size,fun k hk => h.other k fun i hi => hk i (by show (i == n || l i) = true;rw [hi,Bool.or_true]),fun i d hi he => ?_,hS⟩
  by_cases e:i = n
  ·subst e;rw [hdn,hd] at he;cases he
  ·have hi':l i = true:=by
    have:(i == n || l i) = true:=hi
    rwa [show (i == n) = false by simpa using e,Bool.false_or] at this
   exact hV i d hi' he (h.vals i d hi' he)
 | some d =>
  have hlt:=dstB_lt hB (n:=n) (d:=d) (by rw [hdn,hd])
  refine ⟨h.defers,(Tb.put_size _ _ _).trans h.size,fun k hk => ?_,fun i d' hi he => ?_,hS⟩
  ·have hkd:k ≠ d:=fun e => hk n (by show (n == n || l n) = true;simp) (by rw [hdn,hd,e])
   rw [Tb.put_other _ _ _ _ hkd]
   exact h.other k fun i hi => hk i (by show (i == n || l i) = true;rw [hi,Bool.or_true])
  ·by_cases e:i = n
   ·subst e
    rw [hdn,hd] at he
    injection he with he
    subst he
    rw [Tb.put_same _ _ _ (by rw [h.size];exact hlt)]
    exact hv
   ·have hi':l i = true:=by
     have:(i == n || l i) = true:=hi
     rwa [show (i == n) = false by simpa using e,Bool.false_or] at this
    have hdd:d' ≠ d:=fun e2 => dstB_ne hB (n:=n) (d:=d) (by rw [hdn,hd]) e (by rw [he,e2])
    rw [Tb.put_other _ _ _ _ hdd]
    exact hV i d' hi' he (h.vals i d' hi' he)
theorem wp_region_val (V:(Nat → Bool) → Nat → Value → World → Prop) (S:(Nat → Bool) → World → Prop) {id:Nat} {Q:Exit → Act → World → Prop} {w:World} (hm:P.follows .mixedOrders = true) (hd:downB .any L.toArray = true)
  (hVl:∀ l l',(∀ i,i < L.length → l i = l' i) → ∀ i v w,V l i v w → V l' i v w) (hS:∀ l l' w,(∀ i,i < L.length → l i = l' i) → S l w → S l' w) (h0:S (fun _ => false) { w with drawn:=w.drawn + 1 }) (hst:dstB L a.tmps.size = true → StepsI P .any L.toArray Q (I L V S a) 0 L)
  (hB:dstB L a.tmps.size = true) (hend:∀ a' w',I L V S a (fun _ => true) a' w' → Q .normal a' w'):(Code.region id L.toArray true).wp P Q a w:=by
 refine wp_region_inv (I L V S a) hm hd (fun l l' a' w' he h => ?_) ⟨rfl,rfl,fun _ _ => rfl,(fun i d h => by cases h),h0⟩ (hst hB) hend
 have hlt:∀ {i d},dst L i = some d → i < L.length:=fun {i d} e => by
  unfold dst at e
  cases hl:L[i]? with
  | none => rw [hl] at e;cases e
  | some o => exact (List.getElem?_eq_some_iff.1 hl).1
 exact ⟨h.defers,h.size,fun k hk => h.other k fun i hi e => hk i (by rw [← he i (hlt e)];exact hi) e,fun i d hi e => hVl l l' he i _ w' (h.vals i d (by rw [he i (hlt e)];exact hi) e),hS l l' w' he h.st⟩
theorem step {ops:Array Oper} {Q:Exit → Act → World → Prop} {n:Nat} {o:Oper} (h:I L V S a0 l a W) (hB:dstB L a0.tmps.size = true) (hn:ops[n]? = some o) (hnL:L[n]? = some o) (hg:o.guard = none) (hl:l n = false)
  (hw:o.wp P a W (fun a' W' => ∃ v,a' = a.put o.dst v ∧ (∀ i d,l i = true → dst L i = some d → V l i (a.tmps.getD d undef) W → V (fun j => j == n || l j) i (a.tmps.getD d undef) W') ∧ V (fun j => j == n || l j) n v W' ∧ S (fun j => j == n || l j) W') Q):wpOp P ops Q n (I L V S a0 (fun j => j == n || l j)) a W:=by
 refine Tb.wpOp_of hn hg ?_
 refine Oper.wp_mono (fun a' W' h' => ?_) hw
 obtain ⟨v,rfl,h1,h2,h3⟩:=h'
 exact h.next (sz:=0) hB n hnL v hl h1 h2 h3
theorem stepQ {ops:Array Oper} {Q:Exit → Act → World → Prop} {n:Nat} {o:Oper} (h:I L V S a0 l a W) (hB:dstB L a0.tmps.size = true) (hn:ops[n]? = some o) (hnL:L[n]? = some o) (hg:o.guard = none) (hl:l n = false)
  (v:Value) (hr:(execOp a.eval o).run P W = .ok (.value v) W) (hVq:∀ i v,V l i v W → V (fun j => j == n || l j) i v W) (hv:V (fun j => j == n || l j) n v W) (hS:S l W → S (fun j => j == n || l j) W):wpOp P ops Q n (I L V S a0 (fun j => j == n || l j)) a W :=
 step h hB hn hnL hg hl (op_val hr ⟨v,rfl,fun _ _ _ _ h => hVq _ _ h,hv,hS h.st⟩)
end
end Go.Proofs.YtphamecphmbipaaGreatDoor.Vm

namespace Go.Proofs.YtphamecphmbipaaGreatDoor.Vp
open Go.RowKit Go.Proofs.YtphamecphmbipaaGreatDoor
set_option linter.unusedVariables false
def preOp (md:Region.Mode) (L:List Oper) (n:Nat) (o:Oper):Bool :=
 (match o.guard with | none => true | some _ => false) && (match o.op with | .select _ _ => false | _ => true) && (match o.dst with | none => false | some _ => true) &&
 (List.range L.length).all fun j => match Vl.dst L j with
  | none => true
  | some d => !Tb.readsT o d || (decide (j < n) && o.after.any fun e => Region.binds md e && e.on == j)
def preB (md:Region.Mode) (L:List Oper) (n:Nat):Bool:=decide (n ≤ L.length) && (L.take n).all (preOp md L n)
section
variable {P:Program} {L:List Oper} {V:(Nat → Bool) → Nat → Value → World → Prop} {S:(Nat → Bool) → World → Prop} {a:Act}
theorem dst_some {i d:Nat} (h:Vl.dst L i = some d):∃ o,L[i]? = some o ∧ o.dst = some d:=by
 unfold Vl.dst at h
 cases hl:L[i]? with
 | none => rw [hl] at h;cases h
 | some o => rw [hl] at h;exact ⟨o,rfl,h⟩
theorem dst_of {i d:Nat} {o:Oper} (h:L[i]? = some o) (hd:o.dst = some d):Vl.dst L i = some d:=by
 unfold Vl.dst;rw [h];exact hd
structure POk (md:Region.Mode) (L:List Oper) (n:Nat) (o:Oper):Prop where
 g:o.guard = none
 s:∀ cs b,o.op ≠ .select cs b
 d:∃ d,o.dst = some d
 r:∀ j d,Vl.dst L j = some d → Tb.readsT o d = true → j < n ∧ ∃ e ∈ o.after,Region.binds md e = true ∧ e.on = j
theorem pok {md:Region.Mode} {n:Nat} (h:preB md L n = true) {i:Nat} {o:Oper} (hi:L[i]? = some o) (hn:i < n):POk md L n o:=by
 unfold preB at h
 rw [Bool.and_eq_true,List.all_eq_true] at h
 have hm:o ∈ L.take n:=List.mem_of_getElem? (i:=i) (by rw [List.getElem?_take,if_pos hn];exact hi)
 have h1:=h.2 o hm
 unfold preOp at h1
 simp only [Bool.and_eq_true] at h1
 obtain ⟨⟨⟨hg,hs⟩,hd⟩,hr⟩:=h1
 have k1:o.guard = none:=by cases hgg:o.guard with | none => rfl | some x => rw [hgg] at hg;cases hg
 have k3:∃ d,o.dst = some d:=by
  cases hdd:o.dst with
  | none => rw [hdd] at hd;cases hd
  | some x => exact ⟨x,rfl⟩
 refine ⟨k1,fun cs b e => (by rw [e] at hs;cases hs),k3,fun j d hj hrd => ?_⟩
 obtain ⟨oj,hoj,_⟩:=dst_some hj
 have h2:=(List.all_eq_true.1 hr) j (List.mem_range.2 (List.getElem?_eq_some_iff.1 hoj).1)
 rw [hj] at h2
 simp only [hrd,Bool.not_true,Bool.false_or,Bool.and_eq_true,decide_eq_true_eq,Array.any_eq_true'] at h2
 obtain ⟨h3,e,he,hbe⟩:=h2
 simp only [beq_iff_eq] at hbe
 exact ⟨h3,e,he,hbe.1,hbe.2⟩
def W (L:List Oper) (n:Nat) (A:Act) (V:(Nat → Bool) → Nat → Value → World → Prop) (l:Nat → Bool) (i:Nat) (v:Value) (w:World):Prop :=
 if i < n then v = A.tmps.getD ((Vl.dst L i).getD 0) undef else V l i v w
theorem W.pre {n:Nat} {A:Act} {l:Nat → Bool} {i:Nat} {v:Value} {w:World} (h:W L n A V l i v w) (hi:i < n) {d:Nat} (hd:Vl.dst L i = some d):v = A.tmps.getD d undef:=by
 unfold W at h
 rw [if_pos hi,hd] at h
 exact h
theorem W.post {n:Nat} {A:Act} {l:Nat → Bool} {i:Nat} {v:Value} {w:World} (h:W L n A V l i v w) (hi:¬ i < n):V l i v w:=by
 unfold W at h
 rwa [if_neg hi] at h
theorem W.up {n:Nat} {A:Act} {l l':Nat → Bool} {i:Nat} {v:Value} {w w':World} (h:W L n A V l i v w) (hv:¬ i < n → V l i v w → V l' i v w'):W L n A V l' i v w':=by
 unfold W at h ⊢
 split
 ·rwa [if_pos (by assumption)] at h
 ·rw [if_neg (by assumption)] at h
  exact hv (by assumption) h
theorem W.mk {n:Nat} {A:Act} {l:Nat → Bool} {i:Nat} {v:Value} {w:World} (hi:¬ i < n) (h:V l i v w):W L n A V l i v w:=by
 unfold W
 rwa [if_neg hi]
theorem all {n:Nat} {A:Act} {a':Act} {w':World} (h:Vm.I L (W L n A V) S a (fun _ => true) a' w') (hA:A.defers = a.defers) (hz:A.tmps.size = a.tmps.size) (ho:∀ s,(∀ i,Vl.dst L i ≠ some s) → A.tmps.getD s undef = a.tmps.getD s undef) (ds:List Nat) (hds:∀ i d,¬ i < n → Vl.dst L i = some d → d ∈ ds) :
  a' = ds.foldl (fun x d => x.put (some d) (a'.tmps.getD d undef)) A:=by
 obtain ⟨h1,h2,h3⟩:=Vl.foldl_put a' ds A
 generalize (ds.foldl (fun x d => x.put (some d) (a'.tmps.getD d undef)) A) = y at h1 h2 h3
 have hs:a'.tmps = y.tmps:=by
  refine Array.ext (h.size.trans (hz.symm.trans h2.symm)) fun k hk1 hk2 => ?_
  have e:a'.tmps.getD k undef = y.tmps.getD k undef:=by
   rw [h3 k (by rw [hz,← h.size];exact hk1)]
   by_cases hm:k ∈ ds
   ·rw [if_pos hm]
   ·rw [if_neg hm]
    by_cases hw:∃ i,Vl.dst L i = some k
    ·obtain ⟨i,hi⟩:=hw
     have hin:i < n:=Classical.byContradiction fun e => hm (hds i k e hi)
     exact (h.vals i k rfl hi).pre hin hi
    ·have hw:∀ i,Vl.dst L i ≠ some k:=fun i e => hw ⟨i,e⟩
     rw [ho k hw]
     exact h.other k fun i _ => hw i
  rw [Array.getD_eq_getD_getElem?,Array.getD_eq_getD_getElem?,Array.getElem?_eq_getElem hk1,Array.getElem?_eq_getElem hk2] at e
  exact e
 have hdf:a'.defers = y.defers:=h.defers.trans (hA.symm.trans h1.symm)
 cases a'
 cases y
 simp only at hs hdf
 rw [hs,hdf]
theorem wp_region_pre (n:Nat) (V:(Nat → Bool) → Nat → Value → World → Prop) (S:(Nat → Bool) → World → Prop) (C:World → Prop) (A:Act) {id:Nat} {Q:Exit → Act → World → Prop} {w:World} (hm:P.follows .mixedOrders = true) (hd:downB .any L.toArray = true) (hpre:preB .any L n = true) (hB:Vl.dstB L a.tmps.size = true)
  (hVl:∀ l l',(∀ i,n ≤ i → i < L.length → l i = l' i) → ∀ i v w,V l i v w → V l' i v w) (hS:∀ l l' w,(∀ i,n ≤ i → i < L.length → l i = l' i) → S l w → S l' w) (hSC:∀ l w,S l w → C w)
  (hVb:∀ l i v W W',V l i v W → Below W.heap.size W W' → V l i v W') (hSb:∀ l W W',S l W → Below W.heap.size W W' → C W' → S l W') (h0:S (fun _ => false) { w with drawn:=w.drawn + 1 })
  (hwalk:∀ R:World → Prop,(∀ W W',R W → Below W.heap.size W W' → R W') → Nonempty (InW (fun W => C W ∧ R W)) → wpQuiet P (L.take n).toArray (fun w' => ∃ s:InW (fun W => C W ∧ R W),w' = s.W) (fun a' => a' = A) (L.take n) a)
  (hst:StepsI P .any L.toArray Q (Vm.I L (W L n A V) S a) n (L.drop n))
  (hend:∀ a' w',Vm.I L (W L n A V) S a (fun _ => true) a' w' → (∀ ds:List Nat,(List.range L.length).all (fun i => decide (i < n) || match Vl.dst L i with | none => true | some d => ds.contains d) = true → a' = ds.foldl (fun x d => x.put (some d) (a'.tmps.getD d undef)) A) → Q .normal a' w'):(Code.region id L.toArray true).wp P Q a w:=by
 have hn:n ≤ L.length:=by unfold preB at hpre;rw [Bool.and_eq_true,decide_eq_true_eq] at hpre;exact hpre.1
 have htk:∀ {o},o ∈ L.take n → ∃ i,i < n ∧ L[i]? = some o:=fun {o} ho => by
  obtain ⟨i,hi⟩:=List.getElem?_of_mem ho
  rw [List.getElem?_take] at hi
  split at hi
  ·exact ⟨i,by assumption,hi⟩
  ·cases hi
 have hlt:∀ {i d},Vl.dst L i = some d → i < L.length:=fun {i d} e => by
  obtain ⟨o,ho,_⟩:=dst_some e
  exact (List.getElem?_eq_some_iff.1 ho).1
 have getW:∀ R:World → Prop,(∀ W W',R W → Below W.heap.size W W' → R W') → (∃ W,C W ∧ R W) → A.defers = a.defers ∧ A.tmps.size = a.tmps.size ∧ (∀ s,(∀ o ∈ L.take n,o.dst ≠ some s) → A.tmps.getD s undef = a.tmps.getD s undef) ∧
   ∀ (o:Oper),o ∈ L.take n → ∀ d,o.dst = some d → ∀ w,(∃ s:InW (fun W => C W ∧ R W),w = s.W) → o.quietAt P A (fun w' => ∃ s:InW (fun W => C W ∧ R W),w' = s.W) w (A.tmps.getD d undef):=fun R hR ⟨W,hW⟩ => by
  refine Tb.walk_get (C:=fun w' => ∃ s:InW (fun W => C W ∧ R W),w' = s.W) (L.take n) a (fun o ho => ?_) ?_ (fun o ho d hdo => ?_) (hwalk R hR ⟨⟨W,hW⟩⟩)
  ·obtain ⟨i,hin,hi⟩:=htk ho
   have k:=pok hpre hi hin
   obtain ⟨d,hdd⟩:=k.d
   exact ⟨k.g,k.s,d,hdd,Vl.dstB_lt hB (dst_of hi hdd)⟩
  ·refine List.pairwise_iff_getElem.2 fun i j hi hj hij => ?_
   have hin:i < n:=by rw [List.length_take] at hi;omega
   have hjn:j < n:=by rw [List.length_take] at hj;omega
   have ei:L[i]? = some (L.take n)[i]:=by rw [List.getElem_take];exact List.getElem?_eq_getElem _
   have ej:L[j]? = some (L.take n)[j]:=by rw [List.getElem_take];exact List.getElem?_eq_getElem _
   refine ⟨fun e => ?_,fun d hdy => ?_⟩
   ·obtain ⟨d,hdd⟩:=(pok hpre ei hin).d
    exact Vl.dstB_ne hB (dst_of ei hdd) (m:=j) (by omega) (dst_of ej (by rw [← e,hdd]))
   ·cases hr:Tb.readsT (L.take n)[i] d with
    | false => rfl
    | true =>
     obtain ⟨_,e,he,hb,hon⟩:=(pok hpre ei hin).r j d (dst_of ej hdy) hr
     have:=downB_spec hd (i:=i) (o:=_) (by rw [List.getElem?_toArray];exact ei) he hb
     omega
  ·obtain ⟨i,hin,hi⟩:=htk ho
   cases hr:Tb.readsT o d with
   | false => rfl
   | true =>
    obtain ⟨_,e,he,hb,hon⟩:=(pok hpre hi hin).r i d (dst_of hi hdo) hr
    have:=downB_spec hd (i:=i) (by simpa using hi) he hb
    omega
 refine Vm.wp_region_val (W L n A V) S hm hd (fun l l' he i v w h => ?_) (fun l l' w he => hS l l' w fun i _ hi => he i hi) h0 (fun _ => ?_) hB (fun a' w' h => hend a' w' h fun ds hds => ?_)
 ·unfold W at h ⊢
  split
  ·rwa [if_pos (by assumption)] at h
  ·rw [if_neg (by assumption)] at h
   exact hVl l l' (fun i _ hi => he i hi) i v w h
 rotate_left
 ·obtain ⟨W,hW⟩:∃ W,C W ∧ True:=⟨_,hSC _ _ h0,trivial⟩
  obtain ⟨g1,g2,g3,_⟩:=getW (fun _ => True) (fun _ _ _ _ => trivial) ⟨W,hW⟩
  refine all h g1 g2 (fun s hs => g3 s fun o ho e => ?_) ds fun i d hin hd => ?_
  ·obtain ⟨i,_,hi⟩:=htk ho
   exact hs i (dst_of hi e)
  ·have:=(List.all_eq_true.1 hds) i (List.mem_range.2 (hlt hd))
   rw [hd] at this
   simpa [hin] using this
 have key:∀ i o,i < n → L[i]? = some o → ∀ l a' w',l i = false → upB .any o l = true → Vm.I L (W L n A V) S a l a' w' → wpOp P L.toArray Q i (Vm.I L (W L n A V) S a (fun j => j == i || l j)) a' w':=by
  intro i o hin hi l a' w' hl hu h
  have k:=pok hpre hi hin
  obtain ⟨d,hdd⟩:=k.d
  have hmem:o ∈ L.take n:=List.mem_of_getElem? (i:=i) (by rw [List.getElem?_take,if_pos hin];exact hi)
  obtain ⟨_,_,hoth,hq⟩:=getW (fun W => Below w'.heap.size w' W) (fun W W' h1 h2 => h1.trans (h2.mono h1.size)) ⟨w',hSC l w' h.st,Below.refl _ _⟩
  have hqo:=hq o hmem d hdd
  have hev:execOp a'.eval o = execOp A.eval o:=execOp_congr o k.s fun y hy => Tb.eval_same fun s hs => by
   have hrd:=Tb.reads_mem hy hs
   by_cases hw:∃ j,Vl.dst L j = some s
   ·obtain ⟨j,hj⟩:=hw
    obtain ⟨hjn,e,he,hb,hon⟩:=k.r j s hj hrd
    have hlj:l j = true:=by rw [← hon];exact Tb.up_of hu he hb
    exact (h.vals j s hlj hj).pre hjn hj
   ·have hw:∀ j,Vl.dst L j ≠ some s:=fun j e => hw ⟨j,e⟩
    rw [hoth s fun o2 ho2 e => by
     obtain ⟨j,_,hj⟩:=htk ho2
     exact hw j (dst_of hj e)]
    exact h.other s fun j _ => hw j
  have hi':L.toArray[i]? = some o:=by simpa using hi
  have hVl':∀ (l':Nat → Bool),(∀ j,n ≤ j → j < L.length → l j = l' j) → ∀ j v W',V l j v W' → V l' j v W':=fun l' he j v W' => hVl l l' he j v W'
  have hup:∀ j,n ≤ j → j < L.length → l j = (fun j => j == i || l j) j:=fun j hj _ => by
   show l j = (j == i || l j)
   rw [show (j == i) = false by simp;omega,Bool.false_or]
  refine Tb.wpOp_of hi' k.g (Oper.wp_of_quiet (C:=fun w1 => ∃ s:InW (fun W => C W ∧ Below w'.heap.size w' W),w1 = s.W) (K:=fun b => b = a'.put (some d) (A.tmps.getD d undef)) ⟨⟨w',hSC l w' h.st,Below.refl _ _⟩,rfl⟩ (fun b W' hWW hb => ?_) ⟨A.tmps.getD d undef,fun W' hWW => ?_,by rw [hdd]⟩)
  ·obtain ⟨s0,rfl⟩:=hWW
   have hW:=s0.h
   subst hb
   rw [← hdd]
   refine h.next (sz:=0) hB i hi (A.tmps.getD d undef) hl (fun j dj hlj hdj hv => ?_) ?_ (hS l _ _ hup (hSb l _ _ h.st hW.2 hW.1))
   ·unfold W at hv ⊢
    split
    ·rwa [if_pos (by assumption)] at hv
    ·rw [if_neg (by assumption)] at hv
     exact hVl' _ hup _ _ _ (hVb _ _ _ _ _ hv hW.2)
   ·unfold W
    rw [if_pos hin,dst_of hi hdd];rfl
  ·obtain ⟨s0,rfl⟩:=hWW
   have:=hqo s0.W ⟨s0,rfl⟩
   unfold Oper.quietAt at this ⊢
   rw [hev];exact this
 refine Tb.steps_of L 0 fun i o hi l a' w' hl hu h => ?_
 rw [Nat.zero_add] at hl ⊢
 by_cases hin:i < n
 ·exact key i o hin hi l a' w' hl hu h
 ·have:=StepsI.get (L.drop n) n (i - n) o hst (by rw [List.getElem?_drop,show n + (i - n) = i by omega];exact hi) l a' w' (by rw [show n + (i - n) = i by omega];exact hl) hu h
  rwa [show n + (i - n) = i by omega] at this
end
end Go.Proofs.YtphamecphmbipaaGreatDoor.Vp
