/- Texts of this claim, merged. -/
import Derived.Test.YtphamecphmbipaaGreatDoorK16
import Derived.RegionIn
namespace Go.Proofs.YtphamecphmbipaaGreatDoor.Tb
open Go.RowKit
set_option linter.unusedVariables false
theorem wpOp_of {P:Program} {ops:Array Oper} {Q:Exit → Act → World → Prop} {i:Nat} {o:Oper} {K:Act → World → Prop} {a:Act} {w:World} (hi:ops[i]? = some o) (hg:o.guard = none) (h:o.wp P a w K Q):wpOp P ops Q i K a w:=by
 unfold wpOp
 rw [hi]
 have:Region.wanted o (yielded ops a.tmps) = true:=by unfold Region.wanted;rw [hg]
 simp only [this,if_true]
 exact .inl h
theorem put_size (a:Act) (d:Nat) (v:Value):(a.put (some d) v).tmps.size = a.tmps.size:=by simp [Act.put]
theorem put_same (a:Act) (d:Nat) (v:Value) (h:d < a.tmps.size):(a.put (some d) v).tmps.getD d undef = v:=by simp [Act.put,Array.getD_eq_getD_getElem?,h]
theorem put_other (a:Act) (d s:Nat) (v:Value) (h:s ≠ d):(a.put (some d) v).tmps.getD s undef = a.tmps.getD s undef:=by
 simp only [Act.put,Array.getD_eq_getD_getElem?,Array.getElem?_setIfInBounds_ne (Ne.symm h)]
end Go.Proofs.YtphamecphmbipaaGreatDoor.Tb

namespace Go.Proofs.YtphamecphmbipaaGreatDoor
open Go.RowKit
set_option linter.unusedVariables false
section
variable {P:Program} {w w':World} {o:Oper} {a:Act} {K:Act → World → Prop} {Q:Exit → Act → World → Prop}
theorem op_val {v:Value} (hr:(execOp a.eval o).run P w = .ok (.value v) w') (h:K (a.put o.dst v) w'):o.wp P a w K Q:=by
 unfold Oper.wp;rw [hr];exact h
theorem op_skip (hr:(execOp a.eval o).run P w = .ok .skip w') (h:K (a.put o.dst undef) w'):o.wp P a w K Q:=by
 unfold Oper.wp;rw [hr];exact h
theorem op_up {l:Nat → Bool} (hu:upB .any o l = true) (k:Nat) (hk:(o.after.any fun e => Region.binds .any e && e.on == k) = true):l k = true:=by
 unfold upB at hu
 rw [Array.all_eq_true'] at hu
 rw [Array.any_eq_true'] at hk
 obtain ⟨e,he,hb⟩:=hk
 rw [Bool.and_eq_true] at hb
 have:=hu e he
 rw [hb.1] at this
 have e2:e.on = k:=by simpa using hb.2
 rw [e2] at this
 simpa using this
end
end Go.Proofs.YtphamecphmbipaaGreatDoor

namespace Go.Proofs.YtphamecphmbipaaGreatDoor.Vl
open Go.RowKit Go.Proofs.YtphamecphmbipaaGreatDoor
set_option linter.unusedVariables false
def dst (L:List Oper) (n:Nat):Option Nat:=(L[n]?).bind (·.dst)
def dstB (L:List Oper) (sz:Nat):Bool :=
 (List.range L.length).all fun n => match dst L n with
  | none => true
  | some d => decide (d < sz) && (List.range L.length).all fun m => m == n || dst L m != some d
theorem dstB_lt {L:List Oper} {sz:Nat} (h:dstB L sz = true) {n d:Nat} (hd:dst L n = some d):d < sz:=by
 unfold dstB at h
 rw [List.all_eq_true] at h
 have hn:n < L.length:=by
  unfold dst at hd
  cases hl:L[n]? with
  | none => rw [hl] at hd;cases hd
  | some o => exact (List.getElem?_eq_some_iff.1 hl).1
 have:=h n (List.mem_range.2 hn)
 rw [hd] at this
 simp only [Bool.and_eq_true,decide_eq_true_eq] at this
 exact this.1
theorem dstB_ne {L:List Oper} {sz:Nat} (h:dstB L sz = true) {n m d:Nat} (hd:dst L n = some d) (hm:m ≠ n):dst L m ≠ some d:=by
 unfold dstB at h
 rw [List.all_eq_true] at h
 have hn:n < L.length:=by
  unfold dst at hd
  cases hl:L[n]? with
  | none => rw [hl] at hd;cases hd
  | some o => exact (List.getElem?_eq_some_iff.1 hl).1
 have h1:=h n (List.mem_range.2 hn)
 rw [hd] at h1
 simp only [Bool.and_eq_true] at h1
 intro e
 have hml:m < L.length:=by
  unfold dst at e
  cases hl:L[m]? with
  | none => rw [hl] at e;cases e
  | some o => exact (List.getElem?_eq_some_iff.1 hl).1
 have h2:=(List.all_eq_true.1 h1.2) m (List.mem_range.2 hml)
 rw [e] at h2
 simp [hm] at h2
structure I (L:List Oper) (V:Nat → Value → World → Prop) (S:(Nat → Bool) → World → Prop) (a0:Act) (l:Nat → Bool) (a:Act) (W:World):Prop where
 defers:a.defers = a0.defers
 size:a.tmps.size = a0.tmps.size
 other:∀ k,(∀ i,l i = true → dst L i ≠ some k) → a.tmps.getD k undef = a0.tmps.getD k undef
 vals:∀ i d,l i = true → dst L i = some d → V i (a.tmps.getD d undef) W
 st:S l W
section
variable {P:Program} {L:List Oper} {V:Nat → Value → World → Prop} {S:(Nat → Bool) → World → Prop} {a0:Act} {l:Nat → Bool} {a:Act} {W W':World}
theorem I.next (h:I L V S a0 l a W) {sz:Nat} (hB:dstB L a0.tmps.size = true) (n:Nat) {o:Oper} (ho:L[n]? = some o) (v:Value) (hl:l n = false) (hV:∀ i v,l i = true → V i v W → V i v W') (hv:V n v W') (hS:S (fun j => j == n || l j) W') :
  I L V S a0 (fun j => j == n || l j) (a.put o.dst v) W':=by
 have hdn:dst L n = o.dst:=by unfold dst;rw [ho];rfl
 cases hd:o.dst with
 | none =>
  refine ⟨h.defers,h.size,fun k hk => h.other k fun i hi => hk i (by show (i == n || l i) = true;rw [hi,Bool.or_true]),fun i d hi he => ?_,hS⟩
  by_cases e:i = n
  ·subst e;rw [hdn,hd] at he;cases he
  ·have hi':l i = true:=by
    have:(i == n || l i) = true:=hi
    rwa [show (i == n) = false by simpa using e,Bool.false_or] at this
   exact hV i _ hi' (h.vals i d hi' he)
 | some d =>
  have hlt:=dstB_lt hB (n:=n) (d:=d) (by rw [hdn,hd])
  refine ⟨h.defers,(Tb.put_size _ _ _).trans h.size,fun k hk => ?_,fun i d' hi he => ?_,hS⟩
  ·have hkd:k ≠ d:=fun e => hk n (by show (n == n || l n) = true;simp) (by rw [hdn,hd,e])
   rw [Tb.put_other _ _ _ _ hkd]
   exact h.other k fun i hi => hk i (by show (i == n || l i) = true;rw [hi,Bool.or_true])
  ·by_cases e:i = n
   ·subst e
    rw [hdn,hd] at he
    injection he with he
    subst he
    rw [Tb.put_same _ _ _ (by rw [h.size];exact hlt)]
    exact hv
   ·have hi':l i = true:=by
     have:(i == n || l i) = true:=hi
     rwa [show (i == n) = false by simpa using e,Bool.false_or] at this
    have hdd:d' ≠ d:=fun e2 => dstB_ne hB (n:=n) (d:=d) (by rw [hdn,hd]) e (by rw [he,e2])
    rw [Tb.put_other _ _ _ _ hdd]
    exact hV i _ hi' (h.vals i d' hi' he)
theorem step {ops:Array Oper} {Q:Exit → Act → World → Prop} {n:Nat} {o:Oper} (h:I L V S a0 l a W) (hB:dstB L a0.tmps.size = true) (hn:ops[n]? = some o) (hnL:L[n]? = some o) (hg:o.guard = none) (hl:l n = false)
  (hw:o.wp P a W (fun a' W' => ∃ v,a' = a.put o.dst v ∧ (∀ i v,l i = true → V i v W → V i v W') ∧ V n v W' ∧ S (fun j => j == n || l j) W') Q):wpOp P ops Q n (I L V S a0 (fun j => j == n || l j)) a W:=by
 refine Tb.wpOp_of hn hg ?_
 refine Oper.wp_mono (fun a' W' h' => ?_) hw
 obtain ⟨v,rfl,h1,h2,h3⟩:=h'
 exact h.next (sz:=0) hB n hnL v hl h1 h2 h3
end
end Go.Proofs.YtphamecphmbipaaGreatDoor.Vl

namespace Go.Proofs.YtphamecphmbipaaGreatDoor.Vl
open Go.RowKit Go.Proofs.YtphamecphmbipaaGreatDoor
set_option linter.unusedVariables false
section
variable {P:Program} {W:World} {o:Oper} {a:Act}
theorem r_move {v:Value} (x:Operand) (ho:o.op = .move x) (hx:a.eval x = v):(execOp a.eval o).run P W = .ok (.value v) W:=by simp [execOp,ho,hx]
theorem r_assign {v:Value} (x:Operand) (ho:o.op = .assign x) (hx:a.eval x = v):(execOp a.eval o).run P W = .ok (.value v) W:=by simp [execOp,ho,hx]
theorem r_extract {v:Value} (x:Operand) (i:Nat) (vs:Array Value) (ho:o.op = .extract x i) (hx:a.eval x = .tuple vs) (hv:vs[i]? = some v):(execOp a.eval o).run P W = .ok (.value v) W:=by
 simp [execOp,ho,hx,Instr.extract,hv]
theorem r_mks {v:Value} {W':World} (t:TypeId) (l c:Operand) (x y:Value) (ho:o.op = .makeSlice t l c) (hl:a.eval l = x) (hc:a.eval c = y) (hr:(Instr.makeSlice t x y).run P W = .ok v W'):(execOp a.eval o).run P W = .ok (.value v) W':=by
 simp [execOp,ho,hl,hc,hr]
theorem r_call2 (f:FuncId) (x y:Operand) (tys:Array TypeId) (u v:Value) (ho:o.op = .call { callee:=.value (.func f),args:=#[x,y],argTypes:=tys }) (hx:a.eval x = u) (hy:a.eval y = v)
  (hr:((do let d ← Deferred.ofValue (a.eval (.func f)) #[u,v];invoke d.target d.args):Sem Next).run P W = .ok (.enter f #[u,v]) W):(execOp a.eval o).run P W = .ok (.enter f #[u,v]) W:=by
 rw [← hr]
 unfold execOp
 rw [ho]
 simp only [resolve]
 simp [hx,hy]
theorem op_call {K:Act → World → Prop} {Q:Exit → Act → World → Prop} (f:FuncId) (args:Array Value) (hrun:(execOp a.eval o).run P W = .ok (.enter f args) W) (hc:Calls P f args W fun e W' => ∃ v,e = .returned v ∧ K (a.put o.dst v) W'):o.wp P a W K Q:=by
 unfold Oper.wp;rw [hrun]
 refine hc.mono ?_
 rintro e W' ⟨v,rfl,h⟩
 exact h
theorem foldl_put (a:Act):∀ (ds:List Nat) (x:Act),(ds.foldl (fun x d => x.put (some d) (a.tmps.getD d undef)) x).defers = x.defers ∧ (ds.foldl (fun x d => x.put (some d) (a.tmps.getD d undef)) x).tmps.size = x.tmps.size ∧
  ∀ k,k < x.tmps.size → ((ds.foldl (fun x d => x.put (some d) (a.tmps.getD d undef)) x).tmps.getD k undef = if k ∈ ds then a.tmps.getD k undef else x.tmps.getD k undef)
 | [],x => ⟨rfl,rfl,fun k _ => by simp⟩
 | d :: ds,x => by
  obtain ⟨h1,h2,h3⟩:=foldl_put a ds (x.put (some d) (a.tmps.getD d undef))
  rw [List.foldl_cons]
  refine ⟨h1.trans rfl,h2.trans (Tb.put_size _ _ _),fun k hk => ?_⟩
  rw [h3 k (by rw [Tb.put_size];exact hk)]
  by_cases hm:k ∈ ds
  ·rw [if_pos hm,if_pos (List.mem_cons_of_mem _ hm)]
  ·rw [if_neg hm]
   by_cases e:k = d
   ·subst e
    rw [if_pos (List.mem_cons_self ..),Tb.put_same _ _ _ hk]
   ·rw [if_neg (by simp [e,hm]),Tb.put_other _ _ _ _ e]
theorem I.all {L:List Oper} {V:Nat → Value → World → Prop} {S:(Nat → Bool) → World → Prop} {a0:Act} (h:I L V S a0 (fun _ => true) a W) (ds:List Nat) (hd:∀ i d,dst L i = some d → d ∈ ds):a = ds.foldl (fun x d => x.put (some d) (a.tmps.getD d undef)) a0:=by
 obtain ⟨h1,h2,h3⟩:=foldl_put a ds a0
 generalize (ds.foldl (fun x d => x.put (some d) (a.tmps.getD d undef)) a0) = y at h1 h2 h3
 have hs:a.tmps = y.tmps:=by
  refine Array.ext (h.size.trans h2.symm) fun k hk1 hk2 => ?_
  have e:a.tmps.getD k undef = y.tmps.getD k undef:=by
   rw [h3 k (by rw [← h.size];exact hk1)]
   by_cases hm:k ∈ ds
   ·rw [if_pos hm]
   ·rw [if_neg hm]
    exact h.other k fun i _ e => hm (hd i k e)
  rw [Array.getD_eq_getD_getElem?,Array.getD_eq_getD_getElem?,Array.getElem?_eq_getElem hk1,Array.getElem?_eq_getElem hk2] at e
  exact e
 have hdf:a.defers = y.defers:=h.defers.trans h1.symm
 cases a
 cases y
 simp only at hs hdf
 rw [hs,hdf]
end
end Go.Proofs.YtphamecphmbipaaGreatDoor.Vl

namespace Go.Proofs.YtphamecphmbipaaGreatDoor.Mv
open Go.RowKit Go.Proofs.YtphamecphmbipaaGreatDoor
set_option linter.unusedVariables false
section
variable {P:Program} {ops:Array Oper} {σ:Type} {C:σ → World → Prop}
end
end Go.Proofs.YtphamecphmbipaaGreatDoor.Mv

namespace Go.Proofs.YtphamecphmbipaaGreatDoor
open Go.RowKit
set_option linter.unusedVariables false
section
variable {w:World} {G S I J:Int} {p1 p2 px q n:Nat} {zx zx':Nat → Int} {im im':Nat → Nat → Int} {W W':World}
end
structure MkImg (w:World) (g s i j q:Nat) (w':World):Prop where
 le:w.heap.size ≤ q
 a:RArr w' q 32 256 (2 + j + g * s) (fun b => Ks .u8 256 (mkB g s i j b))
 bel:Below w.heap.size w w'
end Go.Proofs.YtphamecphmbipaaGreatDoor

namespace Go.Proofs.YtphamecphmbipaaGreatDoor.Vm
open Go.RowKit Go.Proofs.YtphamecphmbipaaGreatDoor Go.Proofs.YtphamecphmbipaaGreatDoor.Vl
set_option linter.unusedVariables false
structure I (L:List Oper) (V:(Nat → Bool) → Nat → Value → World → Prop) (S:(Nat → Bool) → World → Prop) (a0:Act) (l:Nat → Bool) (a:Act) (W:World):Prop where
 defers:a.defers = a0.defers
 size:a.tmps.size = a0.tmps.size
 other:∀ k,(∀ i,l i = true → dst L i ≠ some k) → a.tmps.getD k undef = a0.tmps.getD k undef
 vals:∀ i d,l i = true → dst L i = some d → V l i (a.tmps.getD d undef) W
 st:S l W
section
variable {P:Program} {L:List Oper} {V:(Nat → Bool) → Nat → Value → World → Prop} {S:(Nat → Bool) → World → Prop} {a0:Act} {l:Nat → Bool} {a:Act} {W W':World}
theorem I.old (h:I L V S a0 l a W) (k:Nat) (hk:(List.range L.length).all (fun i => dst L i != some k) = true):a.tmps.getD k undef = a0.tmps.getD k undef:=by
 refine h.other k fun i _ e => ?_
 have hi:i < L.length:=by
  unfold dst at e
  cases hl:L[i]? with
  | none => rw [hl] at e;cases e
  | some o => exact (List.getElem?_eq_some_iff.1 hl).1
 have:=(List.all_eq_true.1 hk) i (List.mem_range.2 hi)
 rw [e] at this
 simp at this
theorem I.next (h:I L V S a0 l a W) {sz:Nat} (hB:dstB L a0.tmps.size = true) (n:Nat) {o:Oper} (ho:L[n]? = some o) (v:Value) (hl:l n = false) (hV:∀ i d,l i = true → dst L i = some d → V l i (a.tmps.getD d undef) W → V (fun j => j == n || l j) i (a.tmps.getD d undef) W') (hv:V (fun j => j == n || l j) n v W') (hS:S (fun j => j == n || l j) W') :
  I L V S a0 (fun j => j == n || l j) (a.put o.dst v) W':=by
 have hdn:dst L n = o.dst:=by unfold dst;rw [ho];rfl
 cases hd:o.dst with
 | none =>
  refine ⟨h.defers,h.size,fun k hk => h.other k fun i hi => hk i (by show (i == n || l i) = true;rw [hi,Bool.or_true]),fun i d hi he => ?_,hS⟩
  by_cases e:i = n
  ·subst e;rw [hdn,hd] at he;cases he
  ·have hi':l i = true:=by
    have:(i == n || l i) = true:=hi
    rwa [show (i == n) = false by simpa using e,Bool.false_or] at this
   exact hV i d hi' he (h.vals i d hi' he)
 | some d =>
  have hlt:=dstB_lt hB (n:=n) (d:=d) (by rw [hdn,hd])
  refine ⟨h.defers,(Tb.put_size _ _ _).trans h.size,fun k hk => ?_,fun i d' hi he => ?_,hS⟩
  ·have hkd:k ≠ d:=fun e => hk n (by show (n == n || l n) = true;simp) (by rw [hdn,hd,e])
   rw [Tb.put_other _ _ _ _ hkd]
   exact h.other k fun i hi => hk i (by show (i == n || l i) = true;rw [hi,Bool.or_true])
  ·by_cases e:i = n
   ·subst e
    rw [hdn,hd] at he
    injection he with he
    subst he
    rw [Tb.put_same _ _ _ (by rw [h.size];exact hlt)]
    exact hv
   ·have hi':l i = true:=by
     have:(i == n || l i) = true:=hi
     rwa [show (i == n) = false by simpa using e,Bool.false_or] at this
    have hdd:d' ≠ d:=fun e2 => dstB_ne hB (n:=n) (d:=d) (by rw [hdn,hd]) e (by rw [he,e2])
    rw [Tb.put_other _ _ _ _ hdd]
    exact hV i d' hi' he (h.vals i d' hi' he)
theorem wp_region_val (V:(Nat → Bool) → Nat → Value → World → Prop) (S:(Nat → Bool) → World → Prop) {id:Nat} {Q:Exit → Act → World → Prop} {w:World} (hm:P.follows .mixedOrders = true) (hd:downB .any L.toArray = true)
  (hVl:∀ l l',(∀ i,i < L.length → l i = l' i) → ∀ i v w,V l i v w → V l' i v w) (hS:∀ l l' w,(∀ i,i < L.length → l i = l' i) → S l w → S l' w) (h0:S (fun _ => false) { w with drawn:=w.drawn + 1 }) (hst:dstB L a.tmps.size = true → StepsI P .any L.toArray Q (I L V S a) 0 L)
  (hB:dstB L a.tmps.size = true) (hend:∀ a' w',I L V S a (fun _ => true) a' w' → Q .normal a' w'):(Code.region id L.toArray true).wp P Q a w:=by
 refine wp_region_inv (I L V S a) hm hd (fun l l' a' w' he h => ?_) ⟨rfl,rfl,fun _ _ => rfl,(fun i d h => by cases h),h0⟩ (hst hB) hend
 have hlt:∀ {i d},dst L i = some d → i < L.length:=fun {i d} e => by
  unfold dst at e
  cases hl:L[i]? with
  | none => rw [hl] at e;cases e
  | some o => exact (List.getElem?_eq_some_iff.1 hl).1
 exact ⟨h.defers,h.size,fun k hk => h.other k fun i hi e => hk i (by rw [← he i (hlt e)];exact hi) e,fun i d hi e => hVl l l' he i _ w' (h.vals i d (by rw [he i (hlt e)];exact hi) e),hS l l' w' he h.st⟩
theorem step {ops:Array Oper} {Q:Exit → Act → World → Prop} {n:Nat} {o:Oper} (h:I L V S a0 l a W) (hB:dstB L a0.tmps.size = true) (hn:ops[n]? = some o) (hnL:L[n]? = some o) (hg:o.guard = none) (hl:l n = false)
  (hw:o.wp P a W (fun a' W' => ∃ v,a' = a.put o.dst v ∧ (∀ i d,l i = true → dst L i = some d → V l i (a.tmps.getD d undef) W → V (fun j => j == n || l j) i (a.tmps.getD d undef) W') ∧ V (fun j => j == n || l j) n v W' ∧ S (fun j => j == n || l j) W') Q):wpOp P ops Q n (I L V S a0 (fun j => j == n || l j)) a W:=by
 refine Tb.wpOp_of hn hg ?_
 refine Oper.wp_mono (fun a' W' h' => ?_) hw
 obtain ⟨v,rfl,h1,h2,h3⟩:=h'
 exact h.next (sz:=0) hB n hnL v hl h1 h2 h3
theorem stepQ {ops:Array Oper} {Q:Exit → Act → World → Prop} {n:Nat} {o:Oper} (h:I L V S a0 l a W) (hB:dstB L a0.tmps.size = true) (hn:ops[n]? = some o) (hnL:L[n]? = some o) (hg:o.guard = none) (hl:l n = false)
  (v:Value) (hr:(execOp a.eval o).run P W = .ok (.value v) W) (hVq:∀ i v,V l i v W → V (fun j => j == n || l j) i v W) (hv:V (fun j => j == n || l j) n v W) (hS:S l W → S (fun j => j == n || l j) W):wpOp P ops Q n (I L V S a0 (fun j => j == n || l j)) a W :=
 step h hB hn hnL hg hl (op_val hr ⟨v,rfl,fun _ _ _ _ h => hVq _ _ h,hv,hS h.st⟩)
end
end Go.Proofs.YtphamecphmbipaaGreatDoor.Vm

namespace Go.Proofs.YtphamecphmbipaaGreatDoor
open Go.RowKit
set_option linter.unusedVariables false
section
variable {F:Fence} {n:Nat} {P:Program}
def Kept (B:Nat) (X:World → Prop):Prop:=∀ W W' row,X W → W.grownBy W' row → (∀ r,row = some r → B ≤ r ∧ ∃ o:Obj,W.heap[r]? = some o ∧ o.isCells = false) → X W'
theorem Kept.from {B:Nat} {J:Nat → World → Prop} (h:∀ k,Kept B (J k)):OwnFrom B J:=fun s W W' row hs hg hr => h s W W' row hs hg hr
theorem Kept.turns {B:Nat} {X:World → Prop} (h:Kept B X) {A C:World} (hs:X A) (ht:Turns (fun _ => False) A C):X C:=by
 obtain ⟨row,hg,hr⟩:=ht
 exact h A C row hs hg (fun r e => (hr r e).elim)
theorem Kept.and {B:Nat} {X Y:World → Prop} (h:Kept B X) (k:Kept B Y):Kept B (fun W => X W ∧ Y W):=fun W W' row hs hg hr => ⟨h W W' row hs.1 hg hr,k W W' row hs.2 hg hr⟩
theorem Kept.pure (B:Nat) (p:Prop):Kept B (fun _ => p):=fun _ _ _ h _ _ => h
theorem Kept.ex {B:Nat} {α:Type} {X:α → World → Prop} (h:∀ x,Kept B (X x)):Kept B (fun W => ∃ x,X x W):=fun W W' row hs hg hr => let ⟨x,hx⟩:=hs;⟨x,h x W W' row hx hg hr⟩
theorem Kept.all {B:Nat} {α:Type} {X:α → World → Prop} (h:∀ x,Kept B (X x)):Kept B (fun W => ∀ x,X x W):=fun W W' row hs hg hr x => h x W W' row (hs x) hg hr
theorem Kept.ofLocal {B:Nat} {X:World → Prop} (h:LocalP B X):Kept B X:=fun W W' row hs hg hr => h W W' hs (Still.of_grown hg fun r e => (hr r e).1)
theorem Kept.cell (B:Nat) (p:Addr) (v:Value):Kept B (fun W => W.cell? p = some v):=fun W W' row hs hg hr => by
 have hl:=World.block_lt_of_cell? W _ hs
 refine (World.cell?_of_block (w:=W) (hg.block p.block hl fun e => ?_)).trans hs
 obtain ⟨_,o,ho,hc⟩:=hr _ e.symm
 simp only [World.cell?,ho] at hs
 cases o with
 | cells c e f => cases hc
 | _ => cases hs
theorem Kept.own {B base:Nat} {e:TypeId} {size k:Nat} {v:Value} {xs:List Value}:Kept B (fun W => W.ownsRow base e size v k xs):=fun W W' row hs hg hr => by
 refine World.ownsRow.kept hs hg ?_
 cases row with
 | none => cases h1:v.ownBlock with
  | none => exact .inl rfl
  | some g => exact .inr (fun e => by cases e)
 | some r =>
  obtain ⟨_,o,ho,hc⟩:=hr r rfl
  cases h1:v.ownBlock with
  | none => exact .inl rfl
  | some g =>
   refine .inr fun e => ?_
   injection e with e
   subst e
   rcases hs.2 with ⟨hv,_⟩ | ⟨g',cap',cur,hv,hbg,hg',h⟩
   ·subst hv;cases h1
   ·subst hv
    have:g' = g:=by simpa [Value.ownBlock] using h1
    subst this
    rw [ho] at hg'
    injection hg' with hg'
    subst hg'
    cases hc
end
section
variable {P:Program}
theorem Kept.at {B b:Nat} (T:TypeId) (cs:Array Value):Kept B (fun W => At W b T cs):=fun W W' row hs hg hr => by
 refine (hg.block b hs.lt fun e => ?_).trans hs
 obtain ⟨_,o,ho,hc⟩:=hr b e.symm
 have:some (Obj.cells cs T (0,0)) = some o:=Eq.trans (Eq.symm hs) ho
 injection this with this
 subst this
 cases hc
theorem Kept.below {B n:Nat} (w:World) (hn:n ≤ B) (hw:n ≤ w.heap.size):Kept B (fun W => Below n w W):=Kept.ofLocal (LocalP.below w hn hw)
end
end Go.Proofs.YtphamecphmbipaaGreatDoor

namespace Go.Proofs.YtphamecphmbipaaGreatDoor
open Go.RowKit
variable {P:Program}
theorem wp_rangeIxK {g:Operand} {ps:Array Tmp} {asg bdy:Code} {Q:Exit → Act → World → Prop} {a:Act} {w:World} {gf:Nat} {lb:Array Value}
  (hg:a.eval g = .func (.func gf) #[] lb) (eg:∀ args w,(callFunc gf args).run P w = .ok (.enter gf args) w)
  {encs:Nat → Array Value} {N:Nat} {Need:Nat → World → Prop} (hit:IterIx Fence.wide 4 P gf lb encs N (fun _ => False) Need) (hps:∀ k,(encs k).size = ps.size)
  (J:Nat → World → Prop) (Jx:Code → Nat → World → Prop)
  (hJ:∀ k,Kept w.heap.size (J k)) (hJx:∀ c k,Kept w.heap.size (Jx c k)) (hN:∀ k,Kept w.heap.size (Need k)) (h0:J 0 w) (hn0:Need 0 w) (A1:Nat → Act)
  (assign:∀ (l k:Nat) (W:World) (K:Act → World → Prop),k < N → K (A1 k) W →
   asg.wpIn (Fence.wide.inRound l) 3 P (Exit.then K (fun _ _ _ => False)) { tmps:=(ps.zip (encs k)).foldl (fun t (p,v) => t.setIfInBounds p v) a.tmps,defers:=[] } W)
  (body:∀ (l k:Nat) (W:World),k < N → J k W → Need k W → bdy.wpIn (Fence.wide.inRound l) 3 P (roundIx w.heap.size J Jx Need k W) (A1 k) W)
  (done:∀ (D:Nat) (W:World),w.heap.size ≤ D → J N W → W.heap[D]? = some (.deferred (some [])) → Q .normal { a with defers:={ target:=.collected D,args:=#[] } :: a.defers } W)
  (stop:∀ (D:Nat) (c:Code) (k:Nat) (W:World),w.heap.size ≤ D → k < N → Jx c k W → W.heap[D]? = some (.deferred (some [])) → c.wp P Q { a with defers:={ target:=.collected D,args:=#[] } :: a.defers } W) :
  (Code.rangeFunc g ps asg bdy).wp P Q a w:=by
 refine (wpIn_wide (n:=5)).1 ?_
 exact wpIn_rangeIx rfl (by decide) hg trivial eg hit (fun r h => h.elim) hps J Jx (fun k a' _ => a' = A1 k)
  (Kept.from hJ) (fun c => Kept.from (hJx c)) (Kept.from hN) (fun a' => Kept.from (fun k => Kept.pure _ _))
  (fun k A C hs ht => (hJ k).turns hs ht) (fun c k A C hs ht => (hJx c k).turns hs ht) h0 hn0
  (fun l k W K hk hj hn hK => assign l k W K hk (hK _ _ (KeepsFrom.refl _ _) hj hn rfl))
  (fun l k a' W hk hj hn ha => by subst ha;exact body l k W hk hj hn)
  done (fun D c k W h1 h2 h3 h4 => wpIn_wide.2 (stop D c k W h1 h2 h3 h4))
end Go.Proofs.YtphamecphmbipaaGreatDoor

namespace Go.Proofs.YtphamecphmbipaaGreatDoor
open Go.RowKit
set_option linter.unusedVariables false
section
variable {P:Program} {md:Region.Mode} {ops:Array Oper}
theorem bar_head3 {σ:Type} {n:Nat} {ops1:Array Oper} {l2:List Oper} {C:σ → World → Prop} (hb:barB2 md n ops = true) (hd:downB md ops = true) (hd1:downB md ops1 = true) (hn1:ops1.size = n) (h1:∀ i,i < n → ops1[i]? = ops[i]?) (hl:∀ j,l2[j]? = ops[n + j]?)
  {Q:Exit → Act → World → Prop} {Q1:σ → Act → Prop} (hQ:∀ s a w,C s w → Q1 s a → wpList P ops Q l2 a w):∀ (fuel:Nat) (listed1 listed:Array Bool) (s:σ) (a:Act) (w:World),C s w → Mv.Cl md ops listed → listed1.size = n → listed.size = ops.size →
   (∀ i,i < n → listed1[i]? = listed[i]?) → (∀ i,n ≤ i → i < ops.size → listed.getD i true = false) → Mv.wpAnyL P md ops1 C Q1 fuel listed1 s a → wpAny P md ops Q (l2.length + fuel) listed a w:=by
 have hnn:n ≤ ops.size:=by
  rcases Nat.lt_or_ge ops.size n with h | h
  ·have:=h1 ops.size h
   rw [Array.getElem?_eq_none (Nat.le_refl _),Array.getElem?_eq_none_iff] at this
   omega
  ·exact h
 have done:∀ (fuel:Nat) (listed1 listed:Array Bool) (s:σ) (a:Act) (w:World),C s w → listed1.size = n → listed.size = ops.size → (∀ i,i < n → listed1[i]? = listed[i]?) → (∀ i,n ≤ i → i < ops.size → listed.getD i true = false) →
   Region.ready md ops1 listed1 = [] → Q1 s a → wpAny P md ops Q (l2.length + fuel) listed a w:=fun fuel listed1 listed s a w hw hs1 hs hll h0 hr hq => by
  refine bar_tail2 hb hd l2 n fuel listed a w (Nat.le_refl _) hl hs (fun i hi => ?_) h0 (hQ s a w hw hq)
  have:=ready_nil hd1 (by omega) hr i (by omega)
  rw [Array.getD_eq_getD_getElem?,hll i hi,← Array.getD_eq_getD_getElem?] at this
  exact this
 intro fuel
 induction fuel with
 | zero => intro listed1 listed s a w hw hcl hs1 hs hll h0 h;exact done 0 listed1 listed s a w hw hs1 hs hll h0 h.1 h.2
 | succ fuel ih =>
  intro listed1 listed s a w hw hcl hs1 hs hll h0 h
  by_cases hr:Region.ready md ops1 listed1 = []
  ·exact done _ listed1 listed s a w hw hs1 hs hll h0 hr (h.1 hr)
  ·obtain ⟨i0,hi0⟩:=List.exists_mem_of_ne_nil _ hr
   obtain ⟨hu0,o0,ho0,hall0⟩:=mem_ready.1 hi0
   have hi0n:i0 < n:=by rw [← hn1];exact (Array.getElem?_eq_some_iff.1 ho0).1
   have get:∀ i,i < n → ∀ d,listed1.getD i d = listed.getD i d:=fun i hi d => by rw [Array.getD_eq_getD_getElem?,Array.getD_eq_getD_getElem?,hll i hi]
   have up:i0 ∈ Region.ready md ops listed:=mem_ready.2 ⟨by rw [← get i0 hi0n];exact hu0,o0,by rw [← h1 i0 hi0n];exact ho0,fun e he hbe => by
    have hlt:=downB_spec hd1 ho0 he hbe
    rw [← get e.on (by omega)];exact hall0 e he hbe⟩
   rw [show l2.length + (fuel + 1) = (l2.length + fuel) + 1 by omega]
   refine ⟨fun hrr => (by rw [hrr] at up;cases up),fun i hi => ?_⟩
   obtain ⟨hu,o,ho,hall⟩:=mem_ready.1 hi
   have hin:i < n:=by
    rcases Nat.lt_or_ge i n with hh | hh
    ·exact hh
    ·have hx:=hcl.reach hall ho (barB_wait2 hb ho hh (i:=i0) (by omega))
     rw [← get i0 hi0n] at hx
     rw [Array.getD_eq_getD_getElem?,Array.getElem?_eq_getElem (by omega)] at hx hu0
     simp at hx hu0
     rw [hx] at hu0;cases hu0
   have ho1:ops1[i]? = some o:=by rw [h1 i hin];exact ho
   have hi1:i ∈ Region.ready md ops1 listed1:=mem_ready.2 ⟨by rw [get i hin];exact hu,o,ho1,fun e he hbe => by
    have hlt:=downB_spec hd1 ho1 he hbe
    rw [get e.on (by omega)];exact hall e he hbe⟩
   have hq:=h.2 i hi1
   have hwant:∀ a:Act,Region.wanted o (yielded ops1 a.tmps) = Region.wanted o (yielded ops a.tmps):=fun a => by
    unfold Region.wanted
    cases hg:o.guard with
    | none => rfl
    | some p =>
     obtain ⟨g,b⟩:=p
     have:=barB_guard2 hb ho hin hg
     simp only [yielded,h1 g this]
   have hq':Mv.linOp P ops C i (Mv.wpAnyL P md ops1 C Q1 fuel (listed1.setIfInBounds i true)) s a:=by
    unfold Mv.linOp at hq ⊢
    simp only [ho1] at hq
    simp only [ho]
    unfold Mv.LX at hq ⊢
    rw [← hwant]
    exact hq
   refine Mv.wpOp_of_lin hw (fun s' a' w' hw' h' => ih (listed1.setIfInBounds i true) (listed.setIfInBounds i true) s' a' w' hw' (hcl.next hi) (by simpa using hs1) (by simpa using hs) (fun j hj => ?_) (fun j hj hjs => ?_) h') hq'
   ·by_cases hji:i = j
    ·subst hji;simp [hs1,hs,hj,show i < ops.size by omega]
    ·rw [Array.getElem?_setIfInBounds_ne hji,Array.getElem?_setIfInBounds_ne hji];exact hll j hj
   ·rw [Array.getD_eq_getD_getElem?,Array.getElem?_setIfInBounds_ne (by omega),← Array.getD_eq_getD_getElem?];exact h0 j hj hjs
theorem wp_region_mb {σ:Type} (C:σ → World → Prop) (s:σ) (n:Nat) {id:Nat} {Q:Exit → Act → World → Prop} {a:Act} {w:World} {L:List Oper} (hm:P.follows .mixedOrders = true) (hB:Region.lexB .any (L.take n).toArray = true) (hch:Mv.chainC .any (L.take n).toArray = true)
  (hb:barB2 .any n L.toArray = true) (hd:downB .any L.toArray = true) (hd1:downB .any (L.take n).toArray = true) (hn:n ≤ L.length) (hC:C s { w with drawn:=w.drawn + 1 })
  (h:Nonempty (InW fun w => ∃ s,C s w) → Mv.wpLin P (L.take n).toArray C (fun s a' => ∀ w',C s w' → wpList P L.toArray Q (L.drop n) a' w') (L.take n) s a):(Code.region id L.toArray true).wp P Q a w:=by
 simp only [Region.lexB,Bool.and_eq_true] at hB
 have hlen:(L.take n).length = n:=by simp [Nat.min_eq_left hn]
 have hq:=Mv.wpAnyL_lexC (P:=P) (C:=C) (md:=.any) Mv.calls_some hch (Q:=fun s a' => ∀ w',C s w' → wpList P L.toArray Q (L.drop n) a' w') hB.1 (L.take n) 0 (Array.replicate n false) s a ⟨_,hC⟩ (fun j oj hj hl => by
   rcases Nat.lt_or_ge j n with h' | h'
   ·simp [h'] at hl
   ·simp [h'] at hl) (fun j hj => by omega) (by simp) (by have:=hB.2;simpa [Nat.min_eq_left hn] using this) (h ⟨⟨_,s,hC⟩⟩)
 rw [hlen] at hq
 have:=bar_head3 (P:=P) (md:=.any) (ops:=L.toArray) (ops1:=(L.take n).toArray) (l2:=L.drop n) (n:=n) (C:=C) hb hd hd1 (by simp [Nat.min_eq_left hn]) (fun i hi => by simp [hi]) (fun j => by simp)
  (Q:=Q) (Q1:=fun s a' => ∀ w',C s w' → wpList P L.toArray Q (L.drop n) a' w') (fun s a w hw h => h w hw) n (Array.replicate n false) (Array.replicate L.length false) s a { w with drawn:=w.drawn + 1 } hC (fun j oj hj hl e he hbe => by
   rcases Nat.lt_or_ge j L.length with h' | h'
   ·simp [h'] at hl
   ·simp [h'] at hl) (by simp) (by simp)
  (fun i hi => by simp [hi,show i < L.length by omega]) (fun i hi hs => by simp at hs;simp [hs]) hq
 rw [show (L.drop n).length + n = L.length by simp;omega] at this
 refine wp_region_any hm ?_
 simpa using this
end
end Go.Proofs.YtphamecphmbipaaGreatDoor

namespace Go.Proofs.YtphamecphmbipaaGreatDoor.Mv
open Go.RowKit Go.Proofs.YtphamecphmbipaaGreatDoor
set_option linter.unusedVariables false
def noDefer (o:Oper):Bool:=match o.op with | .defer _ => false | _ => true
section
variable {m:Nat} {P:Program} {ops:Array Oper} {md:Region.Mode} {σ:Type} {C:σ → World → Prop} {lp:Nat}
theorem no_defer {o:Oper} (ho:noDefer o = true) (c):o.op ≠ .defer c:=by
 intro h;unfold noDefer at ho;rw [h] at ho;cases ho
theorem wpOpIn_of_lin2 (ht:ops.all noDefer = true) {i:Nat} {s:σ} {a:Act} {K:σ → Act → Prop} {K':Act → World → Prop} {Q':Exit → Act → World → Prop} {w:World} (hC:C s w) (h:∀ s a w',C s w' → K s a → K' a w') (hh:linOp P ops C i K s a) :
  wpOpIn (Fence.wide.inRound lp) m P ops Q' i K' a w:=by
 unfold linOp at hh
 unfold wpOpIn
 split
 ·rename_i ho;simp only [ho] at hh;exact h _ _ _ hC hh
 ·rename_i o ho
  simp only [ho] at hh
  have hta:noDefer o = true:=by
   rw [Array.all_eq_true_iff_forall_mem] at ht
   exact ht o (Array.mem_of_getElem? ho)
  have hab:∀ f,o.about P w a.eval = some f → (Fence.wide.inRound lp).fn f:=fun f _ => trivial
  rcases hh with ⟨hw,hy⟩ | ⟨hw,hk⟩
  ·simp only [hw,if_true]
   unfold Oper.wpIn
   refine ⟨hab,?_⟩
   rw [Oper.semAt_plain _ _ _ (no_defer hta)]
   rcases hy with ⟨_,hk⟩ | ⟨_,v,hs,hk⟩
   ·have h3:=hk w hC
    generalize (execOp a.eval o).run P w = r at *
    cases r with
    | ok n w' =>
     cases n <;> simp only [movesUpon] at h3 <;> simp only [Oper.uponIn]
     ·obtain ⟨s',h4,h5⟩:=h3;exact h _ _ _ h4 h5
     ·obtain ⟨s',h4,h5⟩:=h3;exact h _ _ _ h4 h5
     ·refine ⟨fun e => by simp [Fence.wide] at e,CallsIn.inRound lp (callsIn_wide.2 (h3.mono ?_))⟩
      rintro e w2 ⟨v,rfl,s',h4,h5⟩
      exact h _ _ _ h4 h5
    | halt x w' => simp only [movesUpon] at h3
   ·have h3:=hs w ⟨_,hC⟩
    generalize (execOp a.eval o).run P w = r at *
    cases r with
    | ok n w' =>
     cases n <;> simp only [stillUpon] at h3 <;> simp only [Oper.uponIn]
     ·obtain ⟨rfl,rfl⟩:=h3;exact h _ _ _ hC hk
     ·obtain ⟨rfl,rfl⟩:=h3;exact h _ _ _ hC hk
    | halt x w' => simp only [stillUpon] at h3
  ·rw [if_neg (by rw [hw];decide)]
   exact ⟨hab,h _ _ _ hC hk⟩
theorem wpAnyIn_of_lin2 (ht:ops.all noDefer = true) {Q:σ → Act → Prop} {Q':Exit → Act → World → Prop} (hQ:∀ s a w,C s w → Q s a → Q' .normal a w):∀ (fuel:Nat) (listed:Array Bool) (s:σ) (a:Act) (w:World),C s w →
  wpAnyL P md ops C Q fuel listed s a → wpAnyIn (Fence.wide.inRound lp) m P md ops Q' fuel listed a w
 | 0,_,_,_,_,hw,h => ⟨h.1,hQ _ _ _ hw h.2⟩
 | fuel + 1,_,_,_,_,hw,h => ⟨fun h0 => hQ _ _ _ hw (h.1 h0),fun i hi => wpOpIn_of_lin2 ht hw (fun s' a' w' hw' => wpAnyIn_of_lin2 ht hQ fuel _ s' a' w' hw') (h.2 i hi)⟩
theorem wpIn_region_mw (C:σ → World → Prop) (s:σ) {id:Nat} {Q:Exit → Act → World → Prop} {a:Act} {w:World} {l:List Oper} (hm:P.follows .mixedOrders = true) (hB:Region.lexB .any l.toArray = true) (hch:chainC .any l.toArray = true) (ht:l.toArray.all noDefer = true) (hC:C s { w with drawn:=w.drawn + 1 })
  (h:Nonempty (InW fun w => ∃ s,C s w) → wpLin P l.toArray C (fun s a' => ∀ w',C s w' → Q .normal a' w') l s a):(Code.region id l.toArray true).wpIn (Fence.wide.inRound lp) m P Q a w:=by
 simp only [Region.lexB,Bool.and_eq_true] at hB
 refine wpIn_region_any hm (wpAnyIn_of_lin2 ht (Q:=fun s a' => ∀ w',C s w' → Q .normal a' w') (fun _ _ w' hw' h => h w' hw') _ _ s _ _ hC ?_)
 have:=wpAnyL_lexC (C:=C) (md:=.any) calls_some hch hB.1 l 0 (Array.replicate l.toArray.size false) s a ⟨_,hC⟩ (fun j oj hj hl => by
   rcases Nat.lt_or_ge j l.toArray.size with h' | h'
   ·rw [List.size_toArray] at h';simp [h'] at hl
   ·rw [List.size_toArray] at h';simp [h'] at hl) (fun j hj => by omega) (by simp) (by simpa using hB.2) (h ⟨⟨_,s,hC⟩⟩)
 simpa using this
def Nm (Q:Exit → Act → World → Prop):Exit → Act → World → Prop
 | .normal,a,w => Q .normal a w
 | _,_,_ => False
theorem Nm.mk {Q:Exit → Act → World → Prop} {a:Act} {w:World} (h:Q .normal a w):Nm Q .normal a w:=h
theorem Nm.no (Q:Exit → Act → World → Prop):¬ LetsOut (Nm Q):=fun ⟨_,_,h⟩ => h
theorem wpOpIn_of_op {Q:Exit → Act → World → Prop} {i:Nat} {K K':Act → World → Prop} (ht:ops.all noDefer = true) (hK:∀ a w,K a w → K' a w) {a:Act} {w:World} (h:wpOp P ops (Nm Q) i K a w) :
  wpOpIn (Fence.wide.inRound lp) m P ops Q i K' a w:=by
 unfold wpOp at h
 unfold wpOpIn
 split
 ·rename_i ho;simp only [ho] at h;exact hK _ _ h
 ·rename_i o ho
  simp only [ho] at h
  have hmem:=Array.mem_of_getElem? ho
  have hta:noDefer o = true:=by
   rw [Array.all_eq_true_iff_forall_mem] at ht
   exact ht o hmem
  by_cases hw:Region.wanted o (yielded ops a.tmps) = true
  ·simp only [hw,if_true] at h ⊢
   rcases h with h | ⟨_,h⟩
   rotate_left
   ·exact absurd h (Nm.no Q)
   unfold Oper.wpIn
   refine ⟨fun f _ => trivial,?_⟩
   rw [Oper.semAt_plain _ _ _ (no_defer hta)]
   unfold Oper.wp at h
   generalize (execOp a.eval o).run P w = r at *
   cases r with
   | ok n w' =>
    cases n with
    | value v => exact hK _ _ h
    | skip => exact hK _ _ h
    | «defer» d => exact hK _ _ h
    | enter f args =>
     refine ⟨fun e => by simp [Fence.wide] at e,CallsIn.inRound lp (callsIn_wide.2 (Calls.mono h ?_))⟩
     intro e w2 h2
     cases e with
     | returned v => exact hK _ _ h2
     | panicked ch => exact h2.elim
     | outgrown => exact absurd h2 (Nm.no Q)
    | row r args =>
     refine ⟨fun e => by simp [Fence.wide] at e,fun c cs _ => ?_⟩
     obtain ⟨v,w2,hR,hs⟩:=h c cs
     exact ⟨v,w2,hK _ _ hR,stepsIn_wide.2 hs⟩
    | _ => exact h.elim
   | halt x w' =>
    cases x with
    | panic v => exact h.elim
    | _ => exact h.elim
  ·simp only [hw] at h ⊢
   exact ⟨fun f _ => trivial,hK _ _ h⟩
theorem wpAnyIn_of_any {Q:Exit → Act → World → Prop} (ht:ops.all noDefer = true):∀ (fuel:Nat) (listed:Array Bool) (a:Act) (w:World),wpAny P md ops (Nm Q) fuel listed a w → wpAnyIn (Fence.wide.inRound lp) m P md ops Q fuel listed a w
 | 0,_,_,_,h => h
 | fuel + 1,_,_,_,h => ⟨h.1,fun i hi => wpOpIn_of_op ht (fun a' w' h' => wpAnyIn_of_any ht fuel _ a' w' h') (h.2 i hi)⟩
theorem wpIn_region_mb (C:σ → World → Prop) (s:σ) (n:Nat) {id:Nat} {Q:Exit → Act → World → Prop} {a:Act} {w:World} {L:List Oper} (hm:P.follows .mixedOrders = true) (hB:Region.lexB .any (L.take n).toArray = true) (hch:chainC .any (L.take n).toArray = true)
  (hb:barB2 .any n L.toArray = true) (hd:downB .any L.toArray = true) (hd1:downB .any (L.take n).toArray = true) (ht:L.toArray.all noDefer = true) (hn:n ≤ L.length) (hC:C s { w with drawn:=w.drawn + 1 })
  (h:Nonempty (InW fun w => ∃ s,C s w) → wpLin P (L.take n).toArray C (fun s a' => ∀ w',C s w' → wpList P L.toArray (Nm Q) (L.drop n) a' w') (L.take n) s a):(Code.region id L.toArray true).wpIn (Fence.wide.inRound lp) m P Q a w:=by
 simp only [Region.lexB,Bool.and_eq_true] at hB
 have hlen:(L.take n).length = n:=by simp [Nat.min_eq_left hn]
 have hq:=wpAnyL_lexC (P:=P) (C:=C) (md:=.any) calls_some hch (Q:=fun s a' => ∀ w',C s w' → wpList P L.toArray (Nm Q) (L.drop n) a' w') hB.1 (L.take n) 0 (Array.replicate n false) s a ⟨_,hC⟩ (fun j oj hj hl => by
   rcases Nat.lt_or_ge j n with h' | h'
   ·simp [h'] at hl
   ·simp [h'] at hl) (fun j hj => by omega) (by simp) (by have:=hB.2;simpa [Nat.min_eq_left hn] using this) (h ⟨⟨_,s,hC⟩⟩)
 rw [hlen] at hq
 have:=bar_head3 (P:=P) (md:=.any) (ops:=L.toArray) (ops1:=(L.take n).toArray) (l2:=L.drop n) (n:=n) (C:=C) hb hd hd1 (by simp [Nat.min_eq_left hn]) (fun i hi => by simp [hi]) (fun j => by simp)
  (Q:=Nm Q) (Q1:=fun s a' => ∀ w',C s w' → wpList P L.toArray (Nm Q) (L.drop n) a' w') (fun s a w hw h => h w hw) n (Array.replicate n false) (Array.replicate L.length false) s a { w with drawn:=w.drawn + 1 } hC (fun j oj hj hl e he hbe => by
   rcases Nat.lt_or_ge j L.length with h' | h'
   ·simp [h'] at hl
   ·simp [h'] at hl) (by simp) (by simp)
  (fun i hi => by simp [hi,show i < L.length by omega]) (fun i hi hs => by simp at hs;simp [hs]) hq
 rw [show (L.drop n).length + n = L.length by simp;omega] at this
 refine wpIn_region_any hm (wpAnyIn_of_any ht _ _ _ _ ?_)
 simpa using this
end
end Go.Proofs.YtphamecphmbipaaGreatDoor.Mv

namespace Go.Proofs.YtphamecphmbipaaGreatDoor
open Go.RowKit
set_option linter.unusedVariables false
section
variable {w:World} {G S I J:Int} {la:Option Addr} {N:Nat} {L:Nat → Nat → Int} {hs ht:Int} {av:Value} {nn E:Int} {W W':World}
end
def st3 (W:World) (B:Nat) (v:Value) (nn E:Int):World:=((W.setCell ⟨B + 1 + 1,0,none⟩ v).setCell ⟨B + 1 + 1 + 1,0,none⟩ (.int .u32 nn)).setCell ⟨B + 1 + 1 + 1 + 1,0,none⟩ (.int .i64 E)
section
variable {w:World} {G S I J:Int} {la:Option Addr} {N:Nat} {L:Nat → Nat → Int} {hs ht:Int} {av:Value} {nn E:Int} {W W':World}
end
section
variable {w:World} {G S I J:Int} {la:Option Addr} {N:Nat} {L:Nat → Nat → Int} {hs ht:Int} {av:Value} {nn E:Int} {W W':World}
end
section
variable {w:World} {G S I J:Int} {la:Option Addr} {N:Nat} {L:Nat → Nat → Int} {hs ht:Int} {av:Value} {nn E:Int} {W W':World}
end
theorem at_own_neS {W:World} {p base k size:Nat} {T e:TypeId} {cs:Array Value} {v:Value} {xs:List Value} (hA:At W p T cs) (h:W.ownsRow base e size v k xs) (he:e ≠ T):v.ownBlock ≠ some p:=by
 intro hp
 rcases h.2 with ⟨rfl,_⟩ | ⟨q,cap,cur,rfl,_,hh,_⟩
 ·cases hp
 ·injection hp with hp
  subst hp
  have:=hA.symm.trans hh
  injection this with this
  injection this with _ h2
  exact he h2.symm
section
variable {w:World} {p8:Nat} {hs ht:Int} {a:Option Addr} {n c:Nat} {l:List Tr} {X:Int} {D:Nat} {o:Option Obj} {a0:Act} {f:Nat → Bool} {a':Act} {W W':World}
end
section
variable {w:World} {G S I J:Int} {la:Option Addr} {N:Nat} {L:Nat → Nat → Int} {hs ht:Int} {av:Value} {nn E:Int} {W W':World}
theorem keeps_cell {B b:Nat} {v u:Value} {T:TypeId} (hA:At W b T #[u]):KeepsFrom B W (W.setCell ⟨b,0,none⟩ v):=(Only.setCell W ⟨b,0,none⟩ v).keeps (hA.cell (i:=0) rfl)
theorem keeps_own {B base k size:Nat} {e:TypeId} {v:Value} {xs:List Value} (ho:W.ownsRow base e size v k xs) (hg:W.grownBy W' v.ownBlock):KeepsFrom B W W' :=
 ⟨hg.size,fun i o _ hi hc => by
  refine (hg.block i (Array.getElem?_eq_some_iff.1 hi).1 (fun e => ?_)).trans hi
  rcases ho.2 with ⟨hv,_⟩ | ⟨g',cap',cur,hv,hbg,hg',_⟩
  ·subst hv;cases e
  ·subst hv
   have:i = g':=by simpa [Value.ownBlock] using e
   subst this
   rw [hi] at hg'
   injection hg' with hg'
   subst hg'
   cases hc⟩
end
end Go.Proofs.YtphamecphmbipaaGreatDoor
