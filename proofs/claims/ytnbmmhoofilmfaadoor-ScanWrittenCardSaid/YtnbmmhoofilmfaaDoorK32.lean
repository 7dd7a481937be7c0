/- Texts of this claim, merged by a program (a claim may have 60 files): CopyQ, InvA, Val, Val2, ValL. -/
import Derived.Test.YtnbmmhoofilmfaaDoorK05
import Derived.Test.YtnbmmhoofilmfaaDoorK08
/- Small words on frames. No program in sight. -/
namespace Go.Proofs.YtnbmmhoofilmfaaDoor.Tb
open Go.RowKit
set_option linter.unusedVariables false

theorem wpOp_of {P : Program} {ops : Array Oper} {Q : Exit → Act → World → Prop} {i : Nat} {o : Oper} {K : Act → World → Prop} {a : Act} {w : World} (hi : ops[i]? = some o) (hg : o.guard = none) (h : o.wp P a w K Q) : wpOp P ops Q i K a w := by
  unfold wpOp
  rw [hi]
  have : Region.wanted o (yielded ops a.tmps) = true := by unfold Region.wanted; rw [hg]
  simp only [this, if_true]
  exact .inl h
theorem put_size (a : Act) (d : Nat) (v : Value) : (a.put (some d) v).tmps.size = a.tmps.size := by simp [Act.put]
theorem put_same (a : Act) (d : Nat) (v : Value) (h : d < a.tmps.size) : (a.put (some d) v).tmps.getD d undef = v := by simp [Act.put, Array.getD_eq_getD_getElem?, h]
theorem put_other (a : Act) (d s : Nat) (v : Value) (h : s ≠ d) : (a.put (some d) v).tmps.getD s undef = a.tmps.getD s undef := by
  simp only [Act.put, Array.getD_eq_getD_getElem?, Array.getElem?_setIfInBounds_ne (Ne.symm h)]
end Go.Proofs.YtnbmmhoofilmfaaDoor.Tb

/- Operations one by one, for a drawn region by an invariant (XInv). No program in sight. -/
namespace Go.Proofs.YtnbmmhoofilmfaaDoor
open Go.RowKit
set_option linter.unusedVariables false
section
variable {P : Program} {w w' : World} {o : Oper} {a : Act} {K : Act → World → Prop} {Q : Exit → Act → World → Prop}
theorem op_val {v : Value} (hr : (execOp a.eval o).run P w = .ok (.value v) w') (h : K (a.put o.dst v) w') : o.wp P a w K Q := by
  unfold Oper.wp; rw [hr]; exact h
theorem op_skip (hr : (execOp a.eval o).run P w = .ok .skip w') (h : K (a.put o.dst undef) w') : o.wp P a w K Q := by
  unfold Oper.wp; rw [hr]; exact h
theorem op_up {l : Nat → Bool} (hu : upB .any o l = true) (k : Nat) (hk : (o.after.any fun e => Region.binds .any e && e.on == k) = true) : l k = true := by
  unfold upB at hu
  rw [Array.all_eq_true'] at hu
  rw [Array.any_eq_true'] at hk
  obtain ⟨e, he, hb⟩ := hk
  rw [Bool.and_eq_true] at hb
  have := hu e he
  rw [hb.1] at this
  have e2 : e.on = k := by simpa using hb.2
  rw [e2] at this
  simpa using this
theorem op_ldrow (T : TypeId) (p : Operand) (ho : o.op = .load T p) (g : Nat) (cs : Array Value) (d : TypeDesc) (hx : a.eval p = .pointer (some ⟨g, 0, none⟩)) (hI : At w g T cs) (hu : P.underlying T = some d) (hd : (match d with | .struct _ | .array _ _ => true | _ => false) = true)
    (hi : (P.info? T).map (·.size) = some cs.size) (h : K (a.put o.dst (.agg cs)) w) : o.wp P a w K Q := by
  refine op_val ?_ h
  unfold execOp
  simp only [ho, hx, Instr.loadAt, Instr.sureAddr, Sem.run_bind, Sem.run_pure, Result.andThen_ok, run_loadVar_row w g T T cs (0, 0) d hI hu hd hi]
theorem op_ldc (ty : TypeId) (x : Operand) (ho : o.op = .load ty x) (g j : Nat) (v : Value) (hx : a.eval x = .pointer (some ⟨g, j, none⟩))
    (hc : w.cell? ⟨g, j, none⟩ = some v) (hagg : (isAgg ty).run P w = .ok false w) (h : K (a.put o.dst v) w) : o.wp P a w K Q := by
  refine op_val ?_ h
  unfold execOp
  simp only [ho, hx, Instr.loadAt, Instr.sureAddr, Sem.run_bind, Sem.run_pure, Result.andThen_ok]
  simp [loadVar, Sem.run_bind, hagg, hc]
theorem op_len (x : Operand) (t : TypeId) (ho : o.op = .call { callee := .builtin .len, args := #[x], argTypes := #[t] }) (e : TypeId) (hu : P.underlying t = some (.slice e)) (b : Option Addr) (n c : Nat) (hx : a.eval x = .slice b n c) (h : K (a.put o.dst (goInt n)) w) : o.wp P a w K Q := by
  refine op_val (v := goInt n) ?_ h
  simp [execOp, ho, resolve, invoke, builtin, hx, Builtin.len_, run_underlying hu, Result.andThen]
theorem op_move (x : Operand) (ho : o.op = .move x) (v : Value) (hx : a.eval x = v) (h : K (a.put o.dst v) w) : o.wp P a w K Q := by
  refine op_val ?_ h
  simp [execOp, ho, hx]
theorem op_strow (T : TypeId) (p q : Operand) (ho : o.op = .store T p q) (g : Nat) (cs old : Array Value) (hx : a.eval p = .pointer (some ⟨g, 0, none⟩)) (hy : a.eval q = .agg cs) (hI : At w g T old) (hi : (P.info? T).map (·.size) = some cs.size) (hs : old.size = cs.size) (h1 : cs.all (·.oneCell') = true)
    (h : ∀ w', At w' g T cs → Only g w w' → K (a.put o.dst undef) w') : o.wp P a w K Q := by
  refine op_skip (w' := w.setRow g cs) ?_ (h _ (setRow_heap w g _ cs _ _ hI) (only_setRow w g _ hI hs.symm))
  unfold execOp
  simp only [ho, hx, hy, Instr.storeAt, Instr.sureAddr, Sem.run_bind, Sem.run_pure, Result.andThen_ok, run_storeVar_row w g T T old cs hI hi hs h1]
end
end Go.Proofs.YtnbmmhoofilmfaaDoor

/- A drawn region by what each of its operations' values is, whatever came first: over XInv. No program in sight. -/
namespace Go.Proofs.YtnbmmhoofilmfaaDoor.Vl
open Go.RowKit Go.Proofs.YtnbmmhoofilmfaaDoor
set_option linter.unusedVariables false

/-- the slot of operation n -/
def dst (L : List Oper) (n : Nat) : Option Nat := (L[n]?).bind (·.dst)
/-- no two operations have one slot, each lies in the frame -/
def dstB (L : List Oper) (sz : Nat) : Bool :=
  (List.range L.length).all fun n => match dst L n with
    | none => true
    | some d => decide (d < sz) && (List.range L.length).all fun m => m == n || dst L m != some d
theorem dstB_lt {L : List Oper} {sz : Nat} (h : dstB L sz = true) {n d : Nat} (hd : dst L n = some d) : d < sz := by
  unfold dstB at h
  rw [List.all_eq_true] at h
  have hn : n < L.length := by
    unfold dst at hd
    cases hl : L[n]? with
    | none => rw [hl] at hd; cases hd
    | some o => exact (List.getElem?_eq_some_iff.1 hl).1
  have := h n (List.mem_range.2 hn)
  rw [hd] at this
  simp only [Bool.and_eq_true, decide_eq_true_eq] at this
  exact this.1
theorem dstB_ne {L : List Oper} {sz : Nat} (h : dstB L sz = true) {n m d : Nat} (hd : dst L n = some d) (hm : m ≠ n) : dst L m ≠ some d := by
  unfold dstB at h
  rw [List.all_eq_true] at h
  have hn : n < L.length := by
    unfold dst at hd
    cases hl : L[n]? with
    | none => rw [hl] at hd; cases hd
    | some o => exact (List.getElem?_eq_some_iff.1 hl).1
  have h1 := h n (List.mem_range.2 hn)
  rw [hd] at h1
  simp only [Bool.and_eq_true] at h1
  intro e
  have hml : m < L.length := by
    unfold dst at e
    cases hl : L[m]? with
    | none => rw [hl] at e; cases e
    | some o => exact (List.getElem?_eq_some_iff.1 hl).1
  have h2 := (List.all_eq_true.1 h1.2) m (List.mem_range.2 hml)
  rw [e] at h2
  simp [hm] at h2
/-- what holds between the operations: R l W, and of each that has come up V i v W -/
structure I (L : List Oper) (V : Nat → Value → World → Prop) (S : (Nat → Bool) → World → Prop) (a0 : Act) (l : Nat → Bool) (a : Act) (W : World) : Prop where
  defers : a.defers = a0.defers
  size : a.tmps.size = a0.tmps.size
  other : ∀ k, (∀ i, l i = true → dst L i ≠ some k) → a.tmps.getD k undef = a0.tmps.getD k undef
  vals : ∀ i d, l i = true → dst L i = some d → V i (a.tmps.getD d undef) W
  st : S l W
section
variable {P : Program} {L : List Oper} {V : Nat → Value → World → Prop} {S : (Nat → Bool) → World → Prop} {a0 : Act} {l : Nat → Bool} {a : Act} {W W' : World}
/-- a slot that no operation of the region writes -/
theorem I.old (h : I L V S a0 l a W) (k : Nat) (hk : (List.range L.length).all (fun i => dst L i != some k) = true) : a.tmps.getD k undef = a0.tmps.getD k undef := by
  refine h.other k fun i _ e => ?_
  have hi : i < L.length := by
    unfold dst at e
    cases hl : L[i]? with
    | none => rw [hl] at e; cases e
    | some o => exact (List.getElem?_eq_some_iff.1 hl).1
  have := (List.all_eq_true.1 hk) i (List.mem_range.2 hi)
  rw [e] at this
  simp at this
/-- operation n has come up with the value v -/
theorem I.next (h : I L V S a0 l a W) {sz : Nat} (hB : dstB L a0.tmps.size = true) (n : Nat) {o : Oper} (ho : L[n]? = some o) (v : Value) (hl : l n = false) (hV : ∀ i v, l i = true → V i v W → V i v W') (hv : V n v W') (hS : S (fun j => j == n || l j) W') :
    I L V S a0 (fun j => j == n || l j) (a.put o.dst v) W' := by
  have hdn : dst L n = o.dst := by unfold dst; rw [ho]; rfl
  cases hd : o.dst with
  | none =>
    refine ⟨h.defers, h.size, fun k hk => h.other k fun i hi => hk i (by show (i == n || l i) = true; rw [hi, Bool.or_true]), fun i d hi he => ?_, hS⟩
    by_cases e : i = n
    · subst e; rw [hdn, hd] at he; cases he
    · have hi' : l i = true := by
        have : (i == n || l i) = true := hi
        rwa [show (i == n) = false by simpa using e, Bool.false_or] at this
      exact hV i _ hi' (h.vals i d hi' he)
  | some d =>
    have hlt := dstB_lt hB (n := n) (d := d) (by rw [hdn, hd])
    refine ⟨h.defers, (Tb.put_size _ _ _).trans h.size, fun k hk => ?_, fun i d' hi he => ?_, hS⟩
    · have hkd : k ≠ d := fun e => hk n (by show (n == n || l n) = true; simp) (by rw [hdn, hd, e])
      rw [Tb.put_other _ _ _ _ hkd]
      exact h.other k fun i hi => hk i (by show (i == n || l i) = true; rw [hi, Bool.or_true])
    · by_cases e : i = n
      · subst e
        rw [hdn, hd] at he
        injection he with he
        subst he
        rw [Tb.put_same _ _ _ (by rw [h.size]; exact hlt)]
        exact hv
      · have hi' : l i = true := by
          have : (i == n || l i) = true := hi
          rwa [show (i == n) = false by simpa using e, Bool.false_or] at this
        have hdd : d' ≠ d := fun e2 => dstB_ne hB (n := n) (d := d) (by rw [hdn, hd]) e (by rw [he, e2])
        rw [Tb.put_other _ _ _ _ hdd]
        exact hV i _ hi' (h.vals i d' hi' he)
/-- **A drawn region by its operations' values.** -/
theorem wp_region_val (V : Nat → Value → World → Prop) (S : (Nat → Bool) → World → Prop) {id : Nat} {Q : Exit → Act → World → Prop} {w : World} (hm : P.follows .mixedOrders = true) (hd : downB .any L.toArray = true)
    (hS : ∀ l l' w, (∀ i, i < L.length → l i = l' i) → S l w → S l' w) (h0 : S (fun _ => false) { w with drawn := w.drawn + 1 }) (hst : dstB L a.tmps.size = true → StepsI P .any L.toArray Q (I L V S a) 0 L)
    (hB : dstB L a.tmps.size = true) (hend : ∀ a' w', I L V S a (fun _ => true) a' w' → Q .normal a' w') : (Code.region id L.toArray true).wp P Q a w := by
  refine wp_region_inv (I L V S a) hm hd (fun l l' a' w' he h => ?_) ⟨rfl, rfl, fun _ _ => rfl, (fun i d h => by cases h), h0⟩ (hst hB) hend
  have hlt : ∀ {i d}, dst L i = some d → i < L.length := fun {i d} e => by
    unfold dst at e
    cases hl : L[i]? with
    | none => rw [hl] at e; cases e
    | some o => exact (List.getElem?_eq_some_iff.1 hl).1
  exact ⟨h.defers, h.size, fun k hk => h.other k fun i hi e => hk i (by rw [← he i (hlt e)]; exact hi) e, fun i d hi e => h.vals i d (by rw [he i (hlt e)]; exact hi) e, hS l l' w' he h.st⟩
/-- an operation without a guard -/
theorem step {ops : Array Oper} {Q : Exit → Act → World → Prop} {n : Nat} {o : Oper} (h : I L V S a0 l a W) (hB : dstB L a0.tmps.size = true) (hn : ops[n]? = some o) (hnL : L[n]? = some o) (hg : o.guard = none) (hl : l n = false)
    (hw : o.wp P a W (fun a' W' => ∃ v, a' = a.put o.dst v ∧ (∀ i v, l i = true → V i v W → V i v W') ∧ V n v W' ∧ S (fun j => j == n || l j) W') Q) : wpOp P ops Q n (I L V S a0 (fun j => j == n || l j)) a W := by
  refine Tb.wpOp_of hn hg ?_
  refine Oper.wp_mono (fun a' W' h' => ?_) hw
  obtain ⟨v, rfl, h1, h2, h3⟩ := h'
  exact h.next (sz := 0) hB n hnL v hl h1 h2 h3
/-- .. that leaves the world alone -/
theorem stepQ {ops : Array Oper} {Q : Exit → Act → World → Prop} {n : Nat} {o : Oper} (h : I L V S a0 l a W) (hB : dstB L a0.tmps.size = true) (hn : ops[n]? = some o) (hnL : L[n]? = some o) (hg : o.guard = none) (hl : l n = false)
    (v : Value) (hr : (execOp a.eval o).run P W = .ok (.value v) W) (hv : V n v W) (hS : S l W → S (fun j => j == n || l j) W) : wpOp P ops Q n (I L V S a0 (fun j => j == n || l j)) a W :=
  step h hB hn hnL hg hl (op_val hr ⟨v, rfl, fun _ _ _ h => h, hv, hS h.st⟩)
theorem yield_bool {d g : Nat} (hg : dst L g = some d) {c : Bool} (hv : a.tmps.getD d undef = .bool c) : yielded L.toArray a.tmps g = some c := by
  unfold yielded
  unfold dst at hg
  rw [List.getElem?_toArray, hg]
  have hd : a.tmps[d]? = some (.bool c) := by
    rw [Array.getD_eq_getD_getElem?] at hv
    cases h : a.tmps[d]? with
    | none => rw [h] at hv; cases hv
    | some x => rw [h] at hv; simpa using hv
  simp [hd]
/-- an operation with a guard -/
theorem stepG {Q : Exit → Act → World → Prop} {n : Nat} {o : Oper} (h : I L V S a0 l a W) (hB : dstB L a0.tmps.size = true) (hnL : L[n]? = some o) (g : Nat) (b : Bool) (hg : o.guard = some (g, b)) (d : Nat) (hd : dst L g = some d) (c : Bool) (hc : a.tmps.getD d undef = .bool c) (hl : l n = false)
    (hw : c = b → o.wp P a W (fun a' W' => ∃ v, a' = a.put o.dst v ∧ (∀ i v, l i = true → V i v W → V i v W') ∧ V n v W' ∧ S (fun j => j == n || l j) W') Q)
    (hno : c ≠ b → V n undef W ∧ S (fun j => j == n || l j) W) : wpOp P L.toArray Q n (I L V S a0 (fun j => j == n || l j)) a W := by
  unfold wpOp
  rw [List.getElem?_toArray, hnL]
  have hy := yield_bool (L := L) hd hc
  by_cases e : c = b
  · have hwant : Region.wanted o (yielded L.toArray a.tmps) = true := by unfold Region.wanted; rw [hg]; simp [hy, e]
    simp only [hwant, if_true]
    refine .inl (Oper.wp_mono (fun a' W' h' => ?_) (hw e))
    obtain ⟨v, rfl, h1, h2, h3⟩ := h'
    exact h.next (sz := 0) hB n hnL v hl h1 h2 h3
  · have hwant : Region.wanted o (yielded L.toArray a.tmps) = false := by unfold Region.wanted; rw [hg]; simp [hy, e]
    simp only [hwant, if_false, Bool.false_eq_true]
    obtain ⟨h1, h2⟩ := hno e
    exact h.next (sz := 0) hB n hnL undef hl (fun _ _ _ h => h) h1 h2
theorem stepQG {Q : Exit → Act → World → Prop} {n : Nat} {o : Oper} (h : I L V S a0 l a W) (hB : dstB L a0.tmps.size = true) (hnL : L[n]? = some o) (g : Nat) (b : Bool) (hg : o.guard = some (g, b)) (d : Nat) (hd : dst L g = some d) (hc : a.tmps.getD d undef = .bool b) (hl : l n = false)
    (v : Value) (hr : (execOp a.eval o).run P W = .ok (.value v) W) (hv : V n v W) (hS : S l W → S (fun j => j == n || l j) W) : wpOp P L.toArray Q n (I L V S a0 (fun j => j == n || l j)) a W :=
  stepG h hB hnL g b hg d hd b hc hl (fun _ => op_val hr ⟨v, rfl, fun _ _ _ h => h, hv, hS h.st⟩) (fun e => absurd rfl e)
end
end Go.Proofs.YtnbmmhoofilmfaaDoor.Vl

/- Operations one by one, for XVal. No program in sight. -/
namespace Go.Proofs.YtnbmmhoofilmfaaDoor.Vl
open Go.RowKit Go.Proofs.YtnbmmhoofilmfaaDoor
set_option linter.unusedVariables false
section
variable {P : Program} {W : World} {o : Oper} {a : Act}
theorem r_move {v : Value} (x : Operand) (ho : o.op = .move x) (hx : a.eval x = v) : (execOp a.eval o).run P W = .ok (.value v) W := by simp [execOp, ho, hx]
theorem r_assign {v : Value} (x : Operand) (ho : o.op = .assign x) (hx : a.eval x = v) : (execOp a.eval o).run P W = .ok (.value v) W := by simp [execOp, ho, hx]
theorem r_pick (c x y : Operand) (b : Bool) {v : Value} (ho : o.op = .pick c x y) (hc : a.eval c = .bool b) (hv : (if b then a.eval x else a.eval y) = v) : (execOp a.eval o).run P W = .ok (.value v) W := by
  subst hv; cases b <;> simp [execOp, ho, hc, asBool]
theorem r_not (ty : TypeId) (x : Operand) (b : Bool) (ho : o.op = .unOp .not ty x) (hx : a.eval x = .bool b) : (execOp a.eval o).run P W = .ok (.value (.bool !b)) W := by
  simp [execOp, ho, hx, Op.unary]
theorem r_extract {v : Value} (x : Operand) (i : Nat) (vs : Array Value) (ho : o.op = .extract x i) (hx : a.eval x = .tuple vs) (hv : vs[i]? = some v) : (execOp a.eval o).run P W = .ok (.value v) W := by
  simp [execOp, ho, hx, Instr.extract, hv]
theorem r_len (x : Operand) (t : TypeId) (ho : o.op = .call { callee := .builtin .len, args := #[x], argTypes := #[t] }) (e : TypeId) (hu : P.underlying t = some (.slice e)) (b : Option Addr) (n c : Nat) (hx : a.eval x = .slice b n c) : (execOp a.eval o).run P W = .ok (.value (goInt n)) W := by
  simp [execOp, ho, resolve, invoke, builtin, hx, Builtin.len_, run_underlying hu, Result.andThen]
theorem r_ldc {v : Value} (ty : TypeId) (x : Operand) (ho : o.op = .load ty x) (g j : Nat) (hx : a.eval x = .pointer (some ⟨g, j, none⟩))
    (hc : W.cell? ⟨g, j, none⟩ = some v) (hagg : (isAgg ty).run P W = .ok false W) : (execOp a.eval o).run P W = .ok (.value v) W := by
  unfold execOp
  simp only [ho, hx, Instr.loadAt, Instr.sureAddr, Sem.run_bind, Sem.run_pure, Result.andThen_ok]
  simp [loadVar, Sem.run_bind, hagg, hc]
theorem r_ldrow (T : TypeId) (p : Operand) (ho : o.op = .load T p) (g : Nat) (cs : Array Value) (d : TypeDesc) (hx : a.eval p = .pointer (some ⟨g, 0, none⟩)) (hI : At W g T cs) (hu : P.underlying T = some d) (hd : (match d with | .struct _ | .array _ _ => true | _ => false) = true)
    (hi : (P.info? T).map (·.size) = some cs.size) : (execOp a.eval o).run P W = .ok (.value (.agg cs)) W := by
  unfold execOp
  simp only [ho, hx, Instr.loadAt, Instr.sureAddr, Sem.run_bind, Sem.run_pure, Result.andThen_ok, run_loadVar_row W g T T cs (0, 0) d hI hu hd hi]
theorem r_mks {v : Value} {W' : World} (t : TypeId) (l c : Operand) (x y : Value) (ho : o.op = .makeSlice t l c) (hl : a.eval l = x) (hc : a.eval c = y) (hr : (Instr.makeSlice t x y).run P W = .ok v W') : (execOp a.eval o).run P W = .ok (.value v) W' := by
  simp [execOp, ho, hl, hc, hr]
theorem r_alloc {v : Value} {W' : World} (t : TypeId) (ho : o.op = .alloc t) (hr : (Instr.alloc t true (.tuple #[])).run P W = .ok v W') : (execOp a.eval o).run P W = .ok (.value v) W' := by
  simp [execOp, ho, hr]
theorem r_call2 (f : FuncId) (x y : Operand) (tys : Array TypeId) (u v : Value) (ho : o.op = .call { callee := .value (.func f), args := #[x, y], argTypes := tys }) (hx : a.eval x = u) (hy : a.eval y = v)
    (hr : ((do let d ← Deferred.ofValue (a.eval (.func f)) #[u, v]; invoke d.target d.args) : Sem Next).run P W = .ok (.enter f #[u, v]) W) : (execOp a.eval o).run P W = .ok (.enter f #[u, v]) W := by
  rw [← hr]
  unfold execOp
  rw [ho]
  simp only [resolve]
  simp [hx, hy]
theorem op_call {K : Act → World → Prop} {Q : Exit → Act → World → Prop} (f : FuncId) (args : Array Value) (hrun : (execOp a.eval o).run P W = .ok (.enter f args) W) (hc : Calls P f args W fun e W' => ∃ v, e = .returned v ∧ K (a.put o.dst v) W') : o.wp P a W K Q := by
  unfold Oper.wp; rw [hrun]
  refine hc.mono ?_
  rintro e W' ⟨v, rfl, h⟩
  exact h
theorem foldl_put (a : Act) : ∀ (ds : List Nat) (x : Act), (ds.foldl (fun x d => x.put (some d) (a.tmps.getD d undef)) x).defers = x.defers ∧ (ds.foldl (fun x d => x.put (some d) (a.tmps.getD d undef)) x).tmps.size = x.tmps.size ∧
    ∀ k, k < x.tmps.size → ((ds.foldl (fun x d => x.put (some d) (a.tmps.getD d undef)) x).tmps.getD k undef = if k ∈ ds then a.tmps.getD k undef else x.tmps.getD k undef)
  | [], x => ⟨rfl, rfl, fun k _ => by simp⟩
  | d :: ds, x => by
    obtain ⟨h1, h2, h3⟩ := foldl_put a ds (x.put (some d) (a.tmps.getD d undef))
    rw [List.foldl_cons]
    refine ⟨h1.trans rfl, h2.trans (Tb.put_size _ _ _), fun k hk => ?_⟩
    rw [h3 k (by rw [Tb.put_size]; exact hk)]
    by_cases hm : k ∈ ds
    · rw [if_pos hm, if_pos (List.mem_cons_of_mem _ hm)]
    · rw [if_neg hm]
      by_cases e : k = d
      · subst e
        rw [if_pos (List.mem_cons_self ..), Tb.put_same _ _ _ hk]
      · rw [if_neg (by simp [e, hm]), Tb.put_other _ _ _ _ e]
theorem I.all {L : List Oper} {V : Nat → Value → World → Prop} {S : (Nat → Bool) → World → Prop} {a0 : Act} (h : I L V S a0 (fun _ => true) a W) (ds : List Nat) (hd : ∀ i d, dst L i = some d → d ∈ ds) : a = ds.foldl (fun x d => x.put (some d) (a.tmps.getD d undef)) a0 := by
  obtain ⟨h1, h2, h3⟩ := foldl_put a ds a0
  generalize (ds.foldl (fun x d => x.put (some d) (a.tmps.getD d undef)) a0) = y at h1 h2 h3
  have hs : a.tmps = y.tmps := by
    refine Array.ext (h.size.trans h2.symm) fun k hk1 hk2 => ?_
    have e : a.tmps.getD k undef = y.tmps.getD k undef := by
      rw [h3 k (by rw [← h.size]; exact hk1)]
      by_cases hm : k ∈ ds
      · rw [if_pos hm]
      · rw [if_neg hm]
        exact h.other k fun i _ e => hm (hd i k e)
    rw [Array.getD_eq_getD_getElem?, Array.getD_eq_getD_getElem?, Array.getElem?_eq_getElem hk1, Array.getElem?_eq_getElem hk2] at e
    exact e
  have hdf : a.defers = y.defers := h.defers.trans h1.symm
  cases a
  cases y
  simp only at hs hdf
  rw [hs, hdf]
theorem ds_in {L : List Oper} {ds : List Nat} (h : (List.range L.length).all (fun i => match dst L i with | none => true | some d => ds.contains d) = true) (i d : Nat) (hd : dst L i = some d) : d ∈ ds := by
  have hi : i < L.length := by
    unfold dst at hd
    cases hl : L[i]? with
    | none => rw [hl] at hd; cases hd
    | some o => exact (List.getElem?_eq_some_iff.1 hl).1
  have := (List.all_eq_true.1 h) i (List.mem_range.2 hi)
  rw [hd] at this
  simpa using this
end
end Go.Proofs.YtnbmmhoofilmfaaDoor.Vl

/- As XVal, where what a slot holds may turn with what has come up. No program in sight. -/
namespace Go.Proofs.YtnbmmhoofilmfaaDoor.Vm
open Go.RowKit Go.Proofs.YtnbmmhoofilmfaaDoor Go.Proofs.YtnbmmhoofilmfaaDoor.Vl
set_option linter.unusedVariables false

/-- what holds between the operations: R l W, and of each that has come up V i v W -/
structure I (L : List Oper) (V : (Nat → Bool) → Nat → Value → World → Prop) (S : (Nat → Bool) → World → Prop) (a0 : Act) (l : Nat → Bool) (a : Act) (W : World) : Prop where
  defers : a.defers = a0.defers
  size : a.tmps.size = a0.tmps.size
  other : ∀ k, (∀ i, l i = true → dst L i ≠ some k) → a.tmps.getD k undef = a0.tmps.getD k undef
  vals : ∀ i d, l i = true → dst L i = some d → V l i (a.tmps.getD d undef) W
  st : S l W
section
variable {P : Program} {L : List Oper} {V : (Nat → Bool) → Nat → Value → World → Prop} {S : (Nat → Bool) → World → Prop} {a0 : Act} {l : Nat → Bool} {a : Act} {W W' : World}
/-- a slot that no operation of the region writes -/
theorem I.old (h : I L V S a0 l a W) (k : Nat) (hk : (List.range L.length).all (fun i => dst L i != some k) = true) : a.tmps.getD k undef = a0.tmps.getD k undef := by
  refine h.other k fun i _ e => ?_
  have hi : i < L.length := by
    unfold dst at e
    cases hl : L[i]? with
    | none => rw [hl] at e; cases e
    | some o => exact (List.getElem?_eq_some_iff.1 hl).1
  have := (List.all_eq_true.1 hk) i (List.mem_range.2 hi)
  rw [e] at this
  simp at this
/-- operation n has come up with the value v -/
theorem I.next (h : I L V S a0 l a W) {sz : Nat} (hB : dstB L a0.tmps.size = true) (n : Nat) {o : Oper} (ho : L[n]? = some o) (v : Value) (hl : l n = false) (hV : ∀ i d, l i = true → dst L i = some d → V l i (a.tmps.getD d undef) W → V (fun j => j == n || l j) i (a.tmps.getD d undef) W') (hv : V (fun j => j == n || l j) n v W') (hS : S (fun j => j == n || l j) W') :
    I L V S a0 (fun j => j == n || l j) (a.put o.dst v) W' := by
  have hdn : dst L n = o.dst := by unfold dst; rw [ho]; rfl
  cases hd : o.dst with
  | none =>
    refine ⟨h.defers, h.size, fun k hk => h.other k fun i hi => hk i (by show (i == n || l i) = true; rw [hi, Bool.or_true]), fun i d hi he => ?_, hS⟩
    by_cases e : i = n
    · subst e; rw [hdn, hd] at he; cases he
    · have hi' : l i = true := by
        have : (i == n || l i) = true := hi
        rwa [show (i == n) = false by simpa using e, Bool.false_or] at this
      exact hV i d hi' he (h.vals i d hi' he)
  | some d =>
    have hlt := dstB_lt hB (n := n) (d := d) (by rw [hdn, hd])
    refine ⟨h.defers, (Tb.put_size _ _ _).trans h.size, fun k hk => ?_, fun i d' hi he => ?_, hS⟩
    · have hkd : k ≠ d := fun e => hk n (by show (n == n || l n) = true; simp) (by rw [hdn, hd, e])
      rw [Tb.put_other _ _ _ _ hkd]
      exact h.other k fun i hi => hk i (by show (i == n || l i) = true; rw [hi, Bool.or_true])
    · by_cases e : i = n
      · subst e
        rw [hdn, hd] at he
        injection he with he
        subst he
        rw [Tb.put_same _ _ _ (by rw [h.size]; exact hlt)]
        exact hv
      · have hi' : l i = true := by
          have : (i == n || l i) = true := hi
          rwa [show (i == n) = false by simpa using e, Bool.false_or] at this
        have hdd : d' ≠ d := fun e2 => dstB_ne hB (n := n) (d := d) (by rw [hdn, hd]) e (by rw [he, e2])
        rw [Tb.put_other _ _ _ _ hdd]
        exact hV i d' hi' he (h.vals i d' hi' he)
/-- **A drawn region by its operations' values.** -/
theorem wp_region_val (V : (Nat → Bool) → Nat → Value → World → Prop) (S : (Nat → Bool) → World → Prop) {id : Nat} {Q : Exit → Act → World → Prop} {w : World} (hm : P.follows .mixedOrders = true) (hd : downB .any L.toArray = true)
    (hVl : ∀ l l', (∀ i, i < L.length → l i = l' i) → ∀ i v w, V l i v w → V l' i v w) (hS : ∀ l l' w, (∀ i, i < L.length → l i = l' i) → S l w → S l' w) (h0 : S (fun _ => false) { w with drawn := w.drawn + 1 }) (hst : dstB L a.tmps.size = true → StepsI P .any L.toArray Q (I L V S a) 0 L)
    (hB : dstB L a.tmps.size = true) (hend : ∀ a' w', I L V S a (fun _ => true) a' w' → Q .normal a' w') : (Code.region id L.toArray true).wp P Q a w := by
  refine wp_region_inv (I L V S a) hm hd (fun l l' a' w' he h => ?_) ⟨rfl, rfl, fun _ _ => rfl, (fun i d h => by cases h), h0⟩ (hst hB) hend
  have hlt : ∀ {i d}, dst L i = some d → i < L.length := fun {i d} e => by
    unfold dst at e
    cases hl : L[i]? with
    | none => rw [hl] at e; cases e
    | some o => exact (List.getElem?_eq_some_iff.1 hl).1
  exact ⟨h.defers, h.size, fun k hk => h.other k fun i hi e => hk i (by rw [← he i (hlt e)]; exact hi) e, fun i d hi e => hVl l l' he i _ w' (h.vals i d (by rw [he i (hlt e)]; exact hi) e), hS l l' w' he h.st⟩
/-- an operation without a guard -/
theorem step {ops : Array Oper} {Q : Exit → Act → World → Prop} {n : Nat} {o : Oper} (h : I L V S a0 l a W) (hB : dstB L a0.tmps.size = true) (hn : ops[n]? = some o) (hnL : L[n]? = some o) (hg : o.guard = none) (hl : l n = false)
    (hw : o.wp P a W (fun a' W' => ∃ v, a' = a.put o.dst v ∧ (∀ i d, l i = true → dst L i = some d → V l i (a.tmps.getD d undef) W → V (fun j => j == n || l j) i (a.tmps.getD d undef) W') ∧ V (fun j => j == n || l j) n v W' ∧ S (fun j => j == n || l j) W') Q) : wpOp P ops Q n (I L V S a0 (fun j => j == n || l j)) a W := by
  refine Tb.wpOp_of hn hg ?_
  refine Oper.wp_mono (fun a' W' h' => ?_) hw
  obtain ⟨v, rfl, h1, h2, h3⟩ := h'
  exact h.next (sz := 0) hB n hnL v hl h1 h2 h3
/-- .. that leaves the world alone -/
theorem stepQ {ops : Array Oper} {Q : Exit → Act → World → Prop} {n : Nat} {o : Oper} (h : I L V S a0 l a W) (hB : dstB L a0.tmps.size = true) (hn : ops[n]? = some o) (hnL : L[n]? = some o) (hg : o.guard = none) (hl : l n = false)
    (v : Value) (hr : (execOp a.eval o).run P W = .ok (.value v) W) (hVq : ∀ i v, V l i v W → V (fun j => j == n || l j) i v W) (hv : V (fun j => j == n || l j) n v W) (hS : S l W → S (fun j => j == n || l j) W) : wpOp P ops Q n (I L V S a0 (fun j => j == n || l j)) a W :=
  step h hB hn hnL hg hl (op_val hr ⟨v, rfl, fun _ _ _ _ h => hVq _ _ h, hv, hS h.st⟩)
end
end Go.Proofs.YtnbmmhoofilmfaaDoor.Vm
