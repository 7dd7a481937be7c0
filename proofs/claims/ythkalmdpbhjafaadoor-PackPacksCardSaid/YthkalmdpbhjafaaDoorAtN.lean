/- One cell of a row stored; what grows. No program in sight. -/
import Derived.Test.YthkalmdpbhjafaaDoorMg1
import Derived.Deep.MidRow
namespace Go.Proofs.YthkalmdpbhjafaaDoor
open Go.RowKit
set_option linter.unusedVariables false
theorem RArr.cellset {W : World} {g : Nat} {T : TypeId} {m n : Nat} {f : Nat → List Value} (h : RArr W g T m n f) {k j : Nat} (hk : k < n) (hj : j < m) (hf : ∀ i, (f i).length = m) (v : Value) : RArr (W.setCell ⟨g, k * m + j, none⟩ v) g T m n (fun i => if i = k then (f i).set j v else f i) := by
  have ho := Only.setCell W ⟨g, k * m + j, none⟩ v
  obtain ⟨cs, h1, h2⟩ := h.blk
  obtain ⟨c', hc1, hc2⟩ := ho.shape _ _ _ h1
  refine ⟨⟨c', hc2, by rw [hc1, h2]⟩, fun i hi p u hp => ?_⟩
  rw [Nat.zero_add]
  obtain ⟨x, hx⟩ : ∃ x, W.cell? ⟨g, k * m + j, none⟩ = some x := by
    have := h.seg k hk j _ (List.getElem?_eq_getElem (by rw [hf]; exact hj))
    rw [Nat.zero_add] at this
    exact ⟨_, this⟩
  have hpm : p < m := by
    have := (List.getElem?_eq_some_iff.1 hp).1
    by_cases e : i = k
    · rw [if_pos e, List.length_set, hf] at this; exact this
    · rw [if_neg e, hf] at this; exact this
  by_cases e : i = k
  · subst e
    rw [if_pos rfl] at hp
    by_cases e2 : p = j
    · subst e2
      rw [List.getElem?_set_self (by rw [hf]; exact hpm)] at hp
      cases hp
      exact World.cell?_setCell_same _ _ _ hx
    · rw [List.getElem?_set_ne (fun h => e2 h.symm)] at hp
      rw [World.cell?_setCell_other _ _ _ _ (by intro h; injection h with _ h _; omega)]
      have := h.seg i hi p u hp
      rwa [Nat.zero_add] at this
  · rw [if_neg e] at hp
    have hne : k * m + j ≠ i * m + p := by
      rcases Nat.lt_or_gt_of_ne e with h' | h'
      · have : (i + 1) * m ≤ k * m := Nat.mul_le_mul_right m h'
        rw [Nat.succ_mul] at this; omega
      · have : (k + 1) * m ≤ i * m := Nat.mul_le_mul_right m h'
        rw [Nat.succ_mul] at this; omega
    rw [World.cell?_setCell_other _ _ _ _ (by intro h; injection h with _ h _; exact hne h)]
    have := h.seg i hi p u hp
    rwa [Nat.zero_add] at this
theorem Only.grown {b : Nat} {w w' : World} (h : Only b w w') : w.grownBy w' (some b) := ⟨h.os, h.tape, h.output, by rw [h.size]; exact Nat.le_refl _, fun k _ hk => h.block k (fun e => hk (by rw [e]))⟩
/-- a row stored in the midst of a block: the world behind it gets a name -/
theorem wp_storeMid {P : Program} {ops : Array Oper} {rest : List Oper} {op : Oper} {a : Act} {w : World} {Q : Exit → Act → World → Prop} (hgd : op.guard = none) (ty : TypeId) (x y : Operand) (ho : op.op = .store ty x y)
    (b o : Nat) (cs : List Value) (hx : a.eval x = .pointer (some ⟨b, o, none⟩)) (hy : a.eval y = .agg cs.toArray)
    (ht : w.there b o cs.length) (hi : (P.info? ty).map (·.size) = some cs.length) (h1 : ∀ v ∈ cs, v.oneCell' = true)
    (h : ∀ w', Hid (w' = w.setCells b o cs) → wpList P ops Q rest (a.put op.dst undef) w') : wpList P ops Q (op :: rest) a w :=
  wpList_store_mid hgd ty x y ho b o cs.toArray hx hy (by simpa using ht) (by simpa using hi) (by rw [List.all_toArray, List.all_eq_true]; exact h1) (h _ (Lib.hid rfl))
/-- a literal slice of one element -/
theorem wpList_slice1 {P : Program} {w : World} {ops : Array Oper} {rest : List Oper} {o : Oper} {a : Act} {Q : Exit → Act → World → Prop} (hgd : o.guard = none) (t : TypeId) (n i : Nat) (x : Operand) (ho : o.op = .buildSlice t n #[(i, x)])
    (u : Value) (hx : a.eval x = u) (v : Value) (w' : World) (hr : (Instr.buildSlice t n #[(i, u)]).run P w = .ok v w') (h : wpList P ops Q rest (a.put o.dst v) w') : wpList P ops Q (o :: rest) a w :=
  wpList_plain hgd fun _ hK => by
    unfold Oper.wp execOp
    subst hx
    simp only [ho, Sem.run_bind, List.map_toArray, List.map_cons, List.map_nil, hr, Result.andThen_ok, Sem.run_pure]
    exact hK _ _ h
end Go.Proofs.YthkalmdpbhjafaaDoor
