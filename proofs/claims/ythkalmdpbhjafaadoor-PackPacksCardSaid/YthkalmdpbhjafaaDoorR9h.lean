/- The contract of quernref09.Kind. -/
import Derived.Test.YthkalmdpbhjafaaDoorR9f
namespace Go.Proofs.YthkalmdpbhjafaaDoor
open Go.RowKit
set_option linter.unusedVariables false

structure RkSt (w : World) (z : Nat → Int) (W : World) : Prop where
  b : Blk W w.heap.size 40 256 z
  bel : Below w.heap.size w W
theorem kind_rng (z : Nat → Int) : kindOf z = 0 ∨ (1 ≤ kindOf z ∧ kindOf z ≤ 4 ∧ seqOf z = wd z 2) := by
  unfold kindOf seqOf
  by_cases h : kindB z = true
  · rw [if_pos h, if_pos h]
    unfold kindB at h
    simp only [Bool.and_eq_true, decide_eq_true_eq] at h
    exact .inr ⟨h.2.2.1, h.2.2.2, rfl⟩
  · rw [if_neg h]; exact .inl rfl
theorem kind_zero (z : Nat → Int) (h : kindOf z = 0) : seqOf z = 0 := by
  unfold kindOf at h
  unfold seqOf
  by_cases hk : kindB z = true
  · rw [if_pos hk] at h
    unfold kindB at hk
    simp only [Bool.and_eq_true, decide_eq_true_eq] at hk
    omega
  · rw [if_neg hk]

end Go.Proofs.YthkalmdpbhjafaaDoor
