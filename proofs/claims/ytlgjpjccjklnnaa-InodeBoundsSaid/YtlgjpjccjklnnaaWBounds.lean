/- The walk of the law InodeBounds. -/
import Derived.Test.YtlgjpjccjklnnaaAwake7
namespace Go.Proofs.Ytlgjpjccjklnnaa
open Go.RowKit Go.Shelf
set_option linter.unusedVariables false

def xk (k l s : Int) : Ino := ⟨k, l, 0, s, fun _ => 0, 0⟩
theorem xk_ok (k l s : Int) (hk : 0 ≤ k ∧ k < 256) (hl : -9223372036854775808 ≤ l ∧ l ≤ 9223372036854775807) (hs : -9223372036854775808 ≤ s ∧ s ≤ 9223372036854775807) : (xk k l s).Ok :=
  ⟨hk, hl, by simp [xk], hs, fun i => by simp [xk], by simp [xk]⟩
theorem may_xk (k l s : Int) : (xk k l s).May ↔ (k = 0 ∧ l = 0 ∧ s = 0) ∨ (k = 1 ∧ 0 ≤ l ∧ l ≤ 1000 ∧ 0 ≤ s ∧ s ≤ 16777216) ∨ (k = 2 ∧ l = 1 ∧ 0 ≤ s ∧ s ≤ 16777216 ∧ s % 256 = 0) := by
  unfold Ino.May xk
  have : allZ (fun _ => (0 : Int)) 11 = true := by decide
  simp only [this, and_true]
theorem may_file (l s : Int) : (xk 1 l s).May ↔ 0 ≤ l ∧ l ≤ 1000 ∧ 0 ≤ s ∧ s ≤ 16777216 := by rw [may_xk]; simp
theorem may_dir (l s : Int) : (xk 2 l s).May ↔ l = 1 ∧ 0 ≤ s ∧ s ≤ 16777216 ∧ s % 256 = 0 := by rw [may_xk]; simp
theorem may_free (l s : Int) : (xk 0 l s).May ↔ l = 0 ∧ s = 0 := by rw [may_xk]; simp

set_option maxRecDepth 100000 in
set_option maxHeartbeats 8000000 in
theorem bounds_walk (l s : Int) (w : World) (hl : -9223372036854775808 ≤ l ∧ l ≤ 9223372036854775807) (hs : -9223372036854775808 ≤ s ∧ s ≤ 9223372036854775807) :
    Calls Try.prog 9 #[.int .i64 l, .int .i64 s] w fun e w' => e = .returned (.bool true) ∧ Below w.heap.size w w' := by
  have o1 := xk_ok 1 l s (by decide) hl hs
  have o2 := xk_ok 2 l s (by decide) hl hs
  have o0 := xk_ok 0 l s (by decide) hl hs
  obtain ⟨hl0, hl1⟩ := hl
  obtain ⟨hs0, hs1⟩ := hs
  obtain ⟨F, hF⟩ : ∃ F, F = decide (0 ≤ l ∧ l ≤ 1000 ∧ 0 ≤ s ∧ s ≤ 16777216) := ⟨_, rfl⟩
  obtain ⟨D, hD⟩ : ∃ D, D = decide (l = 1 ∧ 0 ≤ s ∧ s ≤ 16777216 ∧ s % 256 = 0) := ⟨_, rfl⟩
  obtain ⟨R, hR⟩ : ∃ R, R = decide (l = 0 ∧ s = 0) := ⟨_, rfl⟩
  have m1 := may_any (xk 1 l s) o1
  have m2 := may_any (xk 2 l s) o2
  have m0 := may_any (xk 0 l s) o0
  rw [show decide (xk 1 l s).May = decide (0 ≤ l ∧ l ≤ 1000 ∧ 0 ≤ s ∧ s ≤ 16777216) from decide_eq_decide.2 (may_file l s), ← hF] at m1
  rw [show decide (xk 2 l s).May = decide (l = 1 ∧ 0 ≤ s ∧ s ≤ 16777216 ∧ s % 256 = 0) from decide_eq_decide.2 (may_dir l s), ← hD] at m2
  rw [show decide (xk 0 l s).May = decide (l = 0 ∧ s = 0) from decide_eq_decide.2 (may_free l s), ← hR] at m0
  have M1 : Hid (∀ w, Calls _ _ _ w _) := m1
  have M2 : Hid (∀ w, Calls _ _ _ w _) := m2
  have M0 : Hid (∀ w, Calls _ _ _ w _) := m0
  clear m1 m2 m0 o1 o2 o0
  have hal := zero_ino
  have cs : s < 0 ∨ 16777216 < s ∨ s = 0 ∨ (0 < s ∧ s ≤ 16777216 ∧ s % 256 = 0) ∨ (0 < s ∧ s ≤ 16777216 ∧ s % 256 ≠ 0) := by omega
  have cl : l < 0 ∨ l = 0 ∨ l = 1 ∨ (2 ≤ l ∧ l ≤ 1000) ∨ 1000 < l := by omega
  have ht : 0 ≤ s → s.tmod 256 = s % 256 := fun h => Int.tmod_eq_emod_of_nonneg h
  go_enter Try.func9, Try.ntmps9
  go_wp2_with fail
  refine (awake7 _).mono ?_
  rintro e w1 ⟨rfl, hb1⟩
  rcases cs with cs | cs | cs | cs | cs <;> rcases cl with cl | cl | cl | cl | cl
  all_goals
    first | have eF : F = true := by (rw [hF, decide_eq_true_iff]; omega) | have eF : F = false := by (rw [hF, decide_eq_false_iff_not]; omega)
    subst eF
    first | have eD : D = true := by (rw [hD, decide_eq_true_iff]; omega) | have eD : D = false := by (rw [hD, decide_eq_false_iff_not]; omega)
    subst eD
    first | have eR : R = true := by (rw [hR, decide_eq_true_iff]; omega) | have eR : R = false := by (rw [hR, decide_eq_false_iff_not]; omega)
    subst eR
    clear hF hD hR
    try rw [show s.tmod 256 = s % 256 from ht (by omega)]
    have ht' : 0 ≤ s → s.tmod 256 = s % 256 := ht
    clear ht
    first | have d1 : (decide (0 ≤ l)) = true := by simp; omega | have d1 : (decide (0 ≤ l)) = false := by simp; omega
    first | have d2 : (decide (l ≤ 1000)) = true := by simp; omega | have d2 : (decide (l ≤ 1000)) = false := by simp; omega
    first | have d3 : (decide (0 ≤ s)) = true := by simp; omega | have d3 : (decide (0 ≤ s)) = false := by simp; omega
    first | have d4 : (decide (s ≤ 16777216)) = true := by simp; omega | have d4 : (decide (s ≤ 16777216)) = false := by simp; omega
    first | have q1 : (l == 1) = true := by simp; omega | have q1 : (l == 1) = false := by simp; omega
    first | have q0 : (l == 0) = true := by simp; omega | have q0 : (l == 0) = false := by simp; omega
    first | have r0 : (s == 0) = true := by simp; omega | have r0 : (s == 0) = false := by simp; omega
    first | have t1 : (s.tmod 256 == 0) = true := by (rw [ht' (by omega)]; simp; omega) | have t1 : (s.tmod 256 == 0) = false := by (rw [ht' (by omega)]; simp; omega) | skip
    have CS := Lib.hid cs
    have CL := Lib.hid cl
    clear cs cl ht'
    go_wp2_with fail
    refine (M1.out _).mono ?_
    rintro e w2 ⟨rfl, hb2⟩
    go_wp2_with fail
    refine (M2.out _).mono ?_
    rintro e w3 ⟨rfl, hb3⟩
    go_wp2_with fail
    refine (M0.out _).mono ?_
    rintro e w4 ⟨rfl, hb4⟩
    go_wp2_with fail
    go_ret
    exact ⟨rfl, ((hb1.trans (hb2.mono hb1.size)).trans (hb3.mono (Nat.le_trans hb1.size hb2.size))).trans (hb4.mono (Nat.le_trans (Nat.le_trans hb1.size hb2.size) hb3.size))⟩
end Go.Proofs.Ytlgjpjccjklnnaa
