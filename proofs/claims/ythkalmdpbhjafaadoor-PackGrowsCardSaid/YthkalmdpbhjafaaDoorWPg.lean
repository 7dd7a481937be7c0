/- PackGrows. -/
import Derived.Test.YthkalmdpbhjafaaDoorPk13
namespace Go.Proofs.YthkalmdpbhjafaaDoor
open Go.RowKit
set_option linter.unusedVariables false

theorem sizeOf_ge (c r : Int) : 0 ≤ sizeOf c r := by unfold sizeOf; split <;> omega
set_option maxRecDepth 100000 in
set_option maxHeartbeats 8000000 in
theorem packGrows_walk (a b : Int) (ha : -9223372036854775808 ≤ a ∧ a ≤ 9223372036854775807) (hb : -9223372036854775808 ≤ b ∧ b ≤ 9223372036854775807) (w : World) (hT : Tab w) : Calls Tryd.prog 9 #[.int .i64 a, .int .i64 b] w fun e w' => e = .returned (.bool true) ∧ Below w.heap.size w w' := by
  by_cases h1 : a < 0
  · go_enter Tryd.func9, Tryd.ntmps9
    go_wp2_with fail
    refine (awake15 w hT).mono ?_
    rintro e w1 ⟨rfl, hb1⟩
    have hz := sizeOf_ge a b
    go_wp2_with fail
    refine (packSize_any a b w1).mono ?_
    rintro e w2 ⟨rfl, rfl⟩
    go_wp2_with fail
    go_ret
    exact ⟨by simp, hb1⟩
  by_cases h2 : b < 0
  · go_enter Tryd.func9, Tryd.ntmps9
    go_wp2_with fail
    refine (awake15 w hT).mono ?_
    rintro e w1 ⟨rfl, hb1⟩
    have hz := sizeOf_ge a b
    go_wp2_with fail
    refine (packSize_any a b w1).mono ?_
    rintro e w2 ⟨rfl, rfl⟩
    go_wp2_with fail
    go_ret
    exact ⟨by simp, hb1⟩
  by_cases h3 : 2048 ≤ a
  · go_enter Tryd.func9, Tryd.ntmps9
    go_wp2_with fail
    refine (awake15 w hT).mono ?_
    rintro e w1 ⟨rfl, hb1⟩
    have hz := sizeOf_ge a b
    go_wp2_with fail
    refine (packSize_any a b w1).mono ?_
    rintro e w2 ⟨rfl, rfl⟩
    go_wp2_with fail
    go_ret
    exact ⟨by simp, hb1⟩
  by_cases h4 : 2048 ≤ b
  · go_enter Tryd.func9, Tryd.ntmps9
    go_wp2_with fail
    refine (awake15 w hT).mono ?_
    rintro e w1 ⟨rfl, hb1⟩
    have hz := sizeOf_ge a b
    go_wp2_with fail
    refine (packSize_any a b w1).mono ?_
    rintro e w2 ⟨rfl, rfl⟩
    go_wp2_with fail
    go_ret
    exact ⟨by simp, hb1⟩
  by_cases h0 : a + b = 0
  · obtain rfl : a = 0 := by omega
    obtain rfl : b = 0 := by omega
    clear ha hb h0 h1 h2 h3 h4
    go_enter Tryd.func9, Tryd.ntmps9
    go_wp2_with fail
    refine (awake15 w hT).mono ?_
    rintro e w1 ⟨rfl, hb1⟩
    go_wp2_with fail
    refine (packSize_any 0 0 w1).mono ?_
    rintro e w2 ⟨rfl, rfl⟩
    rw [show sizeOf (0 : Int) 0 = 0 by decide]
    go_wp2_with fail
    refine (packSize_any 1 0 w1).mono ?_
    rintro e w2 ⟨rfl, rfl⟩
    rw [show sizeOf (1 : Int) 0 = 3 by decide]
    go_wp2_with fail
    refine (packSize_any 0 1 w1).mono ?_
    rintro e w2 ⟨rfl, rfl⟩
    rw [show sizeOf (0 : Int) 1 = 2 by decide]
    go_wp2_with fail
    go_ret
    exact ⟨rfl, hb1⟩
  have h1' : 0 ≤ a := by omega
  have h2' : 0 ≤ b := by omega
  have h3' : a < 2048 := by omega
  have h4' : b < 2048 := by omega
  have w1' : IntKind.i64.wrap (a + 1) = a + 1 := IntWalk.i64_in _ (by omega)
  have w2' : IntKind.i64.wrap (b + 1) = b + 1 := IntWalk.i64_in _ (by omega)
  have w3' : IntKind.i64.wrap (a + b) = a + b := IntWalk.i64_in _ (by omega)
  have hn : sizeOf a b = a + (a + 29) / 30 + (b + 59) / 60 + 1 := by unfold sizeOf; rw [if_neg (by omega)]
  have hn1 : sizeOf (a + 1) b = a + 1 + (a + 1 + 29) / 30 + (b + 59) / 60 + 1 := by unfold sizeOf; rw [if_neg (by omega)]
  have hn2 : sizeOf a (b + 1) = a + (a + 29) / 30 + (b + 1 + 59) / 60 + 1 := by unfold sizeOf; rw [if_neg (by omega)]
  obtain ⟨x, hx⟩ : ∃ x, x = sizeOf (a + 1) b - sizeOf a b := ⟨_, rfl⟩
  obtain ⟨y, hy⟩ : ∃ y, y = sizeOf a (b + 1) - sizeOf a b := ⟨_, rfl⟩
  have hxb : x = 1 ∧ a % 30 ≠ 0 ∨ x = 2 ∧ a % 30 = 0 := by omega
  have hyb : y = 0 ∧ b % 60 ≠ 0 ∨ y = 1 ∧ b % 60 = 0 := by omega
  have wx : IntKind.i64.wrap (sizeOf (a + 1) b - sizeOf a b) = x := by rw [IntWalk.i64_in _ (by omega), hx]
  have wy : IntKind.i64.wrap (sizeOf a (b + 1) - sizeOf a b) = y := by rw [IntWalk.i64_in _ (by omega), hy]
  clear hn hn1 hn2 hx hy
  go_enter Tryd.func9, Tryd.ntmps9
  go_wp2_with fail
  refine (awake15 w hT).mono ?_
  rintro e w1 ⟨rfl, hb1⟩
  go_wp2_with fail
  refine (packSize_any a b w1).mono ?_
  rintro e w2 ⟨rfl, rfl⟩
  go_wp2_with fail
  refine (packSize_any (a + 1) b w1).mono ?_
  rintro e w2 ⟨rfl, rfl⟩
  go_wp2_with fail
  refine (packSize_any a (b + 1) w1).mono ?_
  rintro e w2 ⟨rfl, rfl⟩
  rcases hxb with ⟨rfl, hx⟩ | ⟨rfl, hx⟩ <;> rcases hyb with ⟨rfl, hy⟩ | ⟨rfl, hy⟩
  · clear h1 h2 h3 h4
    have qx : (a % 30 == 0) = false := by rw [beq_eq_false_iff_ne]; exact hx
    have qy : (b % 60 == 0) = false := by rw [beq_eq_false_iff_ne]; exact hy
    go_wp2_with fail
    go_ret
    exact ⟨by simp [*], hb1⟩
  · clear h1 h2 h3 h4
    have qx : (a % 30 == 0) = false := by rw [beq_eq_false_iff_ne]; exact hx
    have qy : (b % 60 == 0) = true := by rw [beq_iff_eq]; exact hy
    go_wp2_with fail
    go_ret
    exact ⟨by simp [*], hb1⟩
  · clear h1 h2 h3 h4
    have qx : (a % 30 == 0) = true := by rw [beq_iff_eq]; exact hx
    have qy : (b % 60 == 0) = false := by rw [beq_eq_false_iff_ne]; exact hy
    go_wp2_with fail
    go_ret
    exact ⟨by simp [*], hb1⟩
  · clear h1 h2 h3 h4
    have qx : (a % 30 == 0) = true := by rw [beq_iff_eq]; exact hx
    have qy : (b % 60 == 0) = true := by rw [beq_iff_eq]; exact hy
    go_wp2_with fail
    go_ret
    exact ⟨by simp [*], hb1⟩
end Go.Proofs.YthkalmdpbhjafaaDoor
