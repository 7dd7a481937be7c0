/- Contracts of pack.Size and quernref15.Size: both answer the same number for any two integers. Conditions: none. -/
import Derived.Test.YthkalmdpbhjafaaDoorRows
import Derived.Test.YthkalmdpbhjafaaDoorMg0
import Derived.WalkKit
import Derived.ProofKit
import Derived.OpenShut
import Derived.Outline
import Derived.Lib.Hide
namespace Go.Proofs.YthkalmdpbhjafaaDoor
open Go.RowKit

def sizeOf (c r : Int) : Int :=
  if c < 0 ∨ r < 0 ∨ 2048 < c ∨ 2048 < r ∨ (c = 0 ∧ r = 0) then 0 else c + (c + 29) / 30 + (r + 59) / 60 + 1

set_option maxHeartbeats 1000000 in
theorem packSize_any (c r : Int) (w : World) :
    Calls Tryd.prog 22 #[.int .i64 c, .int .i64 r] w fun e w' => e = .returned (.int .i64 (sizeOf c r)) ∧ w = w' := by
  by_cases h1 : c < 0
  · go_enter Tryd.func22, Tryd.ntmps22
    go_wp2
    go_ret
    exact ⟨by simp [sizeOf, h1], rfl⟩
  by_cases h2 : r < 0
  · go_enter Tryd.func22, Tryd.ntmps22
    go_wp2
    go_ret
    exact ⟨by simp [sizeOf, h2], rfl⟩
  by_cases h3 : 2048 < c
  · go_enter Tryd.func22, Tryd.ntmps22
    go_wp2
    go_ret
    exact ⟨by simp [sizeOf, h3], rfl⟩
  by_cases h4 : 2048 < r
  · go_enter Tryd.func22, Tryd.ntmps22
    go_wp2
    go_ret
    exact ⟨by simp [sizeOf, h4], rfl⟩
  by_cases h5 : c = 0
  · subst h5
    by_cases h6 : r = 0
    · subst h6
      go_enter Tryd.func22, Tryd.ntmps22
      go_wp2
      go_ret
      exact ⟨by simp [sizeOf], rfl⟩
    · have h7 : (r == 0) = false := by simp [h6]
      go_enter Tryd.func22, Tryd.ntmps22
      go_wp2
      go_ret
      exact ⟨ret_int (by rw [sizeOf, if_neg (by omega)]; omega), rfl⟩
  · have h7 : (c == 0) = false := by simp [h5]
    go_enter Tryd.func22, Tryd.ntmps22
    go_wp2
    go_ret
    exact ⟨ret_int (by rw [sizeOf, if_neg (by omega)]; omega), rfl⟩

/-- how many rounds are begun of a loop from 0 by d, at k -/
theorem refSize_any (c r : Int) (w : World) :
    Calls Tryd.prog 25 #[.int .i64 c, .int .i64 r] w fun e w' => e = .returned (.int .i64 (sizeOf c r)) ∧ w = w' := by
  by_cases h1 : c < 0
  · go_enter Tryd.func25, Tryd.ntmps25
    go_wp2
    go_ret
    exact ⟨by simp [sizeOf, h1], rfl⟩
  by_cases h2 : r < 0
  · go_enter Tryd.func25, Tryd.ntmps25
    go_wp2
    go_ret
    exact ⟨by simp [sizeOf, h2], rfl⟩
  by_cases h3 : 2048 < c
  · go_enter Tryd.func25, Tryd.ntmps25
    go_wp2
    go_ret
    exact ⟨by simp [sizeOf, h3], rfl⟩
  by_cases h4 : 2048 < r
  · go_enter Tryd.func25, Tryd.ntmps25
    go_wp2
    go_ret
    exact ⟨by simp [sizeOf, h4], rfl⟩
  by_cases h6 : c = 0 ∧ r = 0
  · obtain ⟨rfl, rfl⟩ := h6
    go_enter Tryd.func25, Tryd.ntmps25
    go_wp2
    go_ret
    exact ⟨by simp [sizeOf], rfl⟩
  have hc : sizeOf c r = c + (c + 29) / 30 + (r + 59) / 60 + 1 := by rw [sizeOf, if_neg (by omega)]
  have HC := Lib.hid hc
  clear hc
  by_cases h5 : c = 0
  · subst h5
    have h7 : (r == 0) = false := by simp; omega
    go_enter Tryd.func25, Tryd.ntmps25
    go_wp2
    go_loop [5, 6] (fun n k => k = .int .i64 0 ∧ n = .int .i64 1) (fun _ _ => 0)
    case atStart => exact ⟨rfl, rfl⟩
    case round =>
      obtain ⟨rfl, rfl⟩ := hrel
      go_wp2
      go_loop [5, 7] (fun n k => ∃ j : Int, 0 ≤ j ∧ j ≤ (r + 59) / 60 ∧ k = .int .i64 (60 * j) ∧ n = .int .i64 (1 + j)) (fun _ k => (2108 - intOf k).toNat)
      case atStart => exact ⟨0, by omega, by omega, rfl, rfl⟩
      case round =>
        obtain ⟨j, hj0, hj1, rfl, rfl⟩ := hrel
        by_cases hlt : 60 * j < r
        · go_wp2
          go_round
          case rel => exact ⟨j + 1, by omega, by omega, by go_num, by go_num⟩
          case measure => simp [intOf]; omega
        · go_wp2
          go_ret
          exact ⟨ret_int (by rw [HC.out]; omega), rfl⟩
  · have h7 : (c == 0) = false := by simp [h5]
    go_enter Tryd.func25, Tryd.ntmps25
    go_wp2
    go_loop [5, 6] (fun n k => ∃ j : Int, 0 ≤ j ∧ j ≤ (c + 29) / 30 ∧ k = .int .i64 (30 * j) ∧ n = .int .i64 (1 + c + j)) (fun _ k => (2108 - intOf k).toNat)
    case atStart => exact ⟨0, by omega, by omega, rfl, by go_num⟩
    case round =>
      obtain ⟨j, hj0, hj1, rfl, rfl⟩ := hrel
      by_cases hlt : 30 * j < c
      · go_wp2
        go_round
        case rel => exact ⟨j + 1, by omega, by omega, by go_num, by go_num⟩
        case measure => simp [intOf]; omega
      · have hj : j = (c + 29) / 30 := by omega
        have HJ := Lib.hid hj
        clear hj
        go_wp2
        go_loop [5, 7] (fun n k => ∃ i : Int, 0 ≤ i ∧ i ≤ (r + 59) / 60 ∧ k = .int .i64 (60 * i) ∧ n = .int .i64 (1 + c + j + i)) (fun _ k => (2108 - intOf k).toNat)
        case atStart => exact ⟨0, by omega, by omega, rfl, by go_num⟩
        case round =>
          obtain ⟨i, hi0, hi1, rfl, rfl⟩ := hrel
          by_cases hlt2 : 60 * i < r
          · go_wp2
            go_round
            case rel => exact ⟨i + 1, by omega, by omega, by go_num, by go_num⟩
            case measure => simp [intOf]; omega
          · go_wp2
            go_ret
            exact ⟨ret_int (by rw [HC.out]; have := HJ.out; omega), rfl⟩
end Go.Proofs.YthkalmdpbhjafaaDoor
