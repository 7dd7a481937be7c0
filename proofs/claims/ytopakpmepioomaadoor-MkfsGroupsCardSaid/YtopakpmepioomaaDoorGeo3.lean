/- geo.Blocks, geo.Start. -/
import Derived.Test.YtopakpmepioomaaDoorData
import Derived.Test.YtopakpmepioomaaDoorRef5
namespace Go.Proofs.YtopakpmepioomaaDoor
open Go.RowKit
set_option linter.unusedVariables false

set_option maxHeartbeats 2000000 in
theorem geoBlocks_any (G S I J : Int) (w : World) : Calls Tryd.prog 28 #[gval G S I J] w fun e w' => e = .returned (.int .i64 (nBl G S I J)) ∧ Below w.heap.size w w' := by
  have HA := Lib.hid (At.new w 23 (gcells G S I J))
  have HL : Hid (Below w.heap.size w (w.alloc (.cells (gcells G S I J) 23))) := (Below.refl _ _).alloc (Nat.le_refl _) _
  go_enter Tryd.func28, Tryd.ntmps28
  have hA := HA.out
  go_wp2_with (first | (refine wp_loadAtG rfl 23 _ rfl _ _ _ rfl hA Tryd.underlying23 rfl (by kernel_rfl) ?_))
  refine (geoMay_any G S I J _).mono ?_
  rintro e w1 ⟨rfl, hb1⟩
  have hA1 := hA.below hb1 hA.lt
  have hL1 : Below w.heap.size w w1 := HL.out.trans (hb1.mono HL.out.size)
  clear hA HA HL hb1
  cases hm : mayG G S I J with
  | false =>
    have HN : Hid (nBl G S I J = 0) := by show _ = _; unfold nBl; rw [hm]; rfl
    clear hm
    go_wp2_with fail
    go_ret
    exact ⟨by rw [HN.out]; rfl, hL1⟩
  | true =>
    have HN : Hid (nBl G S I J = 2 + J + G * S) := by show _ = _; unfold nBl; rw [hm]; rfl
    obtain ⟨h1, h2, h3, h4, h5, h6, h7, h8, h9, h10, h11⟩ := (mayG_iff G S I J).1 hm
    have hg0 : 0 ≤ G * S := Int.mul_nonneg (by omega) (by omega)
    have hw : IntKind.i64.wrap (G * S) = G * S := IntWalk.i64_in _ (by omega)
    have hw1 : IntKind.i64.wrap (2 + J) = 2 + J := IntWalk.i64_in _ (by omega)
    have hw2 : IntKind.i64.wrap (2 + J + G * S) = 2 + J + G * S := IntWalk.i64_in _ (by omega)
    have c0 : w1.cell? ⟨w.heap.size, 0, none⟩ = some (.int .i64 G) := hA1.cell (i := 0) rfl
    have c1 : w1.cell? ⟨w.heap.size, 1, none⟩ = some (.int .i64 S) := hA1.cell (i := 1) rfl
    have c3 : w1.cell? ⟨w.heap.size, 3, none⟩ = some (.int .i64 J) := hA1.cell (i := 3) rfl
    clear hm h11
    go_wp2_with fail
    go_ret
    exact ⟨by rw [HN.out]; rfl, hL1⟩
/-- is there such a group? -/
def isGr (G S I J k : Int) : Bool := mayG G S I J && (decide (0 ≤ k) && decide (k < G))
def stGr (G S I J k : Int) : Int := if isGr G S I J k then 2 + J + k * S else 0
set_option maxHeartbeats 2000000 in
theorem geoStart_any (G S I J k : Int) (w : World) : Calls Tryd.prog 12 #[gval G S I J, .int .i64 k] w fun e w' => e = .returned (.tuple #[.int .i64 (stGr G S I J k), .bool (isGr G S I J k)]) ∧ Below w.heap.size w w' := by
  have HA := Lib.hid (At.new w 23 (gcells G S I J))
  have HL : Hid (Below w.heap.size w (w.alloc (.cells (gcells G S I J) 23))) := (Below.refl _ _).alloc (Nat.le_refl _) _
  go_enter Tryd.func12, Tryd.ntmps12
  have hA := HA.out
  go_wp2_with (first | (refine wp_loadAtG rfl 23 _ rfl _ _ _ rfl hA Tryd.underlying23 rfl (by kernel_rfl) ?_))
  refine (geoMay_any G S I J _).mono ?_
  rintro e w1 ⟨rfl, hb1⟩
  have hA1 := hA.below hb1 hA.lt
  have hL1 : Below w.heap.size w w1 := HL.out.trans (hb1.mono HL.out.size)
  clear hA HA HL hb1
  have c0 : w1.cell? ⟨w.heap.size, 0, none⟩ = some (.int .i64 G) := hA1.cell (i := 0) rfl
  have c1 : w1.cell? ⟨w.heap.size, 1, none⟩ = some (.int .i64 S) := hA1.cell (i := 1) rfl
  have c3 : w1.cell? ⟨w.heap.size, 3, none⟩ = some (.int .i64 J) := hA1.cell (i := 3) rfl
  cases hm : mayG G S I J with
  | false =>
    have HN : Hid (isGr G S I J k = false) := by show _ = _; unfold isGr; rw [hm]; rfl
    clear hm
    go_wp2_with fail
    go_ret2
    exact ⟨by unfold stGr; rw [HN.out]; rfl, hL1⟩
  | true =>
    obtain ⟨h1, h2, h3, h4, h5, h6, h7, h8, h9, h10, h11⟩ := (mayG_iff G S I J).1 hm
    have HD : Hid (isGr G S I J k = (decide (0 ≤ k) && decide (k < G))) := by show _ = _; unfold isGr; rw [hm]; rfl
    clear hm h11
    by_cases k0 : k < 0
    · have HN : Hid (isGr G S I J k = false) := by show _ = _; rw [HD.out]; simp; omega
      have q0 : decide (k < 0) = true := decide_eq_true k0
      go_wp2_with fail
      go_ret2
      exact ⟨by unfold stGr; rw [HN.out]; rfl, hL1⟩
    have q0 : decide (k < 0) = false := decide_eq_false k0
    by_cases k1 : G ≤ k
    · have HN : Hid (isGr G S I J k = false) := by show _ = _; rw [HD.out]; simp; omega
      have q1 : decide (G ≤ k) = true := decide_eq_true k1
      go_wp2_with fail
      go_ret2
      exact ⟨by unfold stGr; rw [HN.out]; rfl, hL1⟩
    have q1 : decide (G ≤ k) = false := decide_eq_false k1
    have HN : Hid (isGr G S I J k = true) := by show _ = _; rw [HD.out]; simp; omega
    have hg0 : 0 ≤ k * S := Int.mul_nonneg (by omega) (by omega)
    have hg1 : k * S ≤ 4 * 512 := Int.mul_le_mul (by omega) h4 (by omega) (by omega)
    have hw : IntKind.i64.wrap (k * S) = k * S := IntWalk.i64_in _ (by omega)
    have hw1 : IntKind.i64.wrap (2 + J) = 2 + J := IntWalk.i64_in _ (by omega)
    have hw2 : IntKind.i64.wrap (2 + J + k * S) = 2 + J + k * S := IntWalk.i64_in _ (by omega)
    go_wp2_with fail
    go_ret2
    exact ⟨by unfold stGr; rw [HN.out]; rfl, hL1⟩
end Go.Proofs.YtopakpmepioomaaDoor
