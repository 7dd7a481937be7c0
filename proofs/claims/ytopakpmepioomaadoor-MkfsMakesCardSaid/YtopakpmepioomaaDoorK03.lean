/- Texts of this claim, merged by a program (a claim may have 60 files): Geo. -/
import Derived.Test.YtopakpmepioomaaDoorK02
/- geo.May, quernref05.May. Printed by gen_geo.py. -/
namespace Go.Proofs.YtopakpmepioomaaDoor
open Go.RowKit
set_option linter.unusedVariables false

abbrev gval (G S I J : Int) : Value := .agg #[.int .i64 G, .int .i64 S, .int .i64 I, .int .i64 J]
abbrev gcells (G S I J : Int) : Array Value := #[.int .i64 G, .int .i64 S, .int .i64 I, .int .i64 J]
/-- may a geometry be? -/
def mayG (G S I J : Int) : Bool := decide (1 ≤ G ∧ G ≤ 4 ∧ 16 ≤ S ∧ S ≤ 512 ∧ 4 ≤ I ∧ I ≤ 64 ∧ I % 4 = 0 ∧ 40 ≤ J ∧ J ≤ 256 ∧ 3 + I / 4 ≤ S ∧ 2 + J + G * S ≤ 2048)
theorem mayG_iff (G S I J : Int) : mayG G S I J = true ↔ 1 ≤ G ∧ G ≤ 4 ∧ 16 ≤ S ∧ S ≤ 512 ∧ 4 ≤ I ∧ I ≤ 64 ∧ I % 4 = 0 ∧ 40 ≤ J ∧ J ≤ 256 ∧ 3 + I / 4 ≤ S ∧ 2 + J + G * S ≤ 2048 := by unfold mayG; exact decide_eq_true_iff
theorem mayG_no {G S I J : Int} (h : ¬ (1 ≤ G ∧ G ≤ 4 ∧ 16 ≤ S ∧ S ≤ 512 ∧ 4 ≤ I ∧ I ≤ 64 ∧ I % 4 = 0 ∧ 40 ≤ J ∧ J ≤ 256 ∧ 3 + I / 4 ≤ S ∧ 2 + J + G * S ≤ 2048)) : mayG G S I J = false := by unfold mayG; exact decide_eq_false h
theorem i64_quo4 (I : Int) (h : 4 ≤ I) : I.tdiv 4 = I / 4 := Int.tdiv_eq_ediv_of_nonneg (by omega)
theorem i64_rem4 (I : Int) (h : 4 ≤ I) : I.tmod 4 = I % 4 := Int.tmod_eq_emod_of_nonneg (by omega)
theorem GS_bd {G S : Int} (h1 : 1 ≤ G) (h2 : G ≤ 4) (h3 : 16 ≤ S) (h4 : S ≤ 512) : 0 ≤ G * S ∧ G * S ≤ 2048 := by
  have : 0 ≤ G * S := Int.mul_nonneg (by omega) (by omega)
  have h := Int.mul_le_mul h2 h4 (by omega) (by omega : (0 : Int) ≤ 4)
  omega

set_option maxRecDepth 100000 in
set_option maxHeartbeats 4000000 in
theorem geoMay_any (G S I J : Int) (w : World) : Calls Tryd.prog 14 #[gval G S I J] w fun e w' => e = .returned (.bool (mayG G S I J)) ∧ Below w.heap.size w w' := by
  have HA := Lib.hid (At.new w 23 (gcells G S I J))
  have HL : Hid (Below w.heap.size w (w.alloc (.cells (gcells G S I J) 23))) := (Below.refl _ _).alloc (Nat.le_refl _) _
  have c0 : (w.alloc (.cells #[.int .i64 G, .int .i64 S, .int .i64 I, .int .i64 J] 23)).cell? ⟨w.heap.size, 0, none⟩ = some (.int .i64 G) := HA.out.cell (i := 0) rfl
  have c1 : (w.alloc (.cells #[.int .i64 G, .int .i64 S, .int .i64 I, .int .i64 J] 23)).cell? ⟨w.heap.size, 1, none⟩ = some (.int .i64 S) := HA.out.cell (i := 1) rfl
  have c2 : (w.alloc (.cells #[.int .i64 G, .int .i64 S, .int .i64 I, .int .i64 J] 23)).cell? ⟨w.heap.size, 2, none⟩ = some (.int .i64 I) := HA.out.cell (i := 2) rfl
  have c3 : (w.alloc (.cells #[.int .i64 G, .int .i64 S, .int .i64 I, .int .i64 J] 23)).cell? ⟨w.heap.size, 3, none⟩ = some (.int .i64 J) := HA.out.cell (i := 3) rfl
  go_enter Tryd.func14, Tryd.ntmps14
  by_cases h1 : 1 ≤ G
  rotate_left
  · have HN : Hid (mayG G S I J = false) := mayG_no fun h => by omega
    have nh1 : G < 1 := by omega
    go_wp2_with fail
    go_ret
    exact ⟨by rw [HN.out]; rfl, HL.out⟩
  have nh1 : ¬ G < 1 := by omega
  by_cases h2 : G ≤ 4
  rotate_left
  · have HN : Hid (mayG G S I J = false) := mayG_no fun h => by omega
    have nh2 : 4 < G := by omega
    go_wp2_with fail
    go_ret
    exact ⟨by rw [HN.out]; rfl, HL.out⟩
  have nh2 : ¬ 4 < G := by omega
  by_cases h3 : 16 ≤ S
  rotate_left
  · have HN : Hid (mayG G S I J = false) := mayG_no fun h => by omega
    have nh3 : S < 16 := by omega
    go_wp2_with fail
    go_ret
    exact ⟨by rw [HN.out]; rfl, HL.out⟩
  have nh3 : ¬ S < 16 := by omega
  by_cases h4 : S ≤ 512
  rotate_left
  · have HN : Hid (mayG G S I J = false) := mayG_no fun h => by omega
    have nh4 : 512 < S := by omega
    go_wp2_with fail
    go_ret
    exact ⟨by rw [HN.out]; rfl, HL.out⟩
  have nh4 : ¬ 512 < S := by omega
  by_cases h5 : 4 ≤ I
  rotate_left
  · have HN : Hid (mayG G S I J = false) := mayG_no fun h => by omega
    have nh5 : I < 4 := by omega
    go_wp2_with fail
    go_ret
    exact ⟨by rw [HN.out]; rfl, HL.out⟩
  have nh5 : ¬ I < 4 := by omega
  have t1 := i64_quo4 I h5
  have t2 := i64_rem4 I h5
  by_cases h6 : I ≤ 64
  rotate_left
  · have HN : Hid (mayG G S I J = false) := mayG_no fun h => by omega
    have nh6 : 64 < I := by omega
    go_wp2_with fail
    go_ret
    exact ⟨by rw [HN.out]; rfl, HL.out⟩
  have nh6 : ¬ 64 < I := by omega
  by_cases h7 : I % 4 = 0
  rotate_left
  · have HN : Hid (mayG G S I J = false) := mayG_no fun h => by omega
    have q7 : (I % 4 != 0) = true := by simpa using h7
    go_wp2_with fail
    go_ret
    exact ⟨by rw [HN.out]; rfl, HL.out⟩
  have q7 : (I % 4 != 0) = false := by simpa using h7
  by_cases h8 : 40 ≤ J
  rotate_left
  · have HN : Hid (mayG G S I J = false) := mayG_no fun h => by omega
    have nh8 : J < 40 := by omega
    go_wp2_with fail
    go_ret
    exact ⟨by rw [HN.out]; rfl, HL.out⟩
  have nh8 : ¬ J < 40 := by omega
  by_cases h9 : J ≤ 256
  rotate_left
  · have HN : Hid (mayG G S I J = false) := mayG_no fun h => by omega
    have nh9 : 256 < J := by omega
    go_wp2_with fail
    go_ret
    exact ⟨by rw [HN.out]; rfl, HL.out⟩
  have nh9 : ¬ 256 < J := by omega
  obtain ⟨g0, g1⟩ := GS_bd h1 h2 h3 h4
  have w1 : IntKind.i64.wrap (G * S) = G * S := IntWalk.i64_in _ (by omega)
  by_cases h10 : 3 + I / 4 ≤ S
  rotate_left
  · have HN : Hid (mayG G S I J = false) := mayG_no fun h => by omega
    have n10 : S < 2 + I / 4 + 1 := by omega
    have n11 : ¬ 3 + I / 4 ≤ S := by omega
    go_wp2_with fail
    go_ret
    exact ⟨by rw [HN.out]; rfl, HL.out⟩
  have n10 : ¬ S < 2 + I / 4 + 1 := by omega
  have HY : Hid (mayG G S I J = decide (2 + J + G * S ≤ 2048)) := by
    show _ = _
    rw [Bool.eq_iff_iff, mayG_iff, decide_eq_true_eq]
    exact ⟨fun h => h.2.2.2.2.2.2.2.2.2.2, fun h => ⟨h1, h2, h3, h4, h5, h6, h7, h8, h9, h10, h⟩⟩
  go_wp2_with fail
  go_ret
  exact ⟨by rw [HY.out]; rfl, HL.out⟩

set_option maxRecDepth 100000 in
set_option maxHeartbeats 4000000 in
theorem rMay5_any (G S I J : Int) (w : World) : Calls Tryd.prog 20 #[gval G S I J] w fun e w' => e = .returned (.bool (mayG G S I J)) ∧ Below w.heap.size w w' := by
  have HA := Lib.hid (At.new w 23 (gcells G S I J))
  have HL : Hid (Below w.heap.size w (w.alloc (.cells (gcells G S I J) 23))) := (Below.refl _ _).alloc (Nat.le_refl _) _
  have c0 : (w.alloc (.cells #[.int .i64 G, .int .i64 S, .int .i64 I, .int .i64 J] 23)).cell? ⟨w.heap.size, 0, none⟩ = some (.int .i64 G) := HA.out.cell (i := 0) rfl
  have c1 : (w.alloc (.cells #[.int .i64 G, .int .i64 S, .int .i64 I, .int .i64 J] 23)).cell? ⟨w.heap.size, 1, none⟩ = some (.int .i64 S) := HA.out.cell (i := 1) rfl
  have c2 : (w.alloc (.cells #[.int .i64 G, .int .i64 S, .int .i64 I, .int .i64 J] 23)).cell? ⟨w.heap.size, 2, none⟩ = some (.int .i64 I) := HA.out.cell (i := 2) rfl
  have c3 : (w.alloc (.cells #[.int .i64 G, .int .i64 S, .int .i64 I, .int .i64 J] 23)).cell? ⟨w.heap.size, 3, none⟩ = some (.int .i64 J) := HA.out.cell (i := 3) rfl
  go_enter Tryd.func20, Tryd.ntmps20
  by_cases h1 : 1 ≤ G
  rotate_left
  · have HN : Hid (mayG G S I J = false) := mayG_no fun h => by omega
    have nh1 : G < 1 := by omega
    go_wp2_with fail
    go_ret
    exact ⟨by rw [HN.out]; rfl, HL.out⟩
  have nh1 : ¬ G < 1 := by omega
  by_cases h2 : G ≤ 4
  rotate_left
  · have HN : Hid (mayG G S I J = false) := mayG_no fun h => by omega
    have nh2 : 4 < G := by omega
    go_wp2_with fail
    go_ret
    exact ⟨by rw [HN.out]; rfl, HL.out⟩
  have nh2 : ¬ 4 < G := by omega
  by_cases h3 : 16 ≤ S
  rotate_left
  · have HN : Hid (mayG G S I J = false) := mayG_no fun h => by omega
    have nh3 : S < 16 := by omega
    go_wp2_with fail
    go_ret
    exact ⟨by rw [HN.out]; rfl, HL.out⟩
  have nh3 : ¬ S < 16 := by omega
  by_cases h4 : S ≤ 512
  rotate_left
  · have HN : Hid (mayG G S I J = false) := mayG_no fun h => by omega
    have nh4 : 512 < S := by omega
    go_wp2_with fail
    go_ret
    exact ⟨by rw [HN.out]; rfl, HL.out⟩
  have nh4 : ¬ 512 < S := by omega
  by_cases h5 : 4 ≤ I
  rotate_left
  · have HN : Hid (mayG G S I J = false) := mayG_no fun h => by omega
    have nh5 : I < 4 := by omega
    go_wp2_with fail
    go_ret
    exact ⟨by rw [HN.out]; rfl, HL.out⟩
  have nh5 : ¬ I < 4 := by omega
  have t1 := i64_quo4 I h5
  have t2 := i64_rem4 I h5
  by_cases h6 : I ≤ 64
  rotate_left
  · have HN : Hid (mayG G S I J = false) := mayG_no fun h => by omega
    have nh6 : 64 < I := by omega
    go_wp2_with fail
    go_ret
    exact ⟨by rw [HN.out]; rfl, HL.out⟩
  have nh6 : ¬ 64 < I := by omega
  by_cases h7 : I % 4 = 0
  rotate_left
  · have HN : Hid (mayG G S I J = false) := mayG_no fun h => by omega
    have q7 : (I % 4 != 0) = true := by simpa using h7
    go_wp2_with fail
    go_ret
    exact ⟨by rw [HN.out]; rfl, HL.out⟩
  have q7 : (I % 4 != 0) = false := by simpa using h7
  by_cases h8 : 40 ≤ J
  rotate_left
  · have HN : Hid (mayG G S I J = false) := mayG_no fun h => by omega
    have nh8 : J < 40 := by omega
    go_wp2_with fail
    go_ret
    exact ⟨by rw [HN.out]; rfl, HL.out⟩
  have nh8 : ¬ J < 40 := by omega
  by_cases h9 : J ≤ 256
  rotate_left
  · have HN : Hid (mayG G S I J = false) := mayG_no fun h => by omega
    have nh9 : 256 < J := by omega
    go_wp2_with fail
    go_ret
    exact ⟨by rw [HN.out]; rfl, HL.out⟩
  have nh9 : ¬ 256 < J := by omega
  obtain ⟨g0, g1⟩ := GS_bd h1 h2 h3 h4
  have w1 : IntKind.i64.wrap (G * S) = G * S := IntWalk.i64_in _ (by omega)
  by_cases h10 : 3 + I / 4 ≤ S
  rotate_left
  · have HN : Hid (mayG G S I J = false) := mayG_no fun h => by omega
    have n10 : S < 2 + I / 4 + 1 := by omega
    have n11 : ¬ 3 + I / 4 ≤ S := by omega
    go_wp2_with fail
    go_ret
    exact ⟨by rw [HN.out]; rfl, HL.out⟩
  have n10 : ¬ S < 2 + I / 4 + 1 := by omega
  have HY : Hid (mayG G S I J = decide (2 + J + G * S ≤ 2048)) := by
    show _ = _
    rw [Bool.eq_iff_iff, mayG_iff, decide_eq_true_eq]
    exact ⟨fun h => h.2.2.2.2.2.2.2.2.2.2, fun h => ⟨h1, h2, h3, h4, h5, h6, h7, h8, h9, h10, h⟩⟩
  go_wp2_with fail
  go_ret
  exact ⟨by rw [HY.out]; rfl, HL.out⟩

end Go.Proofs.YtopakpmepioomaaDoor
