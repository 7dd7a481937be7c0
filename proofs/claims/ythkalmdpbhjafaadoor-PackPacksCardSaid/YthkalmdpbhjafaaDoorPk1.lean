/- pack.may. -/
import Derived.Test.YthkalmdpbhjafaaDoorPk0
namespace Go.Proofs.YthkalmdpbhjafaaDoor
open Go.RowKit
set_option linter.unusedVariables false

/-- the number ahead -/
def lastT (b : Nat → Int) (k : Nat) : Int := if k = 0 then -1 else b (k - 1)
set_option maxRecDepth 100000 in
set_option maxHeartbeats 4000000 in
theorem packMay_any (s : Int) (ca : Option Addr) (n cc : Nat) (ra : Option Addr) (m rc : Nat) (cb : Nat → Int) (cd : Nat → Nat → Int) (rv : Nat → Int)
    (hs : 0 ≤ s ∧ s < 4294967296) (hn : (n : Int) ≤ 9223372036854775807) (hm : (m : Int) ≤ 9223372036854775807) (w : World) (hc : RRow w ca 257 n (cpF cb cd)) (hr : RRow w ra 1 m (inF rv)) :
    Calls Tryd.prog 31 #[tval s ca n cc ra m rc] w fun e w' => e = .returned (.bool (mayT s n cb m rv)) ∧ Below w.heap.size w w' := by
  have h0 := At.new w 28 (tcells s ca n cc ra m rc)
  have HL : Hid (Below w.heap.size w (w.alloc (.cells (tcells s ca n cc ra m rc) 28))) := (Below.refl _ _).alloc (Nat.le_refl _) _
  have hc0 : (w.alloc (.cells (tcells s ca n cc ra m rc) 28)).cell? ⟨w.heap.size, 0, none⟩ = some (.int .u32 s) := h0.cell (i := 0) rfl
  have hc1 : (w.alloc (.cells (tcells s ca n cc ra m rc) 28)).cell? ⟨w.heap.size, 1, none⟩ = some (.slice ca n cc) := h0.cell (i := 1) rfl
  have hc2 : (w.alloc (.cells (tcells s ca n cc ra m rc) 28)).cell? ⟨w.heap.size, 2, none⟩ = some (.slice ra m rc) := h0.cell (i := 2) rfl
  have HC := Lib.hid (hc.alloc (.cells (tcells s ca n cc ra m rc) 28))
  have HR := Lib.hid (hr.alloc (.cells (tcells s ca n cc ra m rc) 28))
  have HW : Hid (∃ W, W = w.alloc (.cells (tcells s ca n cc ra m rc) 28)) := ⟨_, rfl⟩
  clear h0 hc hr
  go_enter Tryd.func31, Tryd.ntmps31
  obtain ⟨W, hW⟩ := HW.out
  rw [← hW] at hc0 hc1 hc2 HC HR HL
  have hgo : w.alloc (.cells (tcells s ca n cc ra m rc) 28) = W := hW.symm
  clear hW HW
  obtain ⟨hs0, hs1⟩ := hs
  by_cases s1 : s < 1
  · have HO : Hid (mayT s n cb m rv = false) := by show _ = _; unfold mayT seqB; rw [decide_eq_false (by omega)]; rfl
    go_wp2_with fail
    go_ret
    exact ⟨by rw [HO.out]; rfl, HL.out⟩
  by_cases s2 : 2147483648 < s
  · have HO : Hid (mayT s n cb m rv = false) := by show _ = _; unfold mayT seqB; rw [decide_eq_false (by omega)]; rfl
    go_wp2_with fail
    go_ret
    exact ⟨by rw [HO.out]; rfl, HL.out⟩
  have HSQ : Hid (seqB s = true) := by show _ = _; unfold seqB; exact decide_eq_true (by omega)
  have s3 : 1 ≤ s := by omega
  have s4 : s ≤ 2147483648 := by omega
  by_cases h00 : n = 0 ∧ m = 0
  · obtain ⟨rfl, rfl⟩ := h00
    have HO : Hid (mayT s 0 cb 0 rv = false) := by show _ = _; unfold mayT; simp
    go_wp2_with fail
    go_ret
    exact ⟨by rw [HO.out]; rfl, HL.out⟩
  have HMY : Hid (∀ b, (riseT cb n && riseT rv m) = b → mayT s n cb m rv = b) := fun b hb => by
    unfold mayT; rw [HSQ.out, hb, show decide (0 < n + m) = true from decide_eq_true (by omega)]; rfl
  have hz : ((n : Int) == 0) = false ∨ (((n : Int) == 0) = true ∧ ((m : Int) == 0) = false) := by
    by_cases e : n = 0
    · exact .inr ⟨by rw [beq_iff_eq]; omega, by rw [beq_eq_false_iff_ne]; omega⟩
    · exact .inl (by rw [beq_eq_false_iff_ne]; omega)
  clear h00
  rcases hz with hz1 | ⟨hz1, hz2⟩
  all_goals
    go_wp2_with fail
    go_loop [3, 4, 5, 31] (fun l _ _ u => ∃ k : Nat, k ≤ n ∧ u = .int .i64 (k : Int) ∧ l = .int .i64 (lastT cb k) ∧ Hid (riseT cb k = true)) (fun _ _ _ u => n - (intOf u).toNat)
    case atStart => exact ⟨0, by omega, rfl, rfl, rfl⟩
    case round =>
      obtain ⟨k, hk, rfl, rfl, HK⟩ := hrel
      by_cases hlt : k < n
      · have hlt' : (k : Int) < (n : Int) := by omega
        have k0 : (0 : Int) ≤ (k : Int) := by omega
        obtain ⟨b, off, hca, hsg⟩ : ∃ b off, ca = some ⟨b, off, none⟩ ∧ RSeg W b off 257 n (cpF cb cd) := by
          rcases HC.out with h | h
          · omega
          · exact h
        have hcell : W.cell? ⟨b, off + k * 257, none⟩ = some (.int .i64 (cb k)) := hsg k hlt 0 _ rfl
        clear hsg
        subst hca
        obtain ⟨last, hlast⟩ : ∃ last, last = (if k = 0 then -1 else cb (k - 1)) := ⟨_, rfl⟩
        rw [show lastT cb k = last from hlast.symm]
        by_cases c1 : cb k ≤ last
        · have HO := Lib.hid (HMY.out false (by rw [riseT_no hlt (by rw [← hlast]; omega)]; rfl))
          clear hlast
          go_wp2_with fail
          go_ret
          exact ⟨by rw [HO.out]; rfl, HL.out⟩
        by_cases c2 : 2048 ≤ cb k
        · have HO := Lib.hid (HMY.out false (by rw [riseT_no hlt (by omega)]; rfl))
          clear hlast
          go_wp2_with fail
          go_ret
          exact ⟨by rw [HO.out]; rfl, HL.out⟩
        have HK1 : Hid (riseT cb (k + 1) = true) := by
          show _ = _
          rw [riseT_succ, HK.out, ← hlast, decide_eq_true (show last < cb k by omega), decide_eq_true (show cb k < 2048 by omega)]; rfl
        clear hlast
        go_wp2_with fail
        go_round
        case rel => first | exact ⟨k + 1, by omega, by go_num, rfl, HK1⟩ | exact ⟨k + 1, by omega, rfl, rfl, HK1⟩
        case measure => simp [intOf]; omega
      · obtain rfl : k = n := by omega
        go_wp2_with fail
        go_loop [3, 7, 52] (fun l _ u => ∃ j : Nat, j ≤ m ∧ u = .int .i64 (j : Int) ∧ l = .int .i64 (lastT rv j) ∧ Hid (riseT rv j = true)) (fun _ _ u => m - (intOf u).toNat)
        case atStart => exact ⟨0, by omega, rfl, rfl, rfl⟩
        case round =>
          obtain ⟨j, hj, rfl, rfl, HJ⟩ := hrel
          by_cases hlt2 : j < m
          · have hlt3 : (j : Int) < (m : Int) := by omega
            have j0 : (0 : Int) ≤ (j : Int) := by omega
            obtain ⟨b, off, hra, hsg⟩ : ∃ b off, ra = some ⟨b, off, none⟩ ∧ RSeg W b off 1 m (inF rv) := by
              rcases HR.out with h | h
              · omega
              · exact h
            have hcell : W.cell? ⟨b, off + j, none⟩ = some (.int .i64 (rv j)) := by have := hsg j hlt2 0 _ rfl; rwa [Nat.mul_one, Nat.add_zero] at this
            clear hsg
            subst hra
            obtain ⟨last, hlast⟩ : ∃ last, last = (if j = 0 then -1 else rv (j - 1)) := ⟨_, rfl⟩
            rw [show lastT rv j = last from hlast.symm]
            by_cases c1 : rv j ≤ last
            · have HO := Lib.hid (HMY.out false (by rw [riseT_no hlt2 (by rw [← hlast]; omega)]; simp))
              clear hlast
              go_wp2_with fail
              go_ret
              exact ⟨by rw [HO.out]; rfl, HL.out⟩
            by_cases c2 : 2048 ≤ rv j
            · have HO := Lib.hid (HMY.out false (by rw [riseT_no hlt2 (by omega)]; simp))
              clear hlast
              go_wp2_with fail
              go_ret
              exact ⟨by rw [HO.out]; rfl, HL.out⟩
            have HJ1 : Hid (riseT rv (j + 1) = true) := by
              show _ = _
              rw [riseT_succ, HJ.out, ← hlast, decide_eq_true (show last < rv j by omega), decide_eq_true (show rv j < 2048 by omega)]; rfl
            clear hlast
            go_wp2_with fail
            go_round
            case rel => first | exact ⟨j + 1, by omega, by go_num, rfl, HJ1⟩ | exact ⟨j + 1, by omega, rfl, rfl, HJ1⟩
            case measure => simp [intOf]; omega
          · obtain rfl : j = m := by omega
            have HO := Lib.hid (HMY.out true (by rw [HK.out, HJ.out]; rfl))
            go_wp2_with fail
            go_ret
            exact ⟨by rw [HO.out]; rfl, HL.out⟩
end Go.Proofs.YthkalmdpbhjafaaDoor
