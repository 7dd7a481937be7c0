/- A journal block that is read is written as just that block: the plain law. -/
import Derived.Test.YtahobhifafiaeaaJb9
namespace Go.Proofs.Ytahobhifafiaeaa
open Go.RowKit
set_option linter.unusedVariables false

theorem kind_parts {z : Nat → Int} {k : Int} (h : kindOf z = k) (hk : k ≠ 0) : wd z 0 = 1280199249 ∧ wd z 1 = k ∧ seqB (wd z 2) = true ∧ seqOf z = wd z 2 := by
  unfold kindOf at h
  cases hb : kindB z with
  | false => rw [hb] at h; exact absurd h.symm hk
  | true =>
    rw [hb] at h
    have h1 : wd z 1 = k := h
    have hs : seqOf z = wd z 2 := by unfold seqOf; rw [hb]; rfl
    unfold kindB at hb
    rw [Bool.and_eq_true, Bool.and_eq_true, beq_iff_eq] at hb
    exact ⟨hb.1, h1, hb.2.1, hs⟩
theorem jb_back {z : Nat → Int} (hz : Byt z) {k : Int} (h : kindOf z = k) (hk : k ≠ 0) (r : Nat → Int) (hr : ∀ j, j < 60 → r j = wd z (4 + j)) (i : Nat) (hi : i < 256) : wz (jw k (wd z 2) (wd z 3) r) i = z i := by
  obtain ⟨h0, h1, _, _⟩ := kind_parts h hk
  rw [← wz_wd hz i]
  refine wz_congr 64 (fun j hj => ?_) i hi
  unfold jw
  by_cases c0 : j = 0
  · subst c0; rw [if_pos rfl]; exact h0.symm
  rw [if_neg c0]
  by_cases c1 : j = 1
  · subst c1; rw [if_pos rfl]; exact h1.symm
  rw [if_neg c1]
  by_cases c2 : j = 2
  · subst c2; rw [if_pos rfl]
  rw [if_neg c2]
  by_cases c3 : j = 3
  · subst c3; rw [if_pos rfl]
  rw [if_neg c3, hr _ (by omega)]
  congr 1; omega
theorem head_back {z : Nat → Int} (hz : Byt z) (h : headRd z = true) : headOk (wd z 2) (wd z 3) = true ∧ (∀ i, i < 256 → headZ (wd z 2) (wd z 3) i = z i) ∧ kindOf z = 4 ∧ seqOf z = wd z 2 := by
  unfold headRd at h
  rw [Bool.and_eq_true, Bool.and_eq_true, beq_iff_eq, decide_eq_true_eq, allZ_iff] at h
  obtain ⟨hk, h3, hzz⟩ := h
  obtain ⟨_, _, hs, hq⟩ := kind_parts hk (by decide)
  have h30 := (wd_wds hz 3).1
  have hok : headOk (wd z 2) (wd z 3) = true := by unfold headOk; rw [hs]; simp [h3, h30]
  refine ⟨hok, fun i hi => ?_, hk, hq⟩
  unfold headZ
  rw [hok, if_pos rfl]
  exact jb_back hz hk (by decide) nz (fun j hj => (hzz j hj).symm) i hi
theorem commit_back {z : Nat → Int} (hz : Byt z) (h : commitRd z = true) : commitOk (wd z 2) (wd z 3) = true ∧ (∀ i, i < 256 → commitZ (wd z 2) (wd z 3) (wd z 4) i = z i) ∧ kindOf z = 2 ∧ seqOf z = wd z 2 := by
  unfold commitRd at h
  rw [Bool.and_eq_true, Bool.and_eq_true, beq_iff_eq, decide_eq_true_eq, allZ_iff] at h
  obtain ⟨hk, h3, hzz⟩ := h
  obtain ⟨_, _, hs, hq⟩ := kind_parts hk (by decide)
  have hok : commitOk (wd z 2) (wd z 3) = true := by unfold commitOk; rw [hs]; simp [h3]
  refine ⟨hok, fun i hi => ?_, hk, hq⟩
  unfold commitZ
  rw [hok, if_pos rfl]
  refine jb_back hz hk (by decide) _ (fun j hj => ?_) i hi
  unfold sumR
  by_cases c : j = 0
  · subst c; rfl
  · rw [if_neg c]
    have := hzz (j - 1) (by omega)
    rw [show 5 + (j - 1) = 4 + j by omega] at this
    exact this.symm
theorem rev_back {z : Nat → Int} (hz : Byt z) (h : revRd z = true) : revOk (wd z 2) (rowsN z) (revM z) = true ∧ (∀ i, i < 256 → revZ (wd z 2) (rowsN z) (revM z) i = z i) ∧ kindOf z = 3 ∧ seqOf z = wd z 2 := by
  unfold revRd at h
  rw [Bool.and_eq_true, Bool.and_eq_true, Bool.and_eq_true, beq_iff_eq, decide_eq_true_eq, allZ_iff] at h
  obtain ⟨hk, h3, hr, hzz⟩ := h
  obtain ⟨_, _, hs, hq⟩ := kind_parts hk (by decide)
  have hn : (rowsN z : Int) = wd z 3 := by unfold rowsN; omega
  have hok : revOk (wd z 2) (rowsN z) (revM z) = true := by unfold revOk; rw [hs, hr]; simp; omega
  refine ⟨hok, fun i hi => ?_, hk, hq⟩
  unfold revZ
  rw [hok, if_pos rfl, hn]
  refine jb_back hz hk (by decide) _ (fun j hj => ?_) i hi
  unfold numR
  by_cases c : j < rowsN z
  · rw [if_pos c]; rfl
  · rw [if_neg c]
    have := hzz (j - rowsN z) (by omega)
    rw [show 4 + rowsN z + (j - rowsN z) = 4 + j by omega] at this
    exact this.symm
theorem desc_back {z : Nat → Int} (hz : Byt z) (h : descRd z = true) : descOk (wd z 2) (rowsN z) (descT z) = true ∧ (∀ i, i < 256 → descZ (wd z 2) (rowsN z) (descT z) (descE z) i = z i) ∧ kindOf z = 1 ∧ seqOf z = wd z 2 := by
  unfold descRd at h
  rw [Bool.and_eq_true, Bool.and_eq_true, Bool.and_eq_true, beq_iff_eq, decide_eq_true_eq, allZ_iff] at h
  obtain ⟨hk, h3, hb, hzz⟩ := h
  obtain ⟨hle, hr⟩ := (descB_iff z _).1 hb
  obtain ⟨_, _, hs, hq⟩ := kind_parts hk (by decide)
  have hn : (rowsN z : Int) = wd z 3 := by unfold rowsN; omega
  have hok : descOk (wd z 2) (rowsN z) (descT z) = true := by unfold descOk; rw [hs, hr]; simp; omega
  refine ⟨hok, fun i hi => ?_, hk, hq⟩
  unfold descZ
  rw [hok, if_pos rfl, hn]
  refine jb_back hz hk (by decide) _ (fun j hj => ?_) i hi
  unfold tagR
  by_cases c : j < 2 * rowsN z
  · rw [if_pos c]
    by_cases e : j % 2 = 0
    · rw [if_pos e]; unfold descT; congr 1; omega
    · rw [if_neg e]
      have h1 := hle (j / 2) (by omega)
      have h0 := (wd_wds hz (5 + 2 * (j / 2))).1
      unfold descE bit
      rw [show 4 + j = 5 + 2 * (j / 2) by omega]
      generalize wd z (5 + 2 * (j / 2)) = v at h0 h1
      obtain rfl | rfl : v = 0 ∨ v = 1 := by omega
      · rfl
      · rfl
  · rw [if_neg c]
    have := hzz (j - 2 * rowsN z) (by omega)
    rw [show 4 + 2 * rowsN z + (j - 2 * rowsN z) = 4 + j by omega] at this
    exact this.symm
theorem rowsN_bd {z : Nat → Int} (h : descRd z = true ∨ revRd z = true) : rowsN z ≤ 60 := by
  unfold rowsN
  rcases h with h | h
  · unfold descRd at h
    rw [Bool.and_eq_true, Bool.and_eq_true, decide_eq_true_eq] at h
    omega
  · unfold revRd at h
    rw [Bool.and_eq_true, Bool.and_eq_true, decide_eq_true_eq] at h
    omega
/-- a block is read as one kind at most -/
theorem one_kind (z : Nat → Int) : (headRd z = false ∧ descRd z = false ∧ revRd z = false ∧ commitRd z = false) ∨ (headRd z = true ∧ descRd z = false ∧ revRd z = false ∧ commitRd z = false) ∨ (headRd z = false ∧ descRd z = true ∧ revRd z = false ∧ commitRd z = false) ∨
    (headRd z = false ∧ descRd z = false ∧ revRd z = true ∧ commitRd z = false) ∨ (headRd z = false ∧ descRd z = false ∧ revRd z = false ∧ commitRd z = true) := by
  have hh : headRd z = true → kindOf z = 4 := fun h => by unfold headRd at h; rw [Bool.and_eq_true, beq_iff_eq] at h; exact h.1
  have hd : descRd z = true → kindOf z = 1 := fun h => by unfold descRd at h; rw [Bool.and_eq_true, beq_iff_eq] at h; exact h.1
  have hr : revRd z = true → kindOf z = 3 := fun h => by unfold revRd at h; rw [Bool.and_eq_true, beq_iff_eq] at h; exact h.1
  have hc : commitRd z = true → kindOf z = 2 := fun h => by unfold commitRd at h; rw [Bool.and_eq_true, beq_iff_eq] at h; exact h.1
  cases h1 : headRd z <;> cases h2 : descRd z <;> cases h3 : revRd z <;> cases h4 : commitRd z <;> simp <;> simp [h1, h2, h3, h4] at hh hd hr hc <;> omega
end Go.Proofs.Ytahobhifafiaeaa
