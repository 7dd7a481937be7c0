/- What was read is written as just that block: plain laws. -/
import Derived.Test.YtbbcckopkbiojaaDoorU6j
namespace Go.Proofs.YtbbcckopkbiojaaDoor
set_option linter.unusedVariables false

theorem allZ_half {z : Nat → Int} (hzb : Byt z) {k n : Nat} (h : allZ (fun i => z (2 * k + i)) (2 * n) = true) {j : Nat} (hj : j < n) : hd z (k + j) = 0 := by
  rw [allZ_hd hzb, allZ_iff] at h
  exact h j hj
/-- a block that is read as a superblock is just the one that is written of it -/
theorem read_back {z : Nat → Int} (hzb : Byt z) (h : readE z = 0) :
    supOk (hd z 4) (hd z 5) (hd z 6) (hd z 7) (g32 z 16) = true ∧ ∀ i, i < 256 → supZ (hd z 4) (hd z 5) (hd z 6) (hd z 7) (g32 z 16) i = z i := by
  unfold readE at h
  by_cases hA : readA z = true
  rotate_left
  · rw [if_neg hA] at h; omega
  rw [if_pos hA] at h
  by_cases hm : mayG (hd z 4) (hd z 5) (hd z 6) (hd z 7) = true
  rotate_left
  · rw [if_neg hm] at h; omega
  rw [if_pos hm] at h
  by_cases hn : g32 z 16 ≤ nIn (hd z 4) (hd z 5) (hd z 6) (hd z 7)
  rotate_left
  · rw [if_neg hn] at h; omega
  have hok := supOk_iff.2 ⟨hm, hn⟩
  refine ⟨hok, fun i hi => ?_⟩
  unfold readA at hA
  simp only [Bool.and_eq_true, beq_iff_eq] at hA
  obtain ⟨a1, a2, a3, hs, hz⟩ := hA
  rw [supZ_yes hok, ← seal_of_sum hzb hs i hi]
  refine sealZ_congr (fun i hi => ?_) i hi
  rw [← hz_hd hzb i]
  refine hz_congr 126 (fun k hk => ?_) i (by omega)
  have hzz : ∀ j, 10 ≤ j → j < 126 → hd z j = 0 := fun j h1 h2 => by
    have := allZ_half (k := 10) (n := 116) hzb hz (j := j - 10) (by omega)
    rwa [show 10 + (j - 10) = j by omega] at this
  have hlo : hd z 0 = 21073 ∧ hd z 1 = 12622 := by
    have b0 := hd_hvs hzb 0
    have b1 := hd_hvs hzb 1
    rw [g32_halves] at a1
    have a1 : hd z 0 + 65536 * hd z 1 = 827216465 := a1
    omega
  have ho : g32 z 16 = hd z 8 + 65536 * hd z 9 := g32_halves z 16
  have b8 := hd_hvs hzb 8
  have b9 := hd_hvs hzb 9
  obtain ⟨c0, c1, c2, c3⟩ := supH_low (hd z 4) (hd z 5) (hd z 6) (hd z 7) (g32 z 16)
  obtain ⟨c4, c5, c6, c7, c8, c9⟩ := supH_at (hd z 4) (hd z 5) (hd z 6) (hd z 7) (g32 z 16)
  by_cases h10 : 10 ≤ k
  · rw [supH_high _ _ _ _ _ k h10, hzz k h10 hk]
  · obtain rfl | rfl | rfl | rfl | rfl | rfl | rfl | rfl | rfl | rfl : k = 0 ∨ k = 1 ∨ k = 2 ∨ k = 3 ∨ k = 4 ∨ k = 5 ∨ k = 6 ∨ k = 7 ∨ k = 8 ∨ k = 9 := by omega
    · rw [c0, hlo.1]
    · rw [c1, hlo.2]
    · rw [c2, a2]
    · rw [c3, a3]
    · exact c4
    · exact c5
    · exact c6
    · exact c7
    · rw [c8, ho]; omega
    · rw [c9, ho]; omega
/-- a block that is read as descriptors is just the one that is written of them -/
theorem descs_back {G S I J : Int} {z : Nat → Int} (hzb : Byt z) (h : rdOk G S I J z = true) :
    descOk G S I J G.toNat (rB z) (rI z) (rD z) = true ∧ ∀ i, i < 256 → descZ G S I J G.toNat (rB z) (rI z) (rD z) i = z i := by
  unfold rdOk rdIn at h
  simp only [Bool.and_eq_true] at h
  obtain ⟨hm, hs, hz, hq, hd'⟩ := h
  have hok := descOk_iff.2 ⟨hm, hd'⟩
  obtain ⟨h1, h2, h3, h4, h5, h6, h7, h8, h9, h10, h11⟩ := (mayG_iff G S I J).1 hm
  refine ⟨hok, fun i hi => ?_⟩
  rw [descZ_yes hok, ← seal_of_sum hzb hs i hi]
  refine sealZ_congr (fun i hi => ?_) i hi
  rw [← hz_hd hzb i]
  refine hz_congr 126 (fun k hk => ?_) i (by omega)
  rw [allB_iff] at hq
  rw [dH_eq]
  by_cases hkn : k / 4 < G.toNat
  · rw [if_pos hkn]
    have hk4 : k % 4 = 0 ∨ k % 4 = 1 ∨ k % 4 = 2 ∨ k % 4 = 3 := by omega
    rcases hk4 with e | e | e | e
    · rw [if_pos e]; show hd z (4 * (k / 4)) = _; congr 1; omega
    · rw [if_neg (by omega), if_pos e]; show hd z (4 * (k / 4) + 1) = _; congr 1; omega
    · rw [if_neg (by omega), if_neg (by omega), if_pos e]; show hd z (4 * (k / 4) + 2) = _; congr 1; omega
    · rw [if_neg (by omega), if_neg (by omega), if_neg (by omega)]
      have := hq (k / 4) hkn
      rw [beq_iff_eq] at this
      rw [← this]; congr 1; omega
  · rw [if_neg hkn]
    rw [show 8 * G.toNat = 2 * (4 * G.toNat) by omega, show 252 - 2 * (4 * G.toNat) = 2 * (126 - 4 * G.toNat) by omega] at hz
    have := allZ_half (k := 4 * G.toNat) (n := 126 - 4 * G.toNat) hzb hz (j := k - 4 * G.toNat) (by omega)
    rw [show 4 * G.toNat + (k - 4 * G.toNat) = k by omega] at this
    exact this.symm
end Go.Proofs.YtbbcckopkbiojaaDoor
