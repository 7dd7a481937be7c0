/- The plain law of inodes as bytes: what was put is got, what was got is put as those bytes. No program in sight. -/
import Derived.Test.YtlgjpjccjklnnaaInoG
namespace Go.Proofs.Ytlgjpjccjklnnaa
set_option linter.unusedVariables false

theorem Ino.word_byte (x : Ino) (k j : Nat) (hk : k < 14) (hj : j < 4) : x.byte (4 + 4 * k + j) = byteOf (x.word k) j := by
  unfold Ino.byte
  rw [if_neg (by omega), if_neg (by omega), if_neg (by omega), if_pos (by omega), show (4 + 4 * k + j - 4) / 4 = k by omega, show (4 + 4 * k + j - 4) % 4 = j by omega]
theorem word_put (z : Nat → Int) (i : Nat) (x : Ino) (k : Nat) (hk : k < 14) (hw : 0 ≤ x.word k ∧ x.word k < 4294967296) : g32 (over z i 64 x.byte) (i + 4 + 4 * k) = x.word k := by
  unfold g32
  rw [over_in _ _ _ _ _ (by omega), over_in _ _ _ _ _ (by omega), over_in _ _ _ _ _ (by omega), over_in _ _ _ _ _ (by omega)]
  rw [show i + 4 + 4 * k - i = 4 + 4 * k + 0 by omega, show i + 4 + 4 * k + 1 - i = 4 + 4 * k + 1 by omega, show i + 4 + 4 * k + 2 - i = 4 + 4 * k + 2 by omega, show i + 4 + 4 * k + 3 - i = 4 + 4 * k + 3 by omega]
  rw [x.word_byte k 0 hk (by omega), x.word_byte k 1 hk (by omega), x.word_byte k 2 hk (by omega), x.word_byte k 3 hk (by omega)]
  exact byteOf_sum4 _ hw.1 hw.2
theorem put_get (z : Nat → Int) (i : Nat) (x : Ino) (hx : x.Ok) (hm : x.May) : inoEq (inoOf (over z i 64 x.byte) i) x = true := by
  obtain ⟨hs, hl, hk⟩ := Ino.may_bd hm
  have hw := fun k hk => word_put z i x k hk (x.word_bd hx hs k)
  rw [inoEq_iff]
  refine ⟨?_, ?_, ?_, ?_, ?_, ?_⟩
  · show over z i 64 x.byte i = x.kind
    rw [over_in _ _ _ _ _ (by omega), Nat.sub_self]; rfl
  · show g16 (over z i 64 x.byte) (i + 2) = x.links
    unfold g16
    rw [over_in _ _ _ _ _ (by omega), over_in _ _ _ _ _ (by omega), show i + 2 - i = 2 by omega, show i + 2 + 1 - i = 3 by omega]
    exact byteOf_sum2 _ hl.1 (by omega)
  · exact hw 0 (by omega)
  · exact hw 1 (by omega)
  · intro k hk
    have := hw (k + 2) (by omega)
    have e : x.word (k + 2) = x.p k := by unfold Ino.word; rw [if_neg (by omega), if_neg (by omega), if_pos (by omega)]; rfl
    rw [e] at this
    show g32 _ (i + 12 + 4 * k) = _
    rw [show i + 12 + 4 * k = i + 4 + 4 * (k + 2) by omega]; exact this
  · exact hw 13 (by omega)
theorem May_congr {x y : Ino} (h : inoEq x y = true) : x.May ↔ y.May := by
  rw [inoEq_iff] at h
  obtain ⟨h1, h2, h3, h4, h5, h6⟩ := h
  have : allZ x.p 11 = true ↔ allZ y.p 11 = true := by
    rw [allZ_iff, allZ_iff]
    exact ⟨fun h i hi => by rw [← h5 i hi]; exact h i hi, fun h i hi => by rw [h5 i hi]; exact h i hi⟩
  unfold Ino.May
  rw [h1, h2, h4, h6, this]
theorem val_congr {x y : Ino} (h : inoEq x y = true) : x.val = y.val := by
  rw [inoEq_iff] at h
  obtain ⟨h1, h2, h3, h4, h5, h6⟩ := h
  unfold Ino.val
  rw [h1, h2, h3, h4, h6, h5 0 (by omega), h5 1 (by omega), h5 2 (by omega), h5 3 (by omega), h5 4 (by omega), h5 5 (by omega), h5 6 (by omega), h5 7 (by omega), h5 8 (by omega), h5 9 (by omega), h5 10 (by omega)]
theorem put_getOk (z : Nat → Int) (i : Nat) (x : Ino) (hx : x.Ok) (hm : x.May) : getOkB (over z i 64 x.byte) i = true := by
  unfold getOkB
  have h := put_get z i x hx hm
  rw [decide_eq_true ((May_congr h).2 hm), Bool.and_true, Bool.and_eq_true, beq_iff_eq, allZ_iff]
  refine ⟨?_, fun k hk => ?_⟩
  · rw [over_in _ _ _ _ _ (by omega), show i + 1 - i = 1 by omega]; rfl
  · rw [over_in _ _ _ _ _ (by omega), show i + 60 + k - i = 60 + k by omega]
    unfold Ino.byte; rw [if_neg (by omega), if_neg (by omega), if_neg (by omega), if_neg (by omega)]
theorem word_of (z : Nat → Int) (i k : Nat) (hk : k < 14) : (inoOf z i).word k = g32 z (i + 4 + 4 * k) := by
  unfold Ino.word
  split
  · subst_vars; rfl
  · split
    · subst_vars; rfl
    · split
      · show g32 z (i + 12 + 4 * (k - 2)) = _
        rw [show i + 12 + 4 * (k - 2) = i + 4 + 4 * k by omega]
      · obtain rfl : k = 13 := by omega
        rfl
theorem get_put {z : Nat → Int} (hz : Byt z) (i : Nat) (h : getOkB z i = true) (j : Nat) : over z i 64 (inoOf z i).byte j = z j := by
  unfold getOkB at h
  rw [Bool.and_eq_true, Bool.and_eq_true, beq_iff_eq, allZ_iff] at h
  obtain ⟨h1, h2, _⟩ := h
  by_cases hj : i ≤ j ∧ j < i + 64
  · rw [over_in _ _ _ _ _ hj]
    obtain ⟨d, rfl⟩ : ∃ d, j = i + d := ⟨j - i, by omega⟩
    rw [Nat.add_sub_cancel_left]
    unfold Ino.byte
    split
    · subst_vars; rfl
    · split
      · subst_vars; exact h1.symm
      · split
        · show byteOf (g16 z (i + 2)) (d - 2) = _
          rw [byteOf_g16 z hz _ _ (by omega), show i + 2 + (d - 2) = i + d by omega]
        · split
          · rw [word_of z i _ (by omega), byteOf_g32 z hz _ _ (by omega), show i + 4 + 4 * ((d - 4) / 4) + (d - 4) % 4 = i + d by omega]
          · have := h2 (d - 60) (by omega)
            rw [show i + 60 + (d - 60) = i + d by omega] at this
            exact this.symm
  · rw [over_out _ _ _ _ _ (by omega)]
/-- what stands at i depends on those 64 bytes alone -/
theorem inoOf_congr {z y : Nat → Int} (i : Nat) (h : ∀ j, i ≤ j → j < i + 64 → z j = y j) : inoEq (inoOf z i) (inoOf y i) = true ∧ getOkB z i = getOkB y i := by
  have h4 : ∀ k, k + 4 ≤ 64 → g32 z (i + k) = g32 y (i + k) := fun k hk => by unfold g32; rw [h _ (by omega) (by omega), h _ (by omega) (by omega), h _ (by omega) (by omega), h _ (by omega) (by omega)]
  have he : inoEq (inoOf z i) (inoOf y i) = true := by
    rw [inoEq_iff]
    refine ⟨h i (by omega) (by omega), ?_, h4 4 (by omega), h4 8 (by omega), fun k hk => ?_, h4 56 (by omega)⟩
    · show g16 z (i + 2) = g16 y (i + 2)
      unfold g16; rw [h _ (by omega) (by omega), h _ (by omega) (by omega)]
    · show g32 z (i + 12 + 4 * k) = g32 y (i + 12 + 4 * k)
      have := h4 (12 + 4 * k) (by omega)
      rwa [← Nat.add_assoc] at this
  refine ⟨he, ?_⟩
  unfold getOkB
  rw [h (i + 1) (by omega) (by omega), decide_eq_decide.2 (May_congr he)]
  have : allZ (fun k => z (i + 60 + k)) 4 = allZ (fun k => y (i + 60 + k)) 4 := by
    rw [Bool.eq_iff_iff, allZ_iff, allZ_iff]
    exact ⟨fun g k hk => by rw [← h _ (by omega) (by omega)]; exact g k hk, fun g k hk => by rw [h _ (by omega) (by omega)]; exact g k hk⟩
  rw [this]
end Go.Proofs.Ytlgjpjccjklnnaa
