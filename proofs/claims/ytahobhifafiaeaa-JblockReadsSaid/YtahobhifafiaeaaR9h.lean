/- The contract of quernref09.Kind. -/
import Derived.Test.YtahobhifafiaeaaR9f
namespace Go.Proofs.Ytahobhifafiaeaa
open Go.RowKit
set_option linter.unusedVariables false

structure RkSt (w : World) (z : Nat → Int) (W : World) : Prop where
  b : Blk W w.heap.size 28 256 z
  bel : Below w.heap.size w W
theorem kind_rng (z : Nat → Int) : kindOf z = 0 ∨ (1 ≤ kindOf z ∧ kindOf z ≤ 4 ∧ seqOf z = wd z 2) := by
  unfold kindOf seqOf
  by_cases h : kindB z = true
  · rw [if_pos h, if_pos h]
    unfold kindB at h
    simp only [Bool.and_eq_true, decide_eq_true_eq] at h
    exact .inr ⟨h.2.2.1, h.2.2.2, rfl⟩
  · rw [if_neg h]; exact .inl rfl
theorem kind_zero (z : Nat → Int) (h : kindOf z = 0) : seqOf z = 0 := by
  unfold kindOf at h
  unfold seqOf
  by_cases hk : kindB z = true
  · rw [if_pos hk] at h
    unfold kindB at hk
    simp only [Bool.and_eq_true, decide_eq_true_eq] at hk
    omega
  · rw [if_neg hk]

set_option maxRecDepth 100000 in
set_option maxHeartbeats 1000000 in
theorem rKind_any (z : Nat → Int) (hz : Byt z) (w : World) :
    Calls Try.prog 29 #[bval z] w fun e w' => e = .returned (.tuple #[.int .u8 (kindOf z), .int .u32 (seqOf z)]) ∧ Below w.heap.size w w' := by
  have st0 : RkSt w z (w.alloc (.cells (Ks .u8 256 z).toArray 28)) := ⟨Blk.new _ _ _ _, (Below.refl _ _).alloc (Nat.le_refl _) _⟩
  go_enter Try.func29, Try.ntmps29
  go_wp2_with fail
  go_loopw [4] (fun u wr => ∃ k : Nat, 1 ≤ k ∧ k ≤ 5 ∧ u = .int .u32 (k : Int) ∧ Hid (kindOf z = 0 ∨ (k : Int) ≤ kindOf z) ∧ RkSt w z wr) (fun u _ => 5 - (intOf u).toNat)
  case atStart => exact ⟨1, by omega, by omega, rfl, by rcases kind_rng z with h | h; exact .inl h; exact .inr h.1, st0⟩
  case round =>
    clear st0
    obtain ⟨k, hk1, hk5, rfl, HK, st⟩ := hrel
    by_cases hlt : k ≤ 4
    · have hB := st.b
      go_wp2_with (first | (refine wp_loadBlkG rfl (.tmp 1) rfl w.heap.size z rfl hB ?_))
      refine (rbegins_any z hz (k : Int) _).mono ?_
      rintro e w2 ⟨rfl, hb2⟩
      rw [beginsB_iff z k (by omega) (by omega)]
      have hB2 := hB.below hb2 hB.lt
      have hL2 : Below w.heap.size w w2 := st.bel.trans (hb2.mono st.bel.size)
      clear hB hb2 st
      cases hq : (kindOf z == (k : Int)) with
      | false =>
        have hne : kindOf z ≠ (k : Int) := by simpa using hq
        have HK1 : Hid (kindOf z = 0 ∨ ((k + 1 : Nat) : Int) ≤ kindOf z) := by rcases HK.out with h | h; exact .inl h; exact .inr (by omega)
        have st2 : RkSt w z w2 := ⟨hB2, hL2⟩
        clear hq hne HK
        go_wp2_with fail
        go_roundw
        case rel => first | exact ⟨k + 1, by omega, by omega, by go_num, HK1, st2⟩ | ((repeat apply Exists.intro); exact ⟨⟨k + 1, by omega, by omega, by go_num, HK1, st2⟩, rfl⟩)
        case measure => simp [intOf]; omega
      | true =>
        have hk : kindOf z = (k : Int) := by simpa using hq
        have HS : Hid (kindOf z = (k : Int) ∧ seqOf z = wd z 2) := ⟨hk, by rcases kind_rng z with h | h; omega; exact h.2.2⟩
        clear hq hk HK
        go_wp2_with (first | (refine wp_loadBlkG rfl (.tmp 1) rfl w.heap.size z rfl hB2 ?_))
        refine (rat_any z hz 2 8 rfl (by omega) _).mono ?_
        rintro e w3 ⟨rfl, hb3⟩
        have hL3 : Below w.heap.size w w3 := hL2.trans (hb3.mono hL2.size)
        clear hB2 hL2 hb3
        go_wp2_with fail
        go_ret2
        exact ⟨by rw [HS.out.1, HS.out.2]; first | rfl | (go_num; rfl) | simp, hL3⟩
    · have HZ : Hid (kindOf z = 0) := by rcases HK.out with h | h; exact h; rcases kind_rng z with h2 | h2; exact h2; exfalso; omega
      have hL := st.bel
      clear HK st
      go_wp2_with fail
      go_ret2
      exact ⟨by rw [HZ.out, kind_zero z HZ.out]; rfl, hL⟩
end Go.Proofs.Ytahobhifafiaeaa
