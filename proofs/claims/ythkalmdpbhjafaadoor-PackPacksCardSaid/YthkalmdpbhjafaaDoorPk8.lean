/- Two rows of blocks: are they the same? slices.Equal, quernref15.SameBlocks. Printed by gen_pksame.py. -/
import Derived.Test.YthkalmdpbhjafaaDoorPk6
namespace Go.Proofs.YthkalmdpbhjafaaDoor
open Go.RowKit
set_option linter.unusedVariables false

/-- the first so many blocks are the same -/
def eqBs (B C : Nat → Nat → Int) : Nat → Bool
  | 0 => true
  | k + 1 => eqBs B C k && eqB (B k) (C k) 256
theorem eqBs_succ (B C : Nat → Nat → Int) (k : Nat) : eqBs B C (k + 1) = (eqBs B C k && eqB (B k) (C k) 256) := rfl
theorem eqBs_iff (B C : Nat → Nat → Int) (n : Nat) : eqBs B C n = true ↔ ∀ i, i < n → ∀ j, j < 256 → B i j = C i j := by
  induction n with
  | zero => simp [eqBs]
  | succ n ih =>
    rw [eqBs_succ, Bool.and_eq_true, ih, eqB_iff]
    constructor
    · rintro ⟨h, g⟩ i hi
      by_cases e : i = n
      · rw [e]; exact g
      · exact h i (by omega)
    · intro h; exact ⟨fun i hi => h i (by omega), h n (by omega)⟩
theorem eqBs_no {B C : Nat → Nat → Int} {n k : Nat} (hk : k < n) (h : eqB (B k) (C k) 256 = false) : eqBs B C n = false := by
  cases e : eqBs B C n with
  | false => rfl
  | true =>
    have := (eqB_iff (B k) (C k) 256).2 ((eqBs_iff B C n).1 e k hk)
    rw [h] at this; cases this
def sameB (B C : Nat → Nat → Int) (n m : Nat) : Bool := (n == m) && eqBs B C n

set_option maxRecDepth 100000 in
set_option maxHeartbeats 4000000 in
theorem slicesEqual_any (a c : Option Addr) (n m cap cap' : Nat) (B C : Nat → Nat → Int) (hn : (n : Int) ≤ 9223372036854775807) (hm : (m : Int) ≤ 9223372036854775807) (w : World) (ha : RRow w a 256 n (bkF B)) (hc : RRow w c 256 m (bkF C)) :
    Calls Tryd.prog 38 #[.slice a n cap, .slice c m cap'] w fun e w' => e = .returned (.bool (sameB B C n m)) ∧ ∃ d, w' = w.drewN d := by
  by_cases hnm : n = m
  rotate_left
  · have hq : ((n : Int) == (m : Int)) = false := by rw [beq_eq_false_iff_ne]; omega
    have hq' : ((n : Int) != (m : Int)) = true := by rw [bne, hq]; rfl
    have HO : Hid (sameB B C n m = false) := by show _ = _; unfold sameB; rw [show (n == m) = false by rw [beq_eq_false_iff_ne]; exact hnm]; rfl
    clear hnm ha hc
    go_enter Tryd.func38, Tryd.ntmps38
    go_wp2_with fail
    go_ret
    exact ⟨by rw [HO.out]; rfl, 0, rfl⟩
  subst hnm
  have HA := Lib.hid ha
  have HC := Lib.hid hc
  have HS : Hid (∀ b, eqBs B C n = b → sameB B C n n = b) := fun b hb => by unfold sameB; rw [hb, beq_self_eq_true]; rfl
  clear ha hc
  go_enter Tryd.func38, Tryd.ntmps38
  go_wp2_with fail
  go_loopw [5, 13] (fun _ u wr => ∃ k : Nat, k ≤ n ∧ u = .int .i64 (k : Int) ∧ Hid (eqBs B C k = true) ∧ ∃ d, wr = w.drewN d) (fun _ u _ => n - (intOf u).toNat)
  case atStart => exact ⟨0, by omega, rfl, rfl, 0, rfl⟩
  case round =>
    obtain ⟨k, hk, rfl, HK, d, hd⟩ := hrel
    have hS : (∃ d, wr = w.drewN d) := ⟨d, hd⟩
    clear hd
    by_cases hlt : k < n
    · have hlt' : (k : Int) < (n : Int) := by omega
      have k0 : (0 : Int) ≤ (k : Int) := by omega
      obtain ⟨b, off, rfl, h1⟩ : ∃ b off, a = some ⟨b, off, none⟩ ∧ RSeg w b off 256 n (bkF B) := by
        rcases HA.out with h | h
        · omega
        · exact h
      obtain ⟨b2, off2, rfl, h2⟩ : ∃ b off, c = some ⟨b, off, none⟩ ∧ RSeg w b off 256 n (bkF C) := by
        rcases HC.out with h | h
        · omega
        · exact h
      have r1 := h1.range k hlt
      have r2 := h2.range k hlt
      clear h1 h2
      go_wp2_with fail
      refine wp_region_S (fun W => ∃ d, W = w.drewN d) (by kernel_rfl) (by kernel_rfl) (by obtain ⟨d, rfl⟩ := hS; exact ⟨d + 1, rfl⟩) ?_
      clear hS
      intro hne
      first | go_big_quiet_skip | (go_big_quiet_want; go_big_quiet_op; go_big_quiet_on)
      first | go_big_quiet_skip | (go_big_quiet_want; go_big_quiet_op; go_big_quiet_on)
      first | go_big_quiet_skip | (go_big_quiet_want; go_big_quiet_op; go_big_quiet_on)
      refine q_load rfl 40 (.tmp 18) rfl b (off + k * 256) rfl (bkF B k) _ (fun W h => by obtain ⟨d, rfl⟩ := h; exact r1) Tryd.underlying40 rfl (by rw [bkF_len]; exact info_block) ?_
      refine wpQuiet_frame (by simp only [Act.put, List.setIfInBounds_toArray, List.set_cons_succ, List.set_cons_zero]; exact rfl) ?_
      first | go_big_quiet_skip | (go_big_quiet_want; go_big_quiet_op; go_big_quiet_on)
      first | go_big_quiet_skip | (go_big_quiet_want; go_big_quiet_op; go_big_quiet_on)
      first | go_big_quiet_skip | (go_big_quiet_want; go_big_quiet_op; go_big_quiet_on)
      refine q_load rfl 40 (.tmp 22) rfl b2 (off2 + k * 256) rfl (bkF C k) _ (fun W h => by obtain ⟨d, rfl⟩ := h; exact r2) Tryd.underlying40 rfl (by rw [bkF_len]; exact info_block) ?_
      refine wpQuiet_frame (by simp only [Act.put, List.setIfInBounds_toArray, List.set_cons_succ, List.set_cons_zero]; exact rfl) ?_
      refine q_val rfl (.bool (!eqB (B k) (C k) 256)) (fun W => by
        refine Eq.trans (b := ((do pure (.value (← binOp .neq 40 (bval (B k)) (bval (C k))))) : Sem Next).run Tryd.prog W) (by kernel_rfl) ?_
        rw [Sem.run_bind, run_neq_block]; rfl) ?_
      refine wpQuiet_frame (by simp only [Act.put, List.setIfInBounds_toArray, List.set_cons_succ, List.set_cons_zero]; exact rfl) ?_
      refine wpQuiet_nil ?_
      intro w9 h9
      have hd9 := h9.out
      clear h9 hne r1 r2
      cases he : eqB (B k) (C k) 256 with
      | false =>
        have HO := Lib.hid (HS.out false (eqBs_no hlt he))
        clear he
        go_wp2_with fail
        go_ret
        exact ⟨by rw [HO.out]; rfl, hd9⟩
      | true =>
        have HK1 : Hid (eqBs B C (k + 1) = true) := by show _ = _; rw [eqBs_succ, HK.out, he]; rfl
        have HD9 := Lib.hid hd9
        clear he hd9
        go_wp2_with fail
        go_roundw
        case rel => first | exact ⟨k + 1, by omega, by go_num, HK1, HD9.out⟩ | exact ⟨k + 1, by omega, rfl, HK1, HD9.out⟩
        case measure => simp [intOf]; omega
    · obtain rfl : k = n := by omega
      have HO := Lib.hid (HS.out true HK.out)
      have HSS := Lib.hid hS
      clear hS
      go_wp2_with fail
      go_ret
      exact ⟨by rw [HO.out]; rfl, HSS.out⟩

set_option maxRecDepth 100000 in
set_option maxHeartbeats 4000000 in
theorem sameBlocks_any (a c : Option Addr) (n m cap cap' : Nat) (B C : Nat → Nat → Int) (hn : (n : Int) ≤ 9223372036854775807) (hm : (m : Int) ≤ 9223372036854775807) (w : World) (ha : RRow w a 256 n (bkF B)) (hc : RRow w c 256 m (bkF C)) :
    Calls Tryd.prog 16 #[.slice a n cap, .slice c m cap'] w fun e w' => e = .returned (.bool (sameB B C n m)) ∧ ∃ d, w' = w.drewN d := by
  by_cases hnm : n = m
  rotate_left
  · have hq : ((n : Int) == (m : Int)) = false := by rw [beq_eq_false_iff_ne]; omega
    have hq' : ((n : Int) != (m : Int)) = true := by rw [bne, hq]; rfl
    have HO : Hid (sameB B C n m = false) := by show _ = _; unfold sameB; rw [show (n == m) = false by rw [beq_eq_false_iff_ne]; exact hnm]; rfl
    clear hnm ha hc
    go_enter Tryd.func16, Tryd.ntmps16
    go_wp2_with fail
    go_ret
    exact ⟨by rw [HO.out]; rfl, 0, rfl⟩
  subst hnm
  have HA := Lib.hid ha
  have HC := Lib.hid hc
  have HS : Hid (∀ b, eqBs B C n = b → sameB B C n n = b) := fun b hb => by unfold sameB; rw [hb, beq_self_eq_true]; rfl
  clear ha hc
  go_enter Tryd.func16, Tryd.ntmps16
  go_wp2_with fail
  go_loopw [5] (fun  u wr => ∃ k : Nat, k ≤ n ∧ u = .int .i64 (k : Int) ∧ Hid (eqBs B C k = true) ∧ ∃ d, wr = w.drewN d) (fun  u _ => n - (intOf u).toNat)
  case atStart => exact ⟨0, by omega, rfl, rfl, 0, rfl⟩
  case round =>
    obtain ⟨k, hk, rfl, HK, d, hd⟩ := hrel
    have hS : (∃ d, wr = w.drewN d) := ⟨d, hd⟩
    clear hd
    by_cases hlt : k < n
    · have hlt' : (k : Int) < (n : Int) := by omega
      have k0 : (0 : Int) ≤ (k : Int) := by omega
      obtain ⟨b, off, rfl, h1⟩ : ∃ b off, a = some ⟨b, off, none⟩ ∧ RSeg w b off 256 n (bkF B) := by
        rcases HA.out with h | h
        · omega
        · exact h
      obtain ⟨b2, off2, rfl, h2⟩ : ∃ b off, c = some ⟨b, off, none⟩ ∧ RSeg w b off 256 n (bkF C) := by
        rcases HC.out with h | h
        · omega
        · exact h
      have r1 := h1.range k hlt
      have r2 := h2.range k hlt
      clear h1 h2
      go_wp2_with fail
      refine wp_region_S (fun W => ∃ d, W = w.drewN d) (by kernel_rfl) (by kernel_rfl) (by obtain ⟨d, rfl⟩ := hS; exact ⟨d + 1, rfl⟩) ?_
      clear hS
      intro hne
      first | go_big_quiet_skip | (go_big_quiet_want; go_big_quiet_op; go_big_quiet_on)
      first | go_big_quiet_skip | (go_big_quiet_want; go_big_quiet_op; go_big_quiet_on)
      first | go_big_quiet_skip | (go_big_quiet_want; go_big_quiet_op; go_big_quiet_on)
      refine q_load rfl 40 (.tmp 19) rfl b (off + k * 256) rfl (bkF B k) _ (fun W h => by obtain ⟨d, rfl⟩ := h; exact r1) Tryd.underlying40 rfl (by rw [bkF_len]; exact info_block) ?_
      refine wpQuiet_frame (by simp only [Act.put, List.setIfInBounds_toArray, List.set_cons_succ, List.set_cons_zero]; exact rfl) ?_
      first | go_big_quiet_skip | (go_big_quiet_want; go_big_quiet_op; go_big_quiet_on)
      first | go_big_quiet_skip | (go_big_quiet_want; go_big_quiet_op; go_big_quiet_on)
      first | go_big_quiet_skip | (go_big_quiet_want; go_big_quiet_op; go_big_quiet_on)
      refine q_load rfl 40 (.tmp 23) rfl b2 (off2 + k * 256) rfl (bkF C k) _ (fun W h => by obtain ⟨d, rfl⟩ := h; exact r2) Tryd.underlying40 rfl (by rw [bkF_len]; exact info_block) ?_
      refine wpQuiet_frame (by simp only [Act.put, List.setIfInBounds_toArray, List.set_cons_succ, List.set_cons_zero]; exact rfl) ?_
      refine q_val rfl (.bool (!eqB (B k) (C k) 256)) (fun W => by
        refine Eq.trans (b := ((do pure (.value (← binOp .neq 40 (bval (B k)) (bval (C k))))) : Sem Next).run Tryd.prog W) (by kernel_rfl) ?_
        rw [Sem.run_bind, run_neq_block]; rfl) ?_
      refine wpQuiet_frame (by simp only [Act.put, List.setIfInBounds_toArray, List.set_cons_succ, List.set_cons_zero]; exact rfl) ?_
      refine wpQuiet_nil ?_
      intro w9 h9
      have hd9 := h9.out
      clear h9 hne r1 r2
      cases he : eqB (B k) (C k) 256 with
      | false =>
        have HO := Lib.hid (HS.out false (eqBs_no hlt he))
        clear he
        go_wp2_with fail
        go_ret
        exact ⟨by rw [HO.out]; rfl, hd9⟩
      | true =>
        have HK1 : Hid (eqBs B C (k + 1) = true) := by show _ = _; rw [eqBs_succ, HK.out, he]; rfl
        have HD9 := Lib.hid hd9
        clear he hd9
        go_wp2_with fail
        go_roundw
        case rel => first | exact ⟨k + 1, by omega, by go_num, HK1, HD9.out⟩ | exact ⟨k + 1, by omega, rfl, HK1, HD9.out⟩
        case measure => simp [intOf]; omega
    · obtain rfl : k = n := by omega
      have HO := Lib.hid (HS.out true HK.out)
      have HSS := Lib.hid hS
      clear hS
      go_wp2_with fail
      go_ret
      exact ⟨by rw [HO.out]; rfl, HSS.out⟩
end Go.Proofs.YthkalmdpbhjafaaDoor
