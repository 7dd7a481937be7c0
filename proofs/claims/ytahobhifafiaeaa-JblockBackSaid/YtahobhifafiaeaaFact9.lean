/- What is written as a journal block is read as its own kind, and as no other one: the plain law. -/
import Derived.Test.YtahobhifafiaeaaOne9
import Derived.Test.YtahobhifafiaeaaW9a
namespace Go.Proofs.Ytahobhifafiaeaa
open Go.RowKit
set_option linter.unusedVariables false

theorem kind_of_rd (z : Nat → Int) : (headRd z = true → kindOf z = 4) ∧ (descRd z = true → kindOf z = 1) ∧ (revRd z = true → kindOf z = 3) ∧ (commitRd z = true → kindOf z = 2) :=
  ⟨fun h => by unfold headRd at h; rw [Bool.and_eq_true, beq_iff_eq] at h; exact h.1, fun h => by unfold descRd at h; rw [Bool.and_eq_true, beq_iff_eq] at h; exact h.1,
   fun h => by unfold revRd at h; rw [Bool.and_eq_true, beq_iff_eq] at h; exact h.1, fun h => by unfold commitRd at h; rw [Bool.and_eq_true, beq_iff_eq] at h; exact h.1⟩
theorem rd_none : ∀ j, rdB (fun _ => 0) j = false := by
  have h : kindOf (fun _ => 0) = 0 := by decide
  obtain ⟨a, b, c, d⟩ := kind_of_rd (fun _ => 0)
  intro j
  unfold rdB
  have no : ∀ (B : Bool) (k : Int), (B = true → kindOf (fun _ => 0) = k) → k ≠ 0 → B = false := fun B k hb hk => by
    cases B with
    | false => rfl
    | true => exact absurd ((hb rfl).symm.trans h) hk
  split
  · exact no _ 1 b (by decide)
  · split
    · exact no _ 2 d (by decide)
    · split
      · exact no _ 3 c (by decide)
      · exact no _ 4 a (by decide)
theorem rd_only (z : Nat → Int) (k : Nat) (hk : 1 ≤ k ∧ k ≤ 4) (h : rdB z k = true) : (∀ j, 1 ≤ j → j ≤ 4 → rdB z j = (true && j == k)) ∧ kindOf z = (k : Int) := by
  obtain ⟨a, b, c, d⟩ := kind_of_rd z
  have hkd : ∀ j, 1 ≤ j → j ≤ 4 → rdB z j = true → kindOf z = (j : Int) := by
    intro j h1 h4 hj
    obtain rfl | rfl | rfl | rfl : j = 1 ∨ j = 2 ∨ j = 3 ∨ j = 4 := by omega
    · exact b hj
    · exact d hj
    · exact c hj
    · exact a hj
  refine ⟨fun j h1 h4 => ?_, hkd k hk.1 hk.2 h⟩
  rw [Bool.true_and]
  by_cases e : j = k
  · subst e; rw [h]; simp
  · have : rdB z j = false := by
      cases hj : rdB z j with
      | false => rfl
      | true =>
        have h1' := hkd j h1 h4 hj
        have h2' := hkd k hk.1 hk.2 h
        omega
    rw [this]; simp [e]
/-- all that is asked of a block that is read as kind k just if E -/
structure Fact (z : Nat → Int) (k : Nat) (E : Bool) : Prop where
  byt : Byt z
  rd : ∀ j, 1 ≤ j → j ≤ 4 → rdB z j = (E && j == k)
  kind : E = true → kindOf z = (k : Int)
theorem Fact.no {k : Nat} {z : Nat → Int} (hz : z = fun _ => 0) : Fact z k false := by
  subst hz
  exact ⟨fun i => by show (0 : Int) ≤ 0 ∧ (0 : Int) < 256; decide, fun j _ _ => by rw [rd_none]; rfl, (fun h => by cases h)⟩
theorem Fact.yes {k : Nat} {z : Nat → Int} (hz : Byt z) (hk : 1 ≤ k ∧ k ≤ 4) (h : rdB z k = true) : Fact z k true := ⟨hz, (rd_only z k hk h).1, fun _ => (rd_only z k hk h).2⟩
theorem factA (s t : Int) (E : Bool) (h : headOk s t = E) : Fact (headZ s t) 4 E ∧ (E = true → hdS (headZ s t) = s ∧ hdT (headZ s t) = t) := by
  cases E with
  | false => exact ⟨Fact.no (by unfold headZ; rw [h]; rfl), (fun h => by cases h)⟩
  | true =>
    have h' := h
    unfold headOk at h'
    rw [Bool.and_eq_true, decide_eq_true_eq] at h'
    obtain ⟨hs, ht⟩ := h'
    have hsb := seqB_bd hs
    have hz : headZ s t = wz (jw 4 s t nz) := by unfold headZ; rw [h]; rfl
    have e := wds_eq (jw_wds (by decide) (by omega) (by omega) nz_wds) hz
    have e0 : wd (headZ s t) 0 = 1280199249 := e 0
    have e1 : wd (headZ s t) 1 = 4 := e 1
    have e2 : wd (headZ s t) 2 = s := e 2
    have e3 : wd (headZ s t) 3 = t := e 3
    have hk : kindB (headZ s t) = true := by unfold kindB; rw [e0, e1, e2, hs]; rfl
    have hk4 : kindOf (headZ s t) = 4 := by unfold kindOf; rw [hk, e1]; rfl
    have hq : seqOf (headZ s t) = s := by unfold seqOf; rw [hk, e2]; rfl
    have hr : headRd (headZ s t) = true := by
      unfold headRd
      rw [hk4, e3, decide_eq_true ht.2]
      simp only [beq_self_eq_true, Bool.true_and]
      rw [allZ_iff]
      intro j _
      rw [e]
      unfold jw nz
      rw [if_neg (by omega), if_neg (by omega), if_neg (by omega), if_neg (by omega)]
    refine ⟨Fact.yes (headZ_byt s t) (by decide) hr, fun _ => ⟨?_, ?_⟩⟩
    · unfold hdS; rw [hr, if_pos rfl, hq]
    · unfold hdT; rw [hr, if_pos rfl, e3]
theorem factD (s n v : Int) (hv : 0 ≤ v ∧ v < 4294967296) (E : Bool) (h : commitOk s n = E) : Fact (commitZ s n v) 2 E ∧ (E = true → commitV (commitZ s n v) = .tuple #[.int .u32 s, .int .i64 n, .int .u32 v, .int .i64 0]) := by
  cases E with
  | false => exact ⟨Fact.no (by unfold commitZ; rw [h]; rfl), (fun h => by cases h)⟩
  | true =>
    obtain ⟨h1, h2, h3⟩ := commit_law s n v hv h
    refine ⟨Fact.yes (commitZ_byt s n v) (by decide) ?_, fun _ => h1⟩
    show commitRd (commitZ s n v) = true
    cases hc : commitRd (commitZ s n v) with
    | true => rfl
    | false => unfold commitV at h1; rw [hc] at h1; simp at h1
theorem factC (s : Int) (n : Nat) (m : Nat → Int) (hm : Wds m) (E : Bool) (h : revOk s n m = E) : Fact (revZ s n m) 3 E ∧ (E = true → wd (revZ s n m) 2 = s ∧ rowsN (revZ s n m) = n ∧ ∀ i, i < n → revM (revZ s n m) i = m i) := by
  cases E with
  | false => exact ⟨Fact.no (by unfold revZ; rw [h]; rfl), (fun h => by cases h)⟩
  | true =>
    obtain ⟨h1, h2, h3, h4, _, _⟩ := revoke_law s n m hm h
    refine ⟨Fact.yes ?_ (by decide) h1, fun _ => ⟨h2, h3, h4⟩⟩
    unfold revZ; rw [h]; exact wz_byt _
theorem factB (s : Int) (n : Nat) (tb : Nat → Int) (te : Nat → Bool) (htb : Wds tb) (E : Bool) (h : descOk s n tb = E) : Fact (descZ s n tb te) 1 E ∧ (E = true → wd (descZ s n tb te) 2 = s ∧ rowsN (descZ s n tb te) = n ∧ ∀ i, i < n → descT (descZ s n tb te) i = tb i ∧ descE (descZ s n tb te) i = te i) := by
  cases E with
  | false => exact ⟨Fact.no (by unfold descZ; rw [h]; rfl), (fun h => by cases h)⟩
  | true =>
    have h' := h
    unfold descOk at h'
    rw [Bool.and_eq_true, Bool.and_eq_true, decide_eq_true_eq] at h'
    obtain ⟨hs, hn, hr⟩ := h'
    have hsb := seqB_bd hs
    have hz : descZ s n tb te = wz (jw 1 s n (tagR tb te n)) := by unfold descZ; rw [h]; rfl
    have hW : Wds (jw 1 s n (tagR tb te n)) := jw_wds (by decide) (by omega) (by omega) (fun k => by
      unfold tagR
      split
      · split
        · exact htb _
        · unfold bit; split <;> decide
      · decide)
    have e := wds_eq hW hz
    have e0 : wd (descZ s n tb te) 0 = 1280199249 := e 0
    have e1 : wd (descZ s n tb te) 1 = 1 := e 1
    have e2 : wd (descZ s n tb te) 2 = s := e 2
    have e3 : wd (descZ s n tb te) 3 = n := e 3
    have hk : kindB (descZ s n tb te) = true := by unfold kindB; rw [e0, e1, e2, hs]; rfl
    have hk1 : kindOf (descZ s n tb te) = 1 := by unfold kindOf; rw [hk, e1]; rfl
    have hN : rowsN (descZ s n tb te) = n := by unfold rowsN; rw [e3]; omega
    have hT : ∀ i, i < n → wd (descZ s n tb te) (4 + 2 * i) = tb i := fun i hi => by
      rw [e]; unfold jw tagR
      rw [if_neg (by omega), if_neg (by omega), if_neg (by omega), if_neg (by omega), if_pos (by omega), if_pos (by omega)]
      congr 1; omega
    have hE : ∀ i, i < n → wd (descZ s n tb te) (5 + 2 * i) = bit (te i) := fun i hi => by
      rw [e]; unfold jw tagR
      rw [if_neg (by omega), if_neg (by omega), if_neg (by omega), if_neg (by omega), if_pos (by omega), if_neg (by omega)]
      congr 2; omega
    have hd : descRd (descZ s n tb te) = true := by
      unfold descRd
      rw [hk1, e3, hN, decide_eq_true (show 1 ≤ (n : Int) ∧ (n : Int) ≤ 30 by omega)]
      have hB : descB (descZ s n tb te) n = true := (descB_iff _ _).2 ⟨fun i hi => by rw [hE i hi]; unfold bit; split <;> decide, (riseB_congr (k1 := descT (descZ s n tb te)) (k2 := tb) (fun i hi => hT i hi)).trans hr⟩
      rw [hB]
      simp only [beq_self_eq_true, Bool.true_and]
      rw [allZ_iff]
      intro j hj
      rw [e]
      unfold jw tagR
      rw [if_neg (by omega), if_neg (by omega), if_neg (by omega), if_neg (by omega), if_neg (by omega)]
    refine ⟨Fact.yes ?_ (by decide) hd, fun _ => ⟨e2, hN, fun i hi => ⟨hT i hi, ?_⟩⟩⟩
    · rw [hz]; exact wz_byt _
    · show (wd (descZ s n tb te) (5 + 2 * i) == 1) = te i
      rw [hE i hi]; unfold bit; cases te i <;> rfl
theorem Fact.a {z : Nat → Int} {k : Nat} {E : Bool} (h : Fact z k E) : descRd z = (E && 1 == k) ∧ commitRd z = (E && 2 == k) ∧ revRd z = (E && 3 == k) ∧ headRd z = (E && 4 == k) :=
  ⟨h.rd 1 (by decide) (by decide), h.rd 2 (by decide) (by decide), h.rd 3 (by decide) (by decide), h.rd 4 (by decide) (by decide)⟩
end Go.Proofs.Ytahobhifafiaeaa
