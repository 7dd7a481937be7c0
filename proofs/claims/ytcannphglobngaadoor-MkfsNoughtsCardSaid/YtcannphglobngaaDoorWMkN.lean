/- MkfsNoughts. -/
import Derived.Test.YtcannphglobngaaDoorMkG
namespace Go.Proofs.YtcannphglobngaaDoor
open Go.RowKit
set_option linter.unusedVariables false

theorem nght_cases (K A B : Int) : ((K == 7) = true ∧ nghtB K A B = true) ∨ ((K == 7) = false ∧ (K == 3) = true ∧ decide (0 < B) = true ∧ nghtB K A B = true) ∨
    ((K == 7) = false ∧ (K == 3) = true ∧ decide (0 < B) = false ∧ (K == 6) = false ∧ nghtB K A B = false) ∨
    ((K == 7) = false ∧ (K == 3) = false ∧ (K == 6) = true ∧ decide (0 < A) = true ∧ nghtB K A B = true) ∨
    ((K == 7) = false ∧ (K == 3) = false ∧ (K == 6) = true ∧ decide (0 < A) = false ∧ decide (2 < B) = true ∧ nghtB K A B = true) ∨
    ((K == 7) = false ∧ (K == 3) = false ∧ (K == 6) = true ∧ decide (0 < A) = false ∧ decide (2 < B) = false ∧ nghtB K A B = false) ∨
    ((K == 7) = false ∧ (K == 3) = false ∧ (K == 6) = false ∧ nghtB K A B = false) := by
  unfold nghtB
  cases h7 : (K == 7) with
  | true => exact .inl ⟨rfl, rfl⟩
  | false =>
  refine .inr ?_
  cases h3 : (K == 3) with
  | true =>
    have h6 : (K == 6) = false := by rw [beq_iff_eq] at h3; rw [h3]; rfl
    cases hb : decide (0 < B) with
    | true => exact .inl ⟨rfl, rfl, rfl, rfl⟩
    | false => exact .inr (.inl ⟨rfl, rfl, rfl, h6, by rw [h6]; rfl⟩)
  | false =>
  refine .inr (.inr ?_)
  cases h6 : (K == 6) with
  | false => exact .inr (.inr (.inr ⟨rfl, rfl, rfl, rfl⟩))
  | true =>
  cases ha : decide (0 < A) with
  | true => exact .inl ⟨rfl, rfl, rfl, rfl, rfl⟩
  | false =>
  cases hb : decide (2 < B) with
  | true => exact .inr (.inl ⟨rfl, rfl, rfl, rfl, rfl, rfl⟩)
  | false => exact .inr (.inr (.inl ⟨rfl, rfl, rfl, rfl, rfl, rfl⟩))

set_option maxRecDepth 100000 in
set_option maxHeartbeats 8000000 in
theorem mkfsNoughts_walk (G S I J x : Int) (hx0 : -9223372036854775808 ≤ x) (hx1 : x ≤ 9223372036854775807) (w : World) (hT : Tab w) :
    Calls Tryd.prog 5 #[gval G S I J, .int .i64 x] w fun e w' => e = .returned (.bool true) ∧ Below w.heap.size w w' := by
  have hal := zero_block
  have hs0 := At.new w 23 (gcells G S I J)
  have HL0 : Hid (Below w.heap.size w (w.alloc (.cells (gcells G S I J) 23))) := (Below.refl _ _).alloc (Nat.le_refl _) _
  have HT0 := Lib.hid (hT.alloc (.cells (gcells G S I J) 23))
  clear hT
  go_enter Tryd.func5, Tryd.ntmps5
  go_wp2_with fail
  refine (awake21 _ HT0.out).mono ?_
  rintro e w1 ⟨rfl, hb1⟩
  have hs1 := hs0.below hb1 hs0.lt
  have HL1 := Lib.hid (HL0.out.trans (hb1.mono HL0.out.size))
  have HT1 := Lib.hid (HT0.out.below hb1 (Nat.le_refl _))
  clear hs0 HL0 HT0 hb1
  go_wp2_with (first | (refine wp_loadAtG rfl 23 (.tmp 2) rfl _ _ _ rfl hs1 Tryd.underlying23 rfl (by kernel_rfl) ?_))
  cases hm : mayG G S I J with
  | false =>
    refine (make_no G S I J hm _).mono ?_
    rintro e w2 ⟨rfl, hb2⟩
    have HL2 := Lib.hid (HL1.out.trans (hb2.mono HL1.out.size))
    clear hm hs1 HL1 HT1 hb2
    go_wp2_with fail
    go_ret
    exact ⟨rfl, HL2.out⟩
  | true =>
  obtain ⟨a1, a2, a3, a4, a5, a6, a7, a8, a9, a10, a11⟩ := (mayG_iff G S I J).1 hm
  obtain ⟨g, rfl⟩ : ∃ g : Nat, G = (g : Int) := ⟨G.toNat, by omega⟩
  obtain ⟨s, rfl⟩ : ∃ s : Nat, S = (s : Int) := ⟨S.toNat, by omega⟩
  obtain ⟨i, rfl⟩ : ∃ i : Nat, I = (i : Int) := ⟨I.toNat, by omega⟩
  obtain ⟨j, rfl⟩ : ∃ j : Nat, J = (j : Int) := ⟨J.toNat, by omega⟩
  clear a1 a2 a3 a4 a5 a6 a7 a8 a9 a10 a11
  have HM := Lib.hid hm
  refine (make_yes g s i j hm _ HT1.out).mono ?_
  rintro e w2 ⟨q, rfl, hi2⟩
  obtain ⟨n, hn⟩ : ∃ n, n = 2 + j + g * s := ⟨_, rfl⟩
  have hn48 : n ≤ 2048 := by have := mayN hm; omega
  have HN := Lib.hid hn
  have hs2 := hs1.below hi2.bel hs1.lt
  have HL2 := Lib.hid (HL1.out.trans (hi2.bel.mono HL1.out.size))
  have HI := Lib.hid hi2
  rw [← hn]
  clear hn hm hs1 HL1 HT1 hi2
  by_cases hx : x < 0
  · go_wp2_with fail
    go_ret
    exact ⟨rfl, HL2.out⟩
  have q0 : decide (x < 0) = false := decide_eq_false hx
  obtain ⟨b, rfl⟩ : ∃ b : Nat, x = (b : Int) := ⟨x.toNat, by omega⟩
  by_cases hxn : n ≤ b
  · have q1 : decide ((n : Int) ≤ (b : Int)) = true := decide_eq_true (by omega)
    have q1' : decide (n ≤ b) = true := decide_eq_true hxn
    go_wp2_with fail
    go_ret
    exact ⟨rfl, HL2.out⟩
  have q1 : decide ((n : Int) ≤ (b : Int)) = false := decide_eq_false (by omega)
  have q1' : decide (n ≤ b) = false := decide_eq_false hxn
  have hbn : b < n := by omega
  clear hx hxn
  go_wp2_with (first | (refine wp_loadAtG rfl 23 (.tmp 2) rfl _ _ _ rfl hs2 Tryd.underlying23 rfl (by kernel_rfl) ?_))
  refine (what2_any g s i j b hx0 hx1 w2).mono ?_
  rintro e w3 ⟨K, A, B, rfl, hw3, hb3⟩
  have hz : isZ (mkB g s i j b) = nghtB K A B := what_noughts HM.out (by have := HN.out; omega) hw3
  have hrg : w3.rangeAt q (b * 256) (Ks .u8 256 (mkB g s i j b)) := by
    have := HI.out.a.seg.range b (by have := HN.out; omega)
    rw [Nat.zero_add] at this
    exact rangeAt_below this hb3 HI.out.a.lt
  have HE : Hid (∀ W, (binOp .eql 32 (bval (mkB g s i j b)) (bval (fun _ => 0))).run Tryd.prog W = .ok (.bool (nghtB K A B)) W) := fun W => by rw [← hz]; exact run_eql_block _ _ W
  have HNE : Hid (∀ W, (binOp .neq 32 (bval (mkB g s i j b)) (bval (fun _ => 0))).run Tryd.prog W = .ok (.bool (!nghtB K A B)) W) := fun W => by rw [← hz]; exact run_neq_block _ _ W
  have HL3 := Lib.hid (HL2.out.trans (hb3.mono HL2.out.size))
  clear hs2 HL2 HI hz hw3 hb3 q1 q1' q0
  have hb0 : (0 : Int) ≤ (b : Int) := by omega
  have hb1 : (b : Int) < (n : Int) := by omega
  have hc := nght_cases K A B
  rcases hc with ⟨c1, hN⟩ | ⟨c1, c2, c3, hN⟩ | ⟨c1, c2, c3, c4, hN⟩ | ⟨c1, c2, c3, c4, hN⟩ | ⟨c1, c2, c3, c4, c5, hN⟩ | ⟨c1, c2, c3, c4, c5, hN⟩ | ⟨c1, c2, c3, hN⟩
  all_goals
    have he := HE.out
    have hne := HNE.out
    rw [hN] at he hne
    clear HE HNE hN
    simp only [Bool.not_true, Bool.not_false] at hne
    go_wp2_with (first | (refine wp_loadRange rfl 32 _ rfl q (b * 256) (Ks .u8 256 (mkB g s i j b)) _ rfl hrg Tryd.underlying32 rfl (by rw [Ks_length]; exact info_block) ?_))
    go_ret
    exact ⟨rfl, HL3.out⟩
end Go.Proofs.YtcannphglobngaaDoor
