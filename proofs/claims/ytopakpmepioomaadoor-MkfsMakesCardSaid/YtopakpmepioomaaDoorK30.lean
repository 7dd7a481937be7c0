/- Texts of this claim, merged by a program (a claim may have 60 files): U6h, MkF. -/
import Derived.Test.YtopakpmepioomaaDoorK17
import Derived.Test.YtopakpmepioomaaDoorK26
import Derived.Test.YtopakpmepioomaaDoorK29
/- quernlaw06.awake. -/
namespace Go.Proofs.YtopakpmepioomaaDoor
open Go.RowKit
set_option linter.unusedVariables false

def sz : Nat → Int := supZ 2 16 8 40 7
def a6b : Nat → Int := fun _ => 12
def a6i : Nat → Int := fun i => if i = 0 then 7 else 8
def a6d : Nat → Int := fun i => if i = 0 then 1 else 0
def dz : Nat → Int := descZ 2 16 8 40 2 a6b a6i a6d
theorem supZ_byt (G S I J O : Int) : Byt (supZ G S I J O) := by
  unfold supZ; split
  · exact sealZ_byt (hz_byt _)
  · intro i; show (0 : Int) ≤ 0 ∧ (0 : Int) < 256; decide
theorem descZ_byt (G S I J : Int) (n : Nat) (b i d : Nat → Int) : Byt (descZ G S I J n b i d) := by
  unfold descZ; split
  · exact sealZ_byt (hz_byt _)
  · intro i; show (0 : Int) ≤ 0 ∧ (0 : Int) < 256; decide
theorem supZ_low {G S I J O : Int} (h : supOk G S I J O = true) (i : Nat) (hi : i < 252) : supZ G S I J O i = hz (supH G S I J O) i := by
  unfold supZ; rw [if_pos h, sealZ_low _ _ hi]
theorem descZ_low {G S I J : Int} {n : Nat} {b i d : Nat → Int} (h : descOk G S I J n b i d = true) (k : Nat) (hk : k < 252) : descZ G S I J n b i d k = hz (dH b i d n) k := by
  unfold descZ; rw [if_pos h, sealZ_low _ _ hk]
theorem sz_at : sz 0 = 81 ∧ sz 3 = 49 ∧ sz 7 = 1 ∧ sz 10 = 16 ∧ sz 16 = 7 := by
  have h : supOk 2 16 8 40 7 = true := by decide
  unfold sz
  rw [supZ_low h _ (by omega), supZ_low h _ (by omega), supZ_low h _ (by omega), supZ_low h _ (by omega), supZ_low h _ (by omega)]
  decide
theorem dz_at : dz 2 = 7 ∧ dz 8 = 12 := by
  have h : descOk 2 16 8 40 2 a6b a6i a6d = true := by decide
  unfold dz
  rw [descZ_low h _ (by omega), descZ_low h _ (by omega)]
  decide
theorem sz_sum : g32 sz 252 = crcZ sz 252 := by
  have h : supOk 2 16 8 40 7 = true := by decide
  have := sumB_seal (hz (supH 2 16 8 40 7))
  unfold sumB at this
  rw [beq_iff_eq] at this
  have e : sz = sealZ (hz (supH 2 16 8 40 7)) := by unfold sz supZ; rw [if_pos h]
  rw [e]; exact this
theorem run_desc2 (a b c d e f : Int) (w : World) : (Instr.buildSlice 45 2 #[(0, dval a b c), (1, dval d e f)]).run Tryd.prog w = .ok (.slice (some ⟨w.heap.size, 0, none⟩) 2 2) (w.alloc (.cells #[.int .i64 a, .int .i64 b, .int .i64 c, .int .i64 d, .int .i64 e, .int .i64 f] 50)) := by kernel_rfl
theorem desc2_row (w : World) (b i d : Nat → Int) : RRow (w.alloc (.cells #[.int .i64 (b 0), .int .i64 (i 0), .int .i64 (d 0), .int .i64 (b 1), .int .i64 (i 1), .int .i64 (d 1)] 50)) (some ⟨w.heap.size, 0, none⟩) 3 2 (df b i d) :=
  .inr ⟨_, _, rfl, fun k hk j v hj => by
    refine cell_of_heap (heap_alloc_new w _) ?_
    have hj3 : j < 3 := (List.getElem?_eq_some_iff.1 hj).1
    rw [← hj]
    obtain rfl | rfl : k = 0 ∨ k = 1 := by omega
    all_goals (obtain rfl | rfl | rfl : j = 0 ∨ j = 1 ∨ j = 2 := by omega)
    all_goals rfl⟩
theorem read_zero : readE (fun _ => 0) = 60 := by
  have : readA (fun _ => 0) = false := by unfold readA; rw [show (g32 (fun _ => 0) 0 == 827216465) = false by decide]; rfl
  unfold readE; rw [this]; rfl
theorem readV_zero : readV (fun _ => 0) = sval 0 0 0 0 0 := readV_no (.inl read_zero)

structure A6 (w : World) (g0 g1 : Nat) (W : World) : Prop where
  s : At W g0 23 (gcells 2 16 8 40)
  b : Blk W g1 32 256 sz
  t : Tab W
  bel : Below w.heap.size w W
theorem A6.below {w : World} {g0 g1 : Nat} {W W' : World} (h : A6 w g0 g1 W) (hb : Below W.heap.size W W') : A6 w g0 g1 W' := ⟨h.s.below hb h.s.lt, h.b.below hb h.b.lt, h.t.below hb (Nat.le_refl _), h.bel.trans (hb.mono h.bel.size)⟩
theorem A6.only {w : World} {g0 g1 : Nat} {W W' : World} {g : Nat} (h : A6 w g0 g1 W) (hb : Only g W W') (h1 : w.heap.size ≤ g) (hg0 : g0 ≠ g) (hg1 : g1 ≠ g) (hT : 0 < w.heap.size) : A6 w g0 g1 W' :=
  ⟨h.s.only hb hg0, h.b.only hb hg1, h.t.only hb (by omega), h.bel.trans (hb.below h1)⟩

end Go.Proofs.YtopakpmepioomaaDoor

/- The empty image: what each block is, and which are noughts. -/
namespace Go.Proofs.YtopakpmepioomaaDoor
open Go.RowKit
set_option linter.unusedVariables false

theorem mkB_group {g s i j γ d : Nat} (hs : 16 ≤ s) (hj : 40 ≤ j) (hd : d < s) :
    mkB g s i j (2 + j + γ * s + d) = if γ = 0 ∧ d = 2 then rootZ else if d = 0 then bZ (mapB (2 + i / 4) s) else if d = 1 then bZ (mapB (if γ = 0 then 1 else 0) i) else fun _ => 0 := by
  have hsub : 2 + j + γ * s + d - (2 + j) = s * γ + d := by rw [Nat.mul_comm]; omega
  have hmod : (2 + j + γ * s + d - (2 + j)) % s = d := by rw [hsub, Nat.mul_add_mod, Nat.mod_eq_of_lt hd]
  have hdiv : (2 + j + γ * s + d - (2 + j)) / s = γ := by rw [hsub, Nat.mul_add_div (by omega), Nat.div_eq_of_lt hd]; rfl
  unfold mkB mk0
  by_cases e : γ = 0 ∧ d = 2
  · obtain ⟨rfl, rfl⟩ := e
    rw [if_pos (by omega), if_pos ⟨rfl, rfl⟩]
  · rw [if_neg e, hmod, hdiv]
    have e2 : ¬ 2 + j + γ * s + d = 2 + j + 2 := by
      intro h
      apply e
      rcases Nat.eq_zero_or_pos γ with rfl | hγ
      · exact ⟨rfl, by omega⟩
      · have : 1 * s ≤ γ * s := Nat.mul_le_mul_right s hγ
        omega
    rw [if_neg e2, if_neg (by omega), if_neg (by omega), if_neg (by omega), if_neg (by omega)]
theorem mkB_head {g s i j b : Nat} (hj : 40 ≤ j) (h : 3 ≤ b) (hb : b < 2 + j) : mkB g s i j b = fun _ => 0 := by
  unfold mkB mk0
  rw [if_neg (by omega), if_neg (by omega), if_neg (by omega), if_neg (by omega), if_pos hb]
theorem mkB_0 {g s i j : Nat} (hj : 40 ≤ j) : mkB g s i j 0 = supZ g s i j 0 := by unfold mkB mk0; rw [if_neg (by omega), if_pos rfl]
theorem mkB_1 {g s i j : Nat} (hj : 40 ≤ j) : mkB g s i j 1 = descZ g s i j g (dkB g s i j) (dkI i) dkD := by unfold mkB mk0; rw [if_neg (by omega), if_neg (by omega), if_pos rfl]
theorem mkB_2 {g s i j : Nat} (hj : 40 ≤ j) : mkB g s i j 2 = headZ 1 0 := by unfold mkB mk0; rw [if_neg (by omega), if_neg (by omega), if_neg (by omega), if_pos rfl]
theorem zero_byt : Byt (fun _ => 0) := fun _ => ⟨Int.le_refl 0, (by decide : (0 : Int) < 256)⟩
theorem headZ_byt (s t : Int) : Byt (headZ s t) := by
  unfold headZ; split
  · exact wz_byt _
  · exact zero_byt
theorem rootI_byt : Byt rootI.byte := by
  intro i
  unfold Ino.byte
  repeat (first | split | exact byteOf_bd _ _ | exact ⟨by decide, by decide⟩)
theorem mkB_byt (g s i j b : Nat) : Byt (mkB g s i j b) := by
  unfold mkB mk0
  repeat (first | split | exact byt_over zero_byt rootI_byt _ _ | exact supZ_byt _ _ _ _ _ | exact descZ_byt _ _ _ _ _ _ _ _ | exact headZ_byt _ _ | exact zero_byt | exact bZ_byt _)

/-- is it a block of noughts? -/
def isZ (z : Nat → Int) : Bool := eqB z (fun _ => 0) 256
theorem isZ_zero : isZ (fun _ => 0) = true := eqB_refl _ _
theorem isZ_no {z : Nat → Int} {k : Nat} (hk : k < 256) (h : z k ≠ 0) : isZ z = false := eqB_no hk h
theorem sup_not0 {g s i j : Nat} (hm : mayG g s i j = true) : isZ (supZ g s i j 0) = false := by
  refine isZ_no (k := 0) (by omega) ?_
  rw [supZ_low (supOk0 hm) _ (by omega)]
  unfold hz supH upd2 geoH
  simp [upd, byteOf]
theorem dH_low (b i d : Nat → Int) : ∀ n, 0 < n → dH b i d n 1 = i 0
  | 0, h => by omega
  | 1, _ => by simp [dH, upd]
  | n + 2, _ => by
    rw [dH]
    have := dH_low b i d (n + 1) (by omega)
    unfold upd
    rw [if_neg (by omega), if_neg (by omega), if_neg (by omega)]
    exact this
theorem desc_not0 {g s i j : Nat} (hm : mayG g s i j = true) : isZ (descZ g s i j g (dkB g s i j) (dkI i) dkD) = false := by
  obtain ⟨h1, h2, h3, h4, h5, h6, h7, h8, h9, h10, h11⟩ := mayN hm
  refine isZ_no (k := 2) (by omega) ?_
  rw [descZ_low (descOk0 hm) _ (by omega)]
  unfold hz
  rw [show 2 / 2 = 1 from rfl, show 2 % 2 = 0 from rfl, dH_low _ _ _ _ (by omega), byteOf_zero]
  unfold dkI
  rw [if_pos rfl]
  omega
theorem head_not0 : isZ (headZ 1 0) = false := isZ_no (k := 0) (by omega) (by decide)
theorem root_not0 : isZ rootZ = false := isZ_no (k := 0) (by omega) (by decide)
theorem bZ_not0 {P : Nat → Bool} {k : Nat} (hk : k < 2048) (h : P k = true) : isZ (bZ P) = false := by
  refine isZ_no (k := k / 8) (by omega) ?_
  have e := by8_and P (k / 8) (k % 8) (Nat.mod_lt _ (by decide))
  rw [show 8 * (k / 8) + k % 8 = k by omega, h] at e
  unfold bZ
  intro h0
  have h1 : by8 P (k / 8) = 0 := by omega
  rw [h1] at e
  have : 0 < 2 ^ (k % 8) := Nat.two_pow_pos _
  simp at e
  omega
/-- which blocks are noughts, by what they are -/
def nghtB (K A B : Int) : Bool := K == 7 || ((K == 3 && decide (0 < B)) || (K == 6 && (decide (0 < A) || decide (2 < B))))
theorem pcells_inj {K A F S P K' A' F' S' P' : Int} (h : pcells K A F S P = pcells K' A' F' S' P') : K = K' ∧ A = A' ∧ F = F' ∧ S = S' ∧ P = P' := by
  unfold pcells at h
  injection h with h
  simp only [List.cons.injEq, Value.int.injEq, true_and, and_true] at h
  exact h
theorem what_noughts {g s i j x : Nat} (hm : mayG g s i j = true) (hx : x < 2 + j + g * s) {K A B : Int} (h : WhatIs g s i j x K A B) : isZ (mkB g s i j x) = nghtB K A B := by
  obtain ⟨h1, h2, h3, h4, h5, h6, h7, h8, h9, h10, h11⟩ := mayN hm
  rcases h with ⟨h, _⟩ | ⟨_, k, Sz, Pl, hk, hp, hlo, hhi, hB⟩
  · exfalso
    have hn : nBl g s i j = 2 + j + g * s := by unfold nBl; rw [hm]; rfl
    have e : ((g * s : Nat) : Int) = (g : Int) * (s : Int) := Int.natCast_mul _ _
    rw [hn, ← e] at h
    rw [hm] at h
    rcases h with h | h | h
    · cases h
    · omega
    · omega
  · have hc : k = 0 ∨ k = 1 ∨ k = 2 ∨ ∃ γ m, m < 4 ∧ k = 3 + 4 * γ + m := by
      by_cases h0 : k < 3
      · omega
      · exact .inr (.inr (.inr ⟨(k - 3) / 4, (k - 3) % 4, Nat.mod_lt _ (by decide), by omega⟩))
    rcases hc with rfl | rfl | rfl | ⟨γ, m, hm4, rfl⟩
    · have e0 : frF s ((i : Int) / 4) j 0 = 0 := rfl
      have e1 : frF s ((i : Int) / 4) j 1 = 1 := rfl
      rw [Nat.zero_add, e1] at hhi
      rw [e0] at hlo
      obtain rfl : x = 0 := by omega
      obtain ⟨rfl, _⟩ := pcells_inj (hp.symm.trans (show ptF s ((i : Int) / 4) j 0 = pcells 1 0 0 1 0 from rfl))
      rw [mkB_0 h8, sup_not0 hm]; rfl
    · have e1 : frF s ((i : Int) / 4) j 1 = 1 := rfl
      have e2 : frF s ((i : Int) / 4) j (1 + 1) = 2 := rfl
      rw [e2] at hhi
      rw [e1] at hlo
      obtain rfl : x = 1 := by omega
      obtain ⟨rfl, _⟩ := pcells_inj (hp.symm.trans (show ptF s ((i : Int) / 4) j 1 = pcells 2 0 1 1 0 from rfl))
      rw [mkB_1 h8, desc_not0 hm]; rfl
    · have e2 : frF s ((i : Int) / 4) j 2 = 2 := rfl
      have e3 : frF s ((i : Int) / 4) j (2 + 1) = 2 + j := by have := frF_end s ((i : Int) / 4) j 0; simpa using this
      rw [e3] at hhi
      rw [e2] at hlo hB
      obtain ⟨rfl, rfl, _, _, rfl⟩ := pcells_inj (hp.symm.trans (show ptF s ((i : Int) / 4) j 2 = pcells 3 0 2 j 0 from rfl))
      by_cases hx2 : x = 2
      · subst hx2
        rw [mkB_2 h8, head_not0, hB]; rfl
      · rw [mkB_head h8 (by omega) (by omega), isZ_zero]
        have : decide (0 < B) = true := decide_eq_true (by omega)
        unfold nghtB; rw [this]; rfl
    · have e : ((γ * s : Nat) : Int) = (γ : Int) * (s : Int) := Int.natCast_mul _ _
      rw [frF_at _ _ _ _ hm4, ← e] at hlo
      have hup : frF s ((i : Int) / 4) j (3 + 4 * γ + m + 1) = 2 + j + ((γ * s : Nat) : Int) + (if m = 0 then 1 else if m = 1 then 2 else if m = 2 then 2 + (i : Int) / 4 else s) := by
        obtain rfl | rfl | rfl | rfl : m = 0 ∨ m = 1 ∨ m = 2 ∨ m = 3 := by omega
        · rw [show 3 + 4 * γ + 0 + 1 = 3 + 4 * γ + 1 from rfl, frF_at _ _ _ _ (by omega), e]; rfl
        · rw [show 3 + 4 * γ + 1 + 1 = 3 + 4 * γ + 2 from rfl, frF_at _ _ _ _ (by omega), e]; rfl
        · rw [show 3 + 4 * γ + 2 + 1 = 3 + 4 * γ + 3 from rfl, frF_at _ _ _ _ (by omega), e]; rfl
        · rw [show 3 + 4 * γ + 3 + 1 = 3 + 4 * (γ + 1) by omega, frF_end, e, Int.natCast_succ, Int.add_mul, Int.one_mul]
          simp only [show (3 : Nat) ≠ 0 by decide, show (3 : Nat) ≠ 1 by decide, show (3 : Nat) ≠ 2 by decide, if_false]
          omega
      rw [hup] at hhi
      rw [frF_at _ _ _ _ hm4, ← e] at hB
      rw [ptF_at _ _ _ _ hm4] at hp
      obtain ⟨d, rfl⟩ : ∃ d, x = 2 + j + γ * s + d := ⟨x - (2 + j + γ * s), by split at hlo <;> omega⟩
      obtain rfl | rfl | rfl | rfl : m = 0 ∨ m = 1 ∨ m = 2 ∨ m = 3 := by omega
      · simp at hlo hhi
        rw [if_pos rfl] at hp
        obtain rfl : d = 0 := by omega
        obtain ⟨rfl, _⟩ := pcells_inj hp.symm
        rw [mkB_group h3 h8 (by omega), if_neg (by omega), if_pos rfl, bZ_not0 (k := 0) (by omega) (by unfold mapB; simp; omega)]; rfl
      · simp at hlo hhi
        rw [if_neg (by decide), if_pos rfl] at hp
        obtain rfl : d = 1 := by omega
        obtain ⟨rfl, _⟩ := pcells_inj hp.symm
        rw [mkB_group h3 h8 (by omega), if_neg (by omega), if_neg (by omega), if_pos rfl, bZ_not0 (k := 2047) (by omega) (by unfold mapB; simp; omega)]; rfl
      · simp at hlo hhi hB
        rw [if_neg (by decide), if_neg (by decide), if_pos rfl] at hp
        obtain ⟨rfl, rfl, _, _, rfl⟩ := pcells_inj hp.symm
        rw [mkB_group h3 h8 (by omega)]
        by_cases h0 : γ = 0 ∧ d = 2
        · obtain ⟨rfl, rfl⟩ := h0
          rw [if_pos ⟨rfl, rfl⟩, root_not0, show B = 2 by omega]; rfl
        · rw [if_neg h0, if_neg (by omega), if_neg (by omega), isZ_zero]
          have : (decide (0 < (γ : Int)) || decide (2 < B)) = true := by
            rw [Bool.or_eq_true, decide_eq_true_eq, decide_eq_true_eq]
            by_cases hγ : γ = 0
            · exact .inr (by have : d ≠ 2 := fun h => h0 ⟨hγ, h⟩; omega)
            · exact .inl (by omega)
          unfold nghtB; rw [this]; rfl
      · simp at hlo hhi
        rw [if_neg (by decide), if_neg (by decide), if_neg (by decide)] at hp
        obtain ⟨rfl, _⟩ := pcells_inj hp.symm
        rw [mkB_group h3 h8 (by omega), if_neg (by omega), if_neg (by omega), if_neg (by omega), isZ_zero]; rfl
end Go.Proofs.YtopakpmepioomaaDoor
