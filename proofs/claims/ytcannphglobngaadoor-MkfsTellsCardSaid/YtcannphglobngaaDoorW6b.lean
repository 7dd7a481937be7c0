/- Plain laws of written superblocks and descriptors; SuperKinds. -/
import Derived.Test.YtcannphglobngaaDoorU6h
namespace Go.Proofs.YtcannphglobngaaDoor
open Go.RowKit
set_option linter.unusedVariables false

theorem hd_seal {l : Nat → Int} (hl : Hvs l) {k : Nat} (hk : k < 126) : hd (sealZ (hz l)) k = l k := by
  unfold hd sealZ
  rw [g16_out _ _ _ _ _ (.inl (by omega))]
  exact g16_hz k (hl k)
theorem g32_seal {l : Nat → Int} (hl : Hvs l) {k : Nat} (hk : k + 1 < 126) : g32 (sealZ (hz l)) (2 * k) = l k + 65536 * l (k + 1) := by
  unfold sealZ
  rw [g32_out _ _ _ _ _ (.inl (by omega))]
  exact g32_hz hl k
theorem hvs0 : Hvs (fun _ => 0) := fun _ => ⟨Int.le_refl 0, by show (0 : Int) < 65536; decide⟩
theorem supH_hvs {G S I J O : Int} (h : mayG G S I J = true) (hO : 0 ≤ O ∧ O < 4294967296) : Hvs (supH G S I J O) := by
  obtain ⟨b1, b2, b3, b4, b5, b6, b7, b8⟩ := geo_small h
  exact upd2_hvs (upd_hvs (upd_hvs (upd_hvs (upd_hvs (upd_hvs (upd_hvs (upd2_hvs hvs0 _ (by decide)) _ (by decide)) _ (by decide)) _ (by omega)) _ (by omega)) _ (by omega)) _ (by omega)) _ hO
theorem supOk_iff {G S I J O : Int} : supOk G S I J O = true ↔ mayG G S I J = true ∧ O ≤ nIn G S I J := by unfold supOk; rw [Bool.and_eq_true, decide_eq_true_eq]
theorem supE_iff {G S I J O : Int} : supE G S I J O = 0 ↔ supOk G S I J O = true := by
  rw [supOk_iff]
  unfold supE
  cases h : mayG G S I J with
  | false => simp
  | true => by_cases h2 : O ≤ nIn G S I J <;> simp [h2]
theorem descOk_iff {G S I J : Int} {n : Nat} {b i d : Nat → Int} : descOk G S I J n b i d = true ↔ mayG G S I J = true ∧ mayD G S I J n b i d = true := by unfold descOk; rw [Bool.and_eq_true]
theorem descE_iff {G S I J : Int} {n : Nat} {b i d : Nat → Int} : descE G S I J n b i d = 0 ↔ descOk G S I J n b i d = true := by
  rw [descOk_iff]
  unfold descE
  cases h : mayG G S I J with
  | false => simp
  | true => cases h2 : mayD G S I J n b i d <;> simp
theorem supZ_yes {G S I J O : Int} (h : supOk G S I J O = true) : supZ G S I J O = sealZ (hz (supH G S I J O)) := by unfold supZ; rw [if_pos h]
theorem descZ_yes {G S I J : Int} {n : Nat} {b i d : Nat → Int} (h : descOk G S I J n b i d = true) : descZ G S I J n b i d = sealZ (hz (dH b i d n)) := by unfold descZ; rw [if_pos h]
theorem dH_eq (b i d : Nat → Int) (n m : Nat) : dH b i d n m = if m / 4 < n then (if m % 4 = 0 then b (m / 4) else if m % 4 = 1 then i (m / 4) else if m % 4 = 2 then d (m / 4) else 0) else 0 := by
  induction n with
  | zero => rw [if_neg (by omega)]; rfl
  | succ n ih =>
    show upd (upd (upd (dH b i d n) (4 * n) (b n)) (4 * n + 1) (i n)) (4 * n + 2) (d n) m = _
    unfold upd
    by_cases h2 : m = 4 * n + 2
    · rw [if_pos h2, if_pos (by omega), if_neg (by omega), if_neg (by omega), if_pos (by omega), show m / 4 = n by omega]
    rw [if_neg h2]
    by_cases h1 : m = 4 * n + 1
    · rw [if_pos h1, if_pos (by omega), if_neg (by omega), if_pos (by omega), show m / 4 = n by omega]
    rw [if_neg h1]
    by_cases h0 : m = 4 * n
    · rw [if_pos h0, if_pos (by omega), if_pos (by omega), show m / 4 = n by omega]
    rw [if_neg h0, ih]
    by_cases h3 : m = 4 * n + 3
    · rw [if_neg (by omega), if_pos (by omega), if_neg (by omega), if_neg (by omega), if_neg (by omega)]
    by_cases h : m / 4 < n
    · have h' : m / 4 < n + 1 := by omega
      rw [if_pos h, if_pos h']
    · have h' : ¬ m / 4 < n + 1 := by omega
      rw [if_neg h, if_neg h']
theorem readV_form (z : Nat → Int) : ∃ x1 x2 x3 x4 x5, readV z = sval x1 x2 x3 x4 x5 := by
  unfold readV
  by_cases h : readE z = 0
  · rw [if_pos h]; exact ⟨_, _, _, _, _, rfl⟩
  · rw [if_neg h]; exact ⟨_, _, _, _, _, rfl⟩
theorem dH_hvs {b i d : Nat → Int} {n : Nat} (h : ∀ k, k < n → (0 ≤ b k ∧ b k ≤ 512) ∧ (0 ≤ i k ∧ i k ≤ 64) ∧ (0 ≤ d k ∧ d k ≤ 64)) : Hvs (dH b i d n) := by
  intro m
  rw [dH_eq]
  split
  · rename_i hm
    have := h (m / 4) hm
    split
    · omega
    split
    · omega
    split
    · omega
    · omega
  · omega
/-- a superblock's block is no descriptors' -/
theorem kinds1 {G S I J O : Int} (h : supOk G S I J O = true) (hO : 0 ≤ O ∧ O < 4294967296) (G' S' I' J' : Int) : rdOk G' S' I' J' (supZ G S I J O) = false := by
  unfold rdOk
  cases hm : mayG G' S' I' J' with
  | false => rfl
  | true =>
    obtain ⟨h1, h2, h3, h4, h5, h6, h7, h8, h9, h10, h11⟩ := (mayG_iff G' S' I' J').1 hm
    have h3 : hd (supZ G S I J O) 3 = 256 := by
      rw [supZ_yes h, hd_seal (supH_hvs (supOk_iff.1 h).1 hO) (by omega)]
      simp [supH, geoH, upd2, upd]
    have : allB (fun k => hd (supZ G S I J O) (4 * k + 3) == 0) G'.toNat = false := allB_no (j := 0) (by omega) (by
      show (hd (supZ G S I J O) 3 == 0) = false
      rw [h3]; rfl)
    unfold rdIn
    rw [this]
    simp
/-- .. and the other way -/
theorem kinds2 {G S I J : Int} {n : Nat} {b i d : Nat → Int} (h : descOk G S I J n b i d = true) : readE (descZ G S I J n b i d) = 60 := by
  obtain ⟨hm, hd'⟩ := descOk_iff.1 h
  obtain ⟨hn, hn4, hall⟩ := mayD_iff hm hd'
  obtain ⟨h1, h2, h3, h4, h5, h6, h7, h8, h9, h10, h11⟩ := (mayG_iff G S I J).1 hm
  have h0 := hall 0 (by omega)
  have e : (g32 (descZ G S I J n b i d) 0 == 827216465) = false := by
    rw [descZ_yes h, show (0 : Nat) = 2 * 0 from rfl, g32_seal (dH_hvs hall) (by omega), dH_eq, dH_eq, if_pos (by omega), if_pos (by omega), if_pos (by omega), if_neg (by omega), if_pos (by omega)]
    rw [beq_eq_false_iff_ne]
    show b 0 + 65536 * i 0 ≠ _
    omega
  have : readA (descZ G S I J n b i d) = false := by unfold readA; rw [e]; rfl
  unfold readE; rw [this]; rfl

structure K6 (w : World) (G S I J O G' S' I' J' : Int) (W : World) : Prop where
  s : At W w.heap.size 42 (scells G S I J O)
  q : At W (w.heap.size + 1) 23 (gcells G' S' I' J')
  t : Tab W
  bel : Below w.heap.size w W
theorem K6.below {w : World} {G S I J O G' S' I' J' : Int} {W W' : World} (h : K6 w G S I J O G' S' I' J' W) (hb : Below W.heap.size W W') : K6 w G S I J O G' S' I' J' W' := ⟨h.s.below hb h.s.lt, h.q.below hb h.q.lt, h.t.below hb (Nat.le_refl _), h.bel.trans (hb.mono h.bel.size)⟩
theorem K6.only {w : World} {G S I J O G' S' I' J' : Int} {W W' : World} {g : Nat} (h : K6 w G S I J O G' S' I' J' W) (hb : Only g W W') (hg : w.heap.size + 2 ≤ g) (hT : 0 < w.heap.size) : K6 w G S I J O G' S' I' J' W' :=
  ⟨h.s.only hb (by omega), h.q.only hb (by omega), h.t.only hb (by omega), h.bel.trans (hb.below (by omega))⟩

end Go.Proofs.YtcannphglobngaaDoor
