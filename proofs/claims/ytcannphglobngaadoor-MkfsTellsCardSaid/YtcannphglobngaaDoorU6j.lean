/- What was written is read; with a byte otherwise it isn't: plain laws. -/
import Derived.Test.YtcannphglobngaaDoorW6c
namespace Go.Proofs.YtcannphglobngaaDoor
set_option linter.unusedVariables false

theorem supH_low (G S I J O : Int) : supH G S I J O 0 = 21073 ∧ supH G S I J O 1 = 12622 ∧ supH G S I J O 2 = 1 ∧ supH G S I J O 3 = 256 := by
  simp [supH, geoH, upd2, upd]
theorem supH_high (G S I J O : Int) (k : Nat) (hk : 10 ≤ k) : supH G S I J O k = 0 := by
  unfold supH geoH upd2 upd
  rw [if_neg (by omega), if_neg (by omega), if_neg (by omega), if_neg (by omega), if_neg (by omega), if_neg (by omega), if_neg (by omega), if_neg (by omega), if_neg (by omega), if_neg (by omega)]
/-- a superblock's block is read as just that superblock -/
theorem sup_back {G S I J O : Int} (h : supOk G S I J O = true) (hO : 0 ≤ O ∧ O < 4294967296) : readE (supZ G S I J O) = 0 ∧ readV (supZ G S I J O) = sval G S I J O := by
  obtain ⟨hm, hn⟩ := supOk_iff.1 h
  have hv := supH_hvs hm hO
  rw [supZ_yes h]
  generalize hl : supH G S I J O = l at *
  have hh : ∀ k, k < 126 → hd (sealZ (hz l)) k = l k := fun k hk => hd_seal hv hk
  obtain ⟨a0, a1, a2, a3⟩ := supH_low G S I J O
  obtain ⟨a4, a5, a6, a7, a8, a9⟩ := supH_at G S I J O
  have ah := supH_high G S I J O
  rw [hl] at a0 a1 a2 a3 a4 a5 a6 a7 a8 a9 ah
  have z0 : g32 (sealZ (hz l)) 0 = 827216465 := by rw [show (0 : Nat) = 2 * 0 from rfl, g32_seal hv (by omega), a0, a1]; rfl
  have z16 : g32 (sealZ (hz l)) 16 = O := by rw [show (16 : Nat) = 2 * 8 from rfl, g32_seal hv (by omega), a8, a9]; omega
  have zn : allZ (fun i => sealZ (hz l) (20 + i)) 232 = true := by
    have := allZ_hd (sealZ_byt (hz_byt l)) 10 116
    rw [show 2 * 10 = 20 from rfl, show 2 * 116 = 232 from rfl] at this
    rw [this, allZ_iff]
    intro j hj
    show hd (sealZ (hz l)) (10 + j) = 0
    rw [hh _ (by omega)]
    exact ah _ (by omega)
  have hA : readA (sealZ (hz l)) = true := by unfold readA; rw [z0, hh 2 (by omega), hh 3 (by omega), a2, a3, sumB_seal, zn]; rfl
  have hE : readE (sealZ (hz l)) = 0 := by
    unfold readE
    rw [hA, if_pos rfl, hh 4 (by omega), hh 5 (by omega), hh 6 (by omega), hh 7 (by omega), a4, a5, a6, a7, z16, hm, if_pos rfl, if_pos hn]
  refine ⟨hE, ?_⟩
  unfold readV
  rw [if_pos hE, hh 4 (by omega), hh 5 (by omega), hh 6 (by omega), hh 7 (by omega), a4, a5, a6, a7, z16]
theorem allB_congr {p q : Nat → Bool} {n : Nat} (h : ∀ k, k < n → p k = q k) : allB p n = allB q n := by
  induction n with
  | zero => rfl
  | succ n ih => show (allB p n && p n) = (allB q n && q n); rw [ih fun k hk => h k (by omega), h n (by omega)]
theorem mayD_congr {G S I J : Int} {n : Nat} {b i d b' i' d' : Nat → Int} (h : ∀ k, k < n → b k = b' k ∧ i k = i' k ∧ d k = d' k) : mayD G S I J n b i d = mayD G S I J n b' i' d' := by
  unfold mayD
  rw [allB_congr fun k hk => by rw [(h k hk).1, (h k hk).2.1, (h k hk).2.2]]
/-- descriptors' block is read as just those -/
theorem desc_back {G S I J : Int} {n : Nat} {b i d : Nat → Int} (h : descOk G S I J n b i d = true) :
    rdOk G S I J (descZ G S I J n b i d) = true ∧ G.toNat = n ∧ ∀ k, k < n → rB (descZ G S I J n b i d) k = b k ∧ rI (descZ G S I J n b i d) k = i k ∧ rD (descZ G S I J n b i d) k = d k := by
  obtain ⟨hm, hd'⟩ := descOk_iff.1 h
  obtain ⟨hn, hn4, hall⟩ := mayD_iff hm hd'
  have hv := dH_hvs hall
  rw [descZ_yes h]
  have hh : ∀ k, k < 126 → hd (sealZ (hz (dH b i d n))) k = dH b i d n k := fun k hk => hd_seal hv hk
  have hGn : G.toNat = n := by omega
  have hr : ∀ k, k < n → rB (sealZ (hz (dH b i d n))) k = b k ∧ rI (sealZ (hz (dH b i d n))) k = i k ∧ rD (sealZ (hz (dH b i d n))) k = d k := by
    intro k hk
    refine ⟨?_, ?_, ?_⟩
    · rw [rB, hh _ (by omega), dH_eq, if_pos (by omega), if_pos (by omega), show 4 * k / 4 = k by omega]
    · rw [rI, hh _ (by omega), dH_eq, if_pos (by omega), if_neg (by omega), if_pos (by omega), show (4 * k + 1) / 4 = k by omega]
    · rw [rD, hh _ (by omega), dH_eq, if_pos (by omega), if_neg (by omega), if_neg (by omega), if_pos (by omega), show (4 * k + 2) / 4 = k by omega]
  refine ⟨?_, hGn, hr⟩
  unfold rdOk rdIn
  rw [hm, hGn, sumB_seal]
  have zn : allZ (fun j => sealZ (hz (dH b i d n)) (8 * n + j)) (252 - 8 * n) = true := by
    have := allZ_hd (sealZ_byt (hz_byt (dH b i d n))) (4 * n) (126 - 4 * n)
    rw [show 2 * (4 * n) = 8 * n by omega, show 2 * (126 - 4 * n) = 252 - 8 * n by omega] at this
    rw [this, allZ_iff]
    intro j hj
    show hd (sealZ (hz (dH b i d n))) (4 * n + j) = 0
    rw [hh _ (by omega), dH_eq, if_neg (by omega)]
  have zb : allB (fun k => hd (sealZ (hz (dH b i d n))) (4 * k + 3) == 0) n = true := (allB_iff _ _).2 fun k hk => by
    show (hd (sealZ (hz (dH b i d n))) (4 * k + 3) == 0) = true
    rw [hh _ (by omega), dH_eq, if_pos (by omega), if_neg (by omega), if_neg (by omega), if_neg (by omega)]; rfl
  rw [zn, zb, mayD_congr hr, hd']
  rfl
theorem readE_sum {z : Nat → Int} (h : sumB z = false) : readE z = 60 := by
  have : readA z = false := by unfold readA; rw [h]; simp
  unfold readE; rw [this]; rfl
theorem rdOk_sum {G S I J : Int} {z : Nat → Int} (h : sumB z = false) : rdOk G S I J z = false := by
  unfold rdOk rdIn; rw [h]; simp
/-- a byte is put over with something -/
def xorAt (z : Nat → Int) (j : Nat) (v : Int) : Nat → Int := over z j 1 (fun _ => v)
theorem xor_byte {a b : Int} (ha : 0 ≤ a ∧ a < 256) (hb : 0 ≤ b ∧ b < 256) : ∃ v : Int, bits .xor .u8 a b = v ∧ 0 ≤ v ∧ v < 256 ∧ (v = a ↔ b = 0) := by
  refine ⟨((a.toNat ^^^ b.toNat : Nat) : Int), u8_xor a b ha.1 ha.2 hb.1 hb.2, by omega, ?_, ?_⟩
  · have := xor_lt 8 (a := a.toNat) (b := b.toNat) (by omega) (by omega)
    omega
  · constructor
    · intro h
      have h1 : a.toNat ^^^ b.toNat = a.toNat ^^^ 0 := by rw [Nat.xor_zero]; omega
      have := xor_cancel h1
      omega
    · rintro rfl
      show ((a.toNat ^^^ 0 : Nat) : Int) = a
      rw [Nat.xor_zero]; omega
theorem xorAt_byt {z : Nat → Int} (hz' : Byt z) (j : Nat) {v : Int} (hv : 0 ≤ v ∧ v < 256) : Byt (xorAt z j v) := byt_over hz' (fun _ => hv) _ _
theorem xorAt_same {z : Nat → Int} {j : Nat} {v : Int} (h : v = z j) : xorAt z j v = z := by
  funext i
  unfold xorAt over
  by_cases e : j ≤ i ∧ i < j + 1
  · rw [if_pos e, h, show i = j by omega]
  · rw [if_neg e]
theorem xorAt_sum {z : Nat → Int} (hz' : Byt z) (hs : sumB z = true) {j : Nat} (hj : j < 256) {v : Int} (hv : 0 ≤ v ∧ v < 256) (h : v ≠ z j) : sumB (xorAt z j v) = false := by
  refine sum_one hz' (xorAt_byt hz' j hv) hs hj ?_ fun i _ hij => ?_
  · unfold xorAt over; rw [if_pos (by omega)]; exact h
  · unfold xorAt over; rw [if_neg (by omega)]
theorem sup_sum {G S I J O : Int} (h : supOk G S I J O = true) : sumB (supZ G S I J O) = true := by rw [supZ_yes h]; exact sumB_seal _
theorem desc_sum {G S I J : Int} {n : Nat} {b i d : Nat → Int} (h : descOk G S I J n b i d = true) : sumB (descZ G S I J n b i d) = true := by rw [descZ_yes h]; exact sumB_seal _
end Go.Proofs.YtcannphglobngaaDoor
