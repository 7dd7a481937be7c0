/- Blocks as rows of 128 halves (16 bits each), the superblock's and the descriptors' blocks: plain words. No program in sight. -/
import Derived.Test.YtbbcckopkbiojaaDoorCrcP
import Derived.Test.YtbbcckopkbiojaaDoorWz
namespace Go.Proofs.YtbbcckopkbiojaaDoor
set_option linter.unusedVariables false

/-- the bytes of a row of halves -/
def hz (l : Nat → Int) (i : Nat) : Int := byteOf (l (i / 2)) (i % 2)
/-- the half at place k -/
def hd (z : Nat → Int) (k : Nat) : Int := g16 z (2 * k)
def Hvs (l : Nat → Int) : Prop := ∀ k, 0 ≤ l k ∧ l k < 65536
theorem hz_byt (l : Nat → Int) : Byt (hz l) := fun i => byteOf_bd _ _
theorem hd_hvs {z : Nat → Int} (h : Byt z) : Hvs (hd z) := fun k => g16_bd h _
theorem hz_hd {z : Nat → Int} (h : Byt z) (i : Nat) : hz (hd z) i = z i := by
  unfold hz hd
  rw [byteOf_g16 z h _ _ (Nat.mod_lt _ (by omega)), Nat.div_add_mod]
theorem g16_hz {l : Nat → Int} (k : Nat) (hl : 0 ≤ l k ∧ l k < 65536) : g16 (hz l) (2 * k) = l k := by
  unfold g16 hz
  rw [show 2 * k / 2 = k by omega, show (2 * k + 1) / 2 = k by omega, show 2 * k % 2 = 0 by omega, show (2 * k + 1) % 2 = 1 by omega]
  exact byteOf_sum2 _ hl.1 hl.2
theorem hd_hz {l : Nat → Int} (hl : Hvs l) (k : Nat) : hd (hz l) k = l k := g16_hz k (hl k)
theorem hz_put (l : Nat → Int) (k : Nat) (v : Int) (i : Nat) : over (hz l) (2 * k) 2 (byteOf v) i = hz (upd l k v) i := by
  unfold over hz upd
  by_cases h : 2 * k ≤ i ∧ i < 2 * k + 2
  · rw [if_pos h, if_pos (show i / 2 = k by omega)]; congr 1; omega
  · rw [if_neg h, if_neg (show ¬ i / 2 = k by omega)]
theorem byteOf_lo (v : Int) (i : Nat) (hi : i < 2) : byteOf (v % 65536) i = byteOf v i := by
  unfold byteOf
  have : i = 0 ∨ i = 1 := by omega
  rcases this with rfl | rfl
  · simp <;> omega
  · simp <;> omega
theorem byteOf_hi (v : Int) (i : Nat) : byteOf (v / 65536) i = byteOf v (i + 2) := by
  rw [show i + 2 = (i + 1) + 1 by omega, byteOf_succ, byteOf_succ]
  congr 1; omega
/-- a number of 32 bits at an even place -/
def upd2 (l : Nat → Int) (k : Nat) (v : Int) : Nat → Int := upd (upd l k (v % 65536)) (k + 1) (v / 65536)
theorem hz_put4 (l : Nat → Int) (k : Nat) (v : Int) (i : Nat) : over (hz l) (2 * k) 4 (byteOf v) i = hz (upd2 l k v) i := by
  unfold over hz upd2 upd
  by_cases h : 2 * k ≤ i ∧ i < 2 * k + 4
  · rw [if_pos h]
    by_cases h2 : i < 2 * k + 2
    · rw [if_neg (show ¬ i / 2 = k + 1 by omega), if_pos (show i / 2 = k by omega), byteOf_lo _ _ (Nat.mod_lt _ (by omega))]; congr 1; omega
    · rw [if_pos (show i / 2 = k + 1 by omega), byteOf_hi]; congr 1; omega
  · rw [if_neg h, if_neg (show ¬ i / 2 = k + 1 by omega), if_neg (show ¬ i / 2 = k by omega)]
theorem hz_congr {l m : Nat → Int} (n : Nat) (h : ∀ k, k < n → l k = m k) (i : Nat) (hi : i < 2 * n) : hz l i = hz m i := by
  unfold hz; rw [h (i / 2) (by omega)]
theorem hz_zero (i : Nat) : hz (fun _ => 0) i = 0 := byteOf_0 _
theorem g32_hz {l : Nat → Int} (hl : Hvs l) (k : Nat) : g32 (hz l) (2 * k) = l k + 65536 * l (k + 1) := by
  rw [g32_halves, g16_hz k (hl k), show 2 * k + 2 = 2 * (k + 1) by omega, g16_hz (k + 1) (hl _)]
theorem upd_hvs {l : Nat → Int} (hl : Hvs l) (k : Nat) {v : Int} (hv : 0 ≤ v ∧ v < 65536) : Hvs (upd l k v) := by
  intro j; unfold upd; split
  · exact hv
  · exact hl j
theorem upd2_hvs {l : Nat → Int} (hl : Hvs l) (k : Nat) {v : Int} (hv : 0 ≤ v ∧ v < 4294967296) : Hvs (upd2 l k v) := upd_hvs (upd_hvs hl _ (by omega)) _ (by omega)
theorem eqB_hz {l m : Nat → Int} (hl : Hvs l) (hm : Hvs m) (n : Nat) : eqB (hz l) (hz m) (2 * n) = eqB l m n := by
  rw [Bool.eq_iff_iff, eqB_iff, eqB_iff]
  constructor
  · intro h k hk
    have h0 := h (2 * k) (by omega)
    have h1 := h (2 * k + 1) (by omega)
    rw [← g16_hz k (hl k), ← g16_hz k (hm k)]
    unfold g16; rw [h0, h1]
  · intro h i hi
    exact hz_congr n h i hi
theorem allZ_hd {z : Nat → Int} (hzb : Byt z) (k n : Nat) : allZ (fun i => z (2 * k + i)) (2 * n) = allZ (fun j => hd z (k + j)) n := by
  rw [Bool.eq_iff_iff, allZ_iff, allZ_iff]
  constructor
  · intro h j hj
    have h0 := h (2 * j) (by omega)
    have h1 := h (2 * j + 1) (by omega)
    show g16 z (2 * (k + j)) = 0
    unfold g16
    rw [show 2 * (k + j) = 2 * k + 2 * j by omega, h0, Nat.add_assoc, h1]; rfl
  · intro h i hi
    have hj : g16 z (2 * (k + i / 2)) = 0 := h (i / 2) (by omega)
    have b0 := hzb (2 * (k + i / 2))
    have b1 := hzb (2 * (k + i / 2) + 1)
    unfold g16 at hj
    have : i = 2 * (i / 2) ∨ i = 2 * (i / 2) + 1 := by omega
    rcases this with e | e
    · rw [show 2 * k + i = 2 * (k + i / 2) by omega]; omega
    · rw [show 2 * k + i = 2 * (k + i / 2) + 1 by omega]; omega
/-- a block with its sum -/
def sealZ (z : Nat → Int) : Nat → Int := over z 252 4 (byteOf (crcZ z 252))
/-- the sum is right -/
def sumB (z : Nat → Int) : Bool := g32 z 252 == crcZ z 252
theorem sealZ_byt {z : Nat → Int} (h : Byt z) : Byt (sealZ z) := byt_over h (byt_byteOf _) _ _
theorem sealZ_low (z : Nat → Int) (i : Nat) (hi : i < 252) : sealZ z i = z i := over_out _ _ _ _ _ (.inl hi)
theorem sealZ_congr {z y : Nat → Int} (h : ∀ i, i < 252 → z i = y i) (i : Nat) (hi : i < 256) : sealZ z i = sealZ y i := by
  unfold sealZ over
  rw [crcZ_congr h]
  by_cases hc : 252 ≤ i ∧ i < 252 + 4
  · rw [if_pos hc, if_pos hc]
  · rw [if_neg hc, if_neg hc]; exact h i (by omega)
theorem crc_seal (z : Nat → Int) : crcZ (sealZ z) 252 = crcZ z 252 := crcZ_congr fun i hi => sealZ_low z i hi
theorem sumB_seal (z : Nat → Int) : sumB (sealZ z) = true := by
  unfold sumB
  rw [crc_seal]
  unfold sealZ
  rw [g32_over _ _ _ (crcZ_bd _ _).1 (crcZ_bd _ _).2]
  simp
/-- a block whose sum is right is one that was sealed -/
theorem seal_of_sum {z : Nat → Int} (hz' : Byt z) (h : sumB z = true) (i : Nat) (hi : i < 256) : sealZ z i = z i := by
  unfold sumB at h
  rw [beq_iff_eq] at h
  unfold sealZ over
  by_cases hc : 252 ≤ i ∧ i < 252 + 4
  · rw [if_pos hc, ← h, byteOf_g32 z hz' 252 (i - 252) (by omega), Nat.add_sub_cancel' hc.1]
  · rw [if_neg hc]
/-- one byte otherwise: the sum is wrong -/
theorem sum_one {z y : Nat → Int} (hz' : Byt z) (hy : Byt y) (hs : sumB z = true) {j : Nat} (hj : j < 256) (hne : y j ≠ z j) (heq : ∀ i, i < 256 → i ≠ j → y i = z i) : sumB y = false := by
  cases h : sumB y with
  | false => rfl
  | true =>
    exfalso
    have e1 := seal_of_sum hz' hs
    have e2 := seal_of_sum hy h
    by_cases hj2 : j < 252
    · have hc := crcZ_one hy hz' hj2 hne fun i hi hij => heq i (by omega) hij
      unfold sumB at hs h
      rw [beq_iff_eq] at hs h
      apply hc
      rw [← hs, ← h]
      unfold g32
      rw [heq 252 (by omega) (by omega), heq 253 (by omega) (by omega), heq 254 (by omega) (by omega), heq 255 (by omega) (by omega)]
    · have hc : crcZ y 252 = crcZ z 252 := crcZ_congr fun i hi => heq i (by omega) (by omega)
      apply hne
      rw [← e1 j hj, ← e2 j hj]
      unfold sealZ over
      rw [if_pos (by omega), if_pos (by omega), hc]
end Go.Proofs.YtbbcckopkbiojaaDoor
