/- The sum of bytes, by definition and by the table of four shifts at once; that it tells bytes apart. No program in sight. -/
import Derived.Test.YtbbcckopkbiojaaDoorMem
namespace Go.Proofs.YtbbcckopkbiojaaDoor
set_option linter.unusedVariables false

/-- a number, shifted by a bit -/
def shN (v : Nat) : Nat := if v % 2 = 1 then (v / 2) ^^^ 3988292384 else v / 2
def tabN : List Nat := [0, 498536548, 997073096, 651767980, 1994146192, 1802195444, 1303535960, 1342533948, 3988292384, 4027552580, 3604390888, 3412177804, 2607071920, 2262029012, 2685067896, 3183342108]
/-- four shifts by the table -/
def nibN (v : Nat) : Nat := (v / 16) ^^^ tabN.getD (v % 16) 0
def sh4 (v : Nat) : Nat := shN (shN (shN (shN v)))
def sh8 (v : Nat) : Nat := sh4 (sh4 v)
/-- a byte goes into the sum -/
def stepN (v x : Nat) : Nat := sh8 (v ^^^ x)
/-- n bytes -/
def foldN (v : Nat) (z : Nat → Int) : Nat → Nat
  | 0 => v
  | n + 1 => stepN (foldN v z n) (z n).toNat
/-- the sum of n bytes -/
def crcZ (z : Nat → Int) (n : Nat) : Int := ((4294967295 - foldN 4294967295 z n : Nat) : Int)
/-- m rows of bytes, one behind the other -/
def foldP (v : Nat) (pl : Nat → Nat) (pz : Nat → Nat → Int) : Nat → Nat
  | 0 => v
  | k + 1 => foldN (foldP v pl pz k) (pz k) (pl k)

theorem xor_half (a b : Nat) : (a ^^^ b) / 2 = (a / 2) ^^^ (b / 2) := Nat.xor_div_two
theorem xor_odd (a b : Nat) : (a ^^^ b) % 2 = (a % 2 + b % 2) % 2 := by
  have h := @Nat.xor_mod_two_eq_one a b
  have : a % 2 < 2 := Nat.mod_lt _ (by omega)
  have : b % 2 < 2 := Nat.mod_lt _ (by omega)
  have : (a ^^^ b) % 2 < 2 := Nat.mod_lt _ (by omega)
  by_cases ha : a % 2 = 1 <;> by_cases hb : b % 2 = 1
  · have : ¬ (a ^^^ b) % 2 = 1 := fun k => (h.1 k) (by simp [ha, hb])
    omega
  · have : (a ^^^ b) % 2 = 1 := h.2 (by simp [ha, hb])
    omega
  · have : (a ^^^ b) % 2 = 1 := h.2 (by simp [ha, hb])
    omega
  · have : ¬ (a ^^^ b) % 2 = 1 := fun k => (h.1 k) (by simp [ha, hb])
    omega
theorem shN_xor (a b : Nat) : shN (a ^^^ b) = shN a ^^^ shN b := by
  unfold shN
  rw [xor_odd, xor_half]
  have : a % 2 < 2 := Nat.mod_lt _ (by omega)
  have : b % 2 < 2 := Nat.mod_lt _ (by omega)
  by_cases ha : a % 2 = 1 <;> by_cases hb : b % 2 = 1
  · rw [if_neg (by omega), if_pos ha, if_pos hb, Nat.xor_assoc, Nat.xor_comm (b / 2), ← Nat.xor_assoc 3988292384, Nat.xor_self, Nat.zero_xor]
  · rw [if_pos (by omega), if_pos ha, if_neg hb, Nat.xor_assoc, Nat.xor_comm (b / 2), ← Nat.xor_assoc]
  · rw [if_pos (by omega), if_neg ha, if_pos hb, Nat.xor_assoc]
  · rw [if_neg (by omega), if_neg ha, if_neg hb]
theorem sh4_xor (a b : Nat) : sh4 (a ^^^ b) = sh4 a ^^^ sh4 b := by unfold sh4; rw [shN_xor, shN_xor, shN_xor, shN_xor]
theorem sh8_xor (a b : Nat) : sh8 (a ^^^ b) = sh8 a ^^^ sh8 b := by unfold sh8; rw [sh4_xor, sh4_xor]
theorem split16 (q r : Nat) (hr : r < 16) : 16 * q + r = (16 * q) ^^^ r := by
  refine Nat.eq_of_testBit_eq fun j => ?_
  have h1 := Nat.testBit_two_pow_mul_add q (b := r) (i := 4) hr j
  have h2 := Nat.testBit_two_pow_mul_add q (b := 0) (i := 4) (by omega) j
  rw [show (2 : Nat) ^ 4 = 16 from rfl] at h1 h2
  rw [Nat.add_zero] at h2
  rw [Nat.testBit_xor, h1, h2]
  by_cases hj : j < 4
  · rw [if_pos hj, if_pos hj, Nat.zero_testBit, Bool.false_xor]
  · rw [if_neg hj, if_neg hj, Nat.testBit_lt_two_pow (x := r) (i := j) (Nat.lt_of_lt_of_le hr (by rw [show (16 : Nat) = 2 ^ 4 from rfl]; exact Nat.pow_le_pow_right (by omega) (by omega))), Bool.xor_false]
theorem shN_even (q : Nat) : shN (2 * q) = q := by unfold shN; rw [if_neg (by omega)]; omega
theorem sh4_16 (q : Nat) : sh4 (16 * q) = q := by
  unfold sh4
  rw [show 16 * q = 2 * (2 * (2 * (2 * q))) by omega, shN_even, shN_even, shN_even, shN_even]
theorem sh4_tab : ∀ r, r < 16 → sh4 r = tabN.getD r 0 := by decide
theorem nib_sh4 (v : Nat) : nibN v = sh4 v := by
  have h := split16 (v / 16) (v % 16) (Nat.mod_lt _ (by omega))
  rw [Nat.div_add_mod] at h
  rw [h, sh4_xor, sh4_16, sh4_tab _ (Nat.mod_lt _ (by omega)), ← h]
  rfl
theorem xor_lt {a b : Nat} (n : Nat) (ha : a < 2 ^ n) (hb : b < 2 ^ n) : a ^^^ b < 2 ^ n := Nat.xor_lt_two_pow ha hb
theorem shN_lt {v : Nat} (h : v < 4294967296) : shN v < 4294967296 := by
  unfold shN
  split
  · exact xor_lt 32 (a := v / 2) (b := 3988292384) (by omega) (by decide)
  · omega
theorem sh4_lt {v : Nat} (h : v < 4294967296) : sh4 v < 4294967296 := shN_lt (shN_lt (shN_lt (shN_lt h)))
theorem sh8_lt {v : Nat} (h : v < 4294967296) : sh8 v < 4294967296 := sh4_lt (sh4_lt h)
theorem stepN_lt {v x : Nat} (h : v < 4294967296) (hx : x < 256) : stepN v x < 4294967296 := sh8_lt (xor_lt 32 h (by omega))
theorem foldN_lt {v : Nat} {z : Nat → Int} (hv : v < 4294967296) (hz : Byt z) (n : Nat) : foldN v z n < 4294967296 := by
  induction n with
  | zero => exact hv
  | succ n ih => exact stepN_lt ih (by have := hz n; omega)
theorem foldP_lt {v : Nat} {pl : Nat → Nat} {pz : Nat → Nat → Int} (hv : v < 4294967296) (hz : ∀ k, Byt (pz k)) (m : Nat) : foldP v pl pz m < 4294967296 := by
  induction m with
  | zero => exact hv
  | succ m ih => exact foldN_lt ih (hz m) _
theorem foldN_congr {v : Nat} {z y : Nat → Int} {n : Nat} (h : ∀ i, i < n → z i = y i) : foldN v z n = foldN v y n := by
  induction n with
  | zero => rfl
  | succ n ih => show stepN _ _ = stepN _ _; rw [ih fun i hi => h i (by omega), h n (by omega)]
theorem crcZ_bd (z : Nat → Int) (n : Nat) : 0 ≤ crcZ z n ∧ crcZ z n < 4294967296 := by unfold crcZ; omega
theorem crcZ_congr {z y : Nat → Int} {n : Nat} (h : ∀ i, i < n → z i = y i) : crcZ z n = crcZ y n := by unfold crcZ; rw [foldN_congr h]
theorem xor_cancel {a b c : Nat} (h : a ^^^ b = a ^^^ c) : b = c := by
  have : a ^^^ (a ^^^ b) = a ^^^ (a ^^^ c) := by rw [h]
  rwa [← Nat.xor_assoc, ← Nat.xor_assoc, Nat.xor_self, Nat.zero_xor, Nat.zero_xor] at this
theorem xor_zero {a b : Nat} (h : a ^^^ b = 0) : a = b := (xor_cancel (h.trans (Nat.xor_self a).symm)).symm
/-- shifting tells numbers apart -/
theorem shN_zero {u : Nat} (hu : u < 4294967296) (h : shN u = 0) : u = 0 := by
  unfold shN at h
  split at h
  · have : u / 2 = 3988292384 := xor_zero h
    omega
  · omega
theorem shN_inj {v w : Nat} (hv : v < 4294967296) (hw : w < 4294967296) (h : shN v = shN w) : v = w := by
  have : shN (v ^^^ w) = 0 := by rw [shN_xor, h, Nat.xor_self]
  exact xor_zero (shN_zero (xor_lt 32 hv hw) this)
theorem sh4_inj {v w : Nat} (hv : v < 4294967296) (hw : w < 4294967296) (h : sh4 v = sh4 w) : v = w := by
  unfold sh4 at h
  exact shN_inj hv hw (shN_inj (shN_lt hv) (shN_lt hw) (shN_inj (shN_lt (shN_lt hv)) (shN_lt (shN_lt hw)) (shN_inj (shN_lt (shN_lt (shN_lt hv))) (shN_lt (shN_lt (shN_lt hw))) h)))
theorem sh8_inj {v w : Nat} (hv : v < 4294967296) (hw : w < 4294967296) (h : sh8 v = sh8 w) : v = w := sh4_inj hv hw (sh4_inj (sh4_lt hv) (sh4_lt hw) h)
theorem stepN_byte {v x y : Nat} (hv : v < 4294967296) (hx : x < 256) (hy : y < 256) (h : stepN v x = stepN v y) : x = y :=
  xor_cancel (sh8_inj (xor_lt 32 hv (by omega)) (xor_lt 32 hv (by omega)) h)
theorem stepN_state {v u x : Nat} (hv : v < 4294967296) (hu : u < 4294967296) (hx : x < 256) (h : stepN v x = stepN u x) : v = u := by
  have h1 := sh8_inj (xor_lt 32 hv (by omega)) (xor_lt 32 hu (by omega)) h
  rw [Nat.xor_comm v, Nat.xor_comm u] at h1
  exact xor_cancel h1
theorem foldN_state {v u : Nat} {z : Nat → Int} (hv : v < 4294967296) (hu : u < 4294967296) (hz : Byt z) {n : Nat} (h : foldN v z n = foldN u z n) : v = u := by
  induction n with
  | zero => exact h
  | succ n ih => exact ih (stepN_state (foldN_lt hv hz n) (foldN_lt hu hz n) (by have := hz n; omega) h)
/-- one byte otherwise: another sum -/
theorem foldN_one {v : Nat} {z y : Nat → Int} (hv : v < 4294967296) (hz : Byt z) (hy : Byt y) {n j : Nat} (hj : j < n) (hne : z j ≠ y j) (heq : ∀ i, i < n → i ≠ j → z i = y i) : foldN v z n ≠ foldN v y n := by
  induction n with
  | zero => omega
  | succ n ih =>
    intro h
    have h : stepN (foldN v z n) (z n).toNat = stepN (foldN v y n) (y n).toNat := h
    have b1 := hz n
    have b2 := hy n
    by_cases e : j = n
    · subst e
      rw [foldN_congr (z := z) (y := y) fun i hi => heq i (by omega) (by omega)] at h
      have := stepN_byte (foldN_lt hv hy j) (by omega) (by omega) h
      exact hne (by omega)
    · rw [heq n (by omega) (by omega)] at h
      exact ih (by omega) (fun i hi hij => heq i (by omega) hij) (stepN_state (foldN_lt hv hz n) (foldN_lt hv hy n) (by omega) h)
theorem crcZ_one {z y : Nat → Int} (hz : Byt z) (hy : Byt y) {n j : Nat} (hj : j < n) (hne : z j ≠ y j) (heq : ∀ i, i < n → i ≠ j → z i = y i) : crcZ z n ≠ crcZ y n := by
  intro h
  have h1 := foldN_lt (v := 4294967295) (by omega) hz n
  have h2 := foldN_lt (v := 4294967295) (by omega) hy n
  unfold crcZ at h
  exact foldN_one (v := 4294967295) (by omega) hz hy hj hne heq (by omega)
/-- the sum of 252 noughts isn't nought -/
theorem crc_noughts : crcZ (fun _ => 0) 252 ≠ 0 := by
  have : foldN 4294967295 (fun _ => 0) 252 ≠ 4294967295 := by decide +kernel
  unfold crcZ
  have h2 := foldN_lt (v := 4294967295) (z := fun _ => 0) (by omega) (fun _ => ⟨Int.le_refl 0, (by decide : (0 : Int) < 256)⟩) 252
  omega
end Go.Proofs.YtbbcckopkbiojaaDoor
