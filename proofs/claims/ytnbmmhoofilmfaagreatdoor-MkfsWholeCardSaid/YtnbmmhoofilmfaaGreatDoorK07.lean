/- Texts of this claim, merged by a program (a claim may have 60 files): CrcP, Crc, Wz, U6p, Jb1. -/
import Derived.Test.YtnbmmhoofilmfaaGreatDoorK01
import Derived.Test.YtnbmmhoofilmfaaGreatDoorK02
import Derived.Test.YtnbmmhoofilmfaaGreatDoorK03
import Derived.Test.YtnbmmhoofilmfaaGreatDoorK06
/- The sum of bytes, by definition and by the table of four shifts at once; that it tells bytes apart. No program in sight. -/
namespace Go.Proofs.YtnbmmhoofilmfaaGreatDoor
set_option linter.unusedVariables false

/-- a number, shifted by a bit -/
def shN (v : Nat) : Nat := if v % 2 = 1 then (v / 2) ^^^ 3988292384 else v / 2
def tabN : List Nat := [0, 498536548, 997073096, 651767980, 1994146192, 1802195444, 1303535960, 1342533948, 3988292384, 4027552580, 3604390888, 3412177804, 2607071920, 2262029012, 2685067896, 3183342108]
/-- four shifts by the table -/
def nibN (v : Nat) : Nat := (v / 16) ^^^ tabN.getD (v % 16) 0
def sh4 (v : Nat) : Nat := shN (shN (shN (shN v)))
def sh8 (v : Nat) : Nat := sh4 (sh4 v)
/-- a byte goes into the sum -/
def stepN (v x : Nat) : Nat := sh8 (v ^^^ x)
/-- n bytes -/
def foldN (v : Nat) (z : Nat → Int) : Nat → Nat
  | 0 => v
  | n + 1 => stepN (foldN v z n) (z n).toNat
/-- the sum of n bytes -/
def crcZ (z : Nat → Int) (n : Nat) : Int := ((4294967295 - foldN 4294967295 z n : Nat) : Int)
/-- m rows of bytes, one behind the other -/
def foldP (v : Nat) (pl : Nat → Nat) (pz : Nat → Nat → Int) : Nat → Nat
  | 0 => v
  | k + 1 => foldN (foldP v pl pz k) (pz k) (pl k)

theorem xor_half (a b : Nat) : (a ^^^ b) / 2 = (a / 2) ^^^ (b / 2) := Nat.xor_div_two
theorem xor_odd (a b : Nat) : (a ^^^ b) % 2 = (a % 2 + b % 2) % 2 := by
  have h := @Nat.xor_mod_two_eq_one a b
  have : a % 2 < 2 := Nat.mod_lt _ (by omega)
  have : b % 2 < 2 := Nat.mod_lt _ (by omega)
  have : (a ^^^ b) % 2 < 2 := Nat.mod_lt _ (by omega)
  by_cases ha : a % 2 = 1 <;> by_cases hb : b % 2 = 1
  · have : ¬ (a ^^^ b) % 2 = 1 := fun k => (h.1 k) (by simp [ha, hb])
    omega
  · have : (a ^^^ b) % 2 = 1 := h.2 (by simp [ha, hb])
    omega
  · have : (a ^^^ b) % 2 = 1 := h.2 (by simp [ha, hb])
    omega
  · have : ¬ (a ^^^ b) % 2 = 1 := fun k => (h.1 k) (by simp [ha, hb])
    omega
theorem shN_xor (a b : Nat) : shN (a ^^^ b) = shN a ^^^ shN b := by
  unfold shN
  rw [xor_odd, xor_half]
  have : a % 2 < 2 := Nat.mod_lt _ (by omega)
  have : b % 2 < 2 := Nat.mod_lt _ (by omega)
  by_cases ha : a % 2 = 1 <;> by_cases hb : b % 2 = 1
  · rw [if_neg (by omega), if_pos ha, if_pos hb, Nat.xor_assoc, Nat.xor_comm (b / 2), ← Nat.xor_assoc 3988292384, Nat.xor_self, Nat.zero_xor]
  · rw [if_pos (by omega), if_pos ha, if_neg hb, Nat.xor_assoc, Nat.xor_comm (b / 2), ← Nat.xor_assoc]
  · rw [if_pos (by omega), if_neg ha, if_pos hb, Nat.xor_assoc]
  · rw [if_neg (by omega), if_neg ha, if_neg hb]
theorem sh4_xor (a b : Nat) : sh4 (a ^^^ b) = sh4 a ^^^ sh4 b := by unfold sh4; rw [shN_xor, shN_xor, shN_xor, shN_xor]
theorem split16 (q r : Nat) (hr : r < 16) : 16 * q + r = (16 * q) ^^^ r := by
  refine Nat.eq_of_testBit_eq fun j => ?_
  have h1 := Nat.testBit_two_pow_mul_add q (b := r) (i := 4) hr j
  have h2 := Nat.testBit_two_pow_mul_add q (b := 0) (i := 4) (by omega) j
  rw [show (2 : Nat) ^ 4 = 16 from rfl] at h1 h2
  rw [Nat.add_zero] at h2
  rw [Nat.testBit_xor, h1, h2]
  by_cases hj : j < 4
  · rw [if_pos hj, if_pos hj, Nat.zero_testBit, Bool.false_xor]
  · rw [if_neg hj, if_neg hj, Nat.testBit_lt_two_pow (x := r) (i := j) (Nat.lt_of_lt_of_le hr (by rw [show (16 : Nat) = 2 ^ 4 from rfl]; exact Nat.pow_le_pow_right (by omega) (by omega))), Bool.xor_false]
theorem shN_even (q : Nat) : shN (2 * q) = q := by unfold shN; rw [if_neg (by omega)]; omega
theorem sh4_16 (q : Nat) : sh4 (16 * q) = q := by
  unfold sh4
  rw [show 16 * q = 2 * (2 * (2 * (2 * q))) by omega, shN_even, shN_even, shN_even, shN_even]
theorem sh4_tab : ∀ r, r < 16 → sh4 r = tabN.getD r 0 := by decide
theorem nib_sh4 (v : Nat) : nibN v = sh4 v := by
  have h := split16 (v / 16) (v % 16) (Nat.mod_lt _ (by omega))
  rw [Nat.div_add_mod] at h
  rw [h, sh4_xor, sh4_16, sh4_tab _ (Nat.mod_lt _ (by omega)), ← h]
  rfl
theorem xor_lt {a b : Nat} (n : Nat) (ha : a < 2 ^ n) (hb : b < 2 ^ n) : a ^^^ b < 2 ^ n := Nat.xor_lt_two_pow ha hb
theorem shN_lt {v : Nat} (h : v < 4294967296) : shN v < 4294967296 := by
  unfold shN
  split
  · exact xor_lt 32 (a := v / 2) (b := 3988292384) (by omega) (by decide)
  · omega
theorem sh4_lt {v : Nat} (h : v < 4294967296) : sh4 v < 4294967296 := shN_lt (shN_lt (shN_lt (shN_lt h)))
theorem sh8_lt {v : Nat} (h : v < 4294967296) : sh8 v < 4294967296 := sh4_lt (sh4_lt h)
theorem stepN_lt {v x : Nat} (h : v < 4294967296) (hx : x < 256) : stepN v x < 4294967296 := sh8_lt (xor_lt 32 h (by omega))
theorem foldN_lt {v : Nat} {z : Nat → Int} (hv : v < 4294967296) (hz : Byt z) (n : Nat) : foldN v z n < 4294967296 := by
  induction n with
  | zero => exact hv
  | succ n ih => exact stepN_lt ih (by have := hz n; omega)
theorem foldP_lt {v : Nat} {pl : Nat → Nat} {pz : Nat → Nat → Int} (hv : v < 4294967296) (hz : ∀ k, Byt (pz k)) (m : Nat) : foldP v pl pz m < 4294967296 := by
  induction m with
  | zero => exact hv
  | succ m ih => exact foldN_lt ih (hz m) _
theorem foldN_congr {v : Nat} {z y : Nat → Int} {n : Nat} (h : ∀ i, i < n → z i = y i) : foldN v z n = foldN v y n := by
  induction n with
  | zero => rfl
  | succ n ih => show stepN _ _ = stepN _ _; rw [ih fun i hi => h i (by omega), h n (by omega)]
theorem crcZ_bd (z : Nat → Int) (n : Nat) : 0 ≤ crcZ z n ∧ crcZ z n < 4294967296 := by unfold crcZ; omega
theorem crcZ_congr {z y : Nat → Int} {n : Nat} (h : ∀ i, i < n → z i = y i) : crcZ z n = crcZ y n := by unfold crcZ; rw [foldN_congr h]
end Go.Proofs.YtnbmmhoofilmfaaGreatDoor

/- Contracts of crc.Sum and of quernref02.Sum. -/
namespace Go.Proofs.YtnbmmhoofilmfaaGreatDoor
open Go.RowKit
set_option linter.unusedVariables false

/-- the table of four shifts lies in its variable -/
def Tab (w : World) : Prop := ∀ i, i < 16 → w.cell? ⟨0, i, none⟩ = some (.int .u32 ((tabN.getD i 0 : Nat) : Int))
theorem Tab.lt {w : World} (h : Tab w) : 0 < w.heap.size := World.block_lt_of_cell? w _ (h 0 (by omega))
theorem Tab.below {w w' : World} (h : Tab w) {B : Nat} (hb : Below B w w') (hB : w.heap.size ≤ B) : Tab w' := fun i hi => (hb.cell (p := ⟨0, i, none⟩) (by have := h.lt; show 0 < B; omega)).trans (h i hi)
theorem Tab.alloc {w : World} (h : Tab w) (o : Obj) : Tab (w.alloc o) := h.below ((Below.refl _ _).alloc (Nat.le_refl _) o) (Nat.le_refl _)
theorem Tab.only {w w' : World} (h : Tab w) {b : Nat} (hb : Only b w w') (hg : b ≠ 0) : Tab w' := fun i hi => (hb.cell (p := ⟨0, i, none⟩) (fun e => hg e.symm)).trans (h i hi)

theorem xor_max {v : Nat} (hv : v < 4294967296) : bits .xor .u32 4294967295 (v : Int) = ((4294967295 - v : Nat) : Int) := by
  have h := u32_xor_nat 4294967295 v (by omega) hv
  rw [show ((4294967295 : Nat) : Int) = 4294967295 from rfl] at h
  rw [h]
  congr 1
  refine Nat.eq_of_testBit_eq fun j => ?_
  have h1 := Nat.testBit_two_pow_sub_succ (x := v) (n := 32) hv j
  have h2 := Nat.testBit_two_pow_sub_succ (x := 0) (n := 32) (by omega) j
  rw [show (2 : Nat) ^ 32 - (v + 1) = 4294967295 - v by omega] at h1
  rw [show (2 : Nat) ^ 32 - (0 + 1) = 4294967295 by omega] at h2
  rw [Nat.testBit_xor, h1, h2, Nat.zero_testBit]
  by_cases hj : j < 32
  · simp [hj]
  · rw [Nat.testBit_lt_two_pow (x := v) (i := j) (Nat.lt_of_lt_of_le hv (by rw [show (4294967296 : Nat) = 2 ^ 32 from rfl]; exact Nat.pow_le_pow_right (by omega) (by omega)))]
    simp [hj]
theorem nib_facts (v : Nat) (hv : v < 4294967296) {w : World} (hT : Tab w) : ∃ q r t u : Nat, r < 16 ∧ u < 4294967296 ∧ bits .and .u32 (v : Int) 15 = (r : Int) ∧ (v : Int) / 16 = (q : Int) ∧ bits .xor .u32 (q : Int) (t : Int) = (u : Int) ∧
    w.cell? ⟨0, r, none⟩ = some (.int .u32 (t : Int)) ∧ Hid (nibN v = u) := by
  have ht : tabN.getD (v % 16) 0 < 4294967296 := by
    have : ∀ r, r < 16 → tabN.getD r 0 < 4294967296 := by decide
    exact this _ (Nat.mod_lt _ (by omega))
  refine ⟨v / 16, v % 16, tabN.getD (v % 16) 0, nibN v, Nat.mod_lt _ (by omega), xor_lt 32 (by omega) ht, ?_, by omega, ?_, hT _ (Nat.mod_lt _ (by omega)), rfl⟩
  · have := u32_and_nat v 15 (by omega) (by omega)
    rw [show ((15 : Nat) : Int) = 15 from rfl] at this
    rw [this, show (15 : Nat) = 2 ^ 4 - 1 from rfl, Nat.and_two_pow_sub_one_eq_mod]
  · exact u32_xor_nat _ _ (by omega) ht
/-- m rows of bytes stand in a row of slices -/
structure Pieces (w : World) (a : Option Addr) (m : Nat) (pl : Nat → Nat) (pz : Nat → Nat → Int) : Prop where
  at' : ∀ k, k < m → ∃ b off, a = some ⟨b, off, none⟩ ∧ ∃ s cap, w.cell? ⟨b, off + k, none⟩ = some (.slice s (pl k) cap) ∧ Row w s (pl k) (pz k) ∧ (pl k : Int) ≤ 9223372036854775807

set_option maxRecDepth 100000 in
set_option maxHeartbeats 2000000 in
theorem crcSum_any (a : Option Addr) (m cap : Nat) (pl : Nat → Nat) (pz : Nat → Nat → Int) (w : World) (hl : (m : Int) ≤ 9223372036854775807) (hp : Pieces w a m pl pz) (hz : ∀ k, Byt (pz k)) (hT : Tab w) :
    Calls Tryz.prog 170 #[.slice a m cap] w fun e w' => e = .returned (.int .u32 ((4294967295 - foldP 4294967295 pl pz m : Nat) : Int)) ∧ w = w' := by
  have HT := Lib.hid hT
  have HP := Lib.hid hp
  clear hT hp
  go_enter Tryz.func170, Tryz.ntmps170
  go_wp2
  go_loop [3, 10] (fun v k => ∃ j : Nat, j ≤ m ∧ k = .int .i64 j ∧ v = .int .u32 ((foldP 4294967295 pl pz j : Nat) : Int)) (fun _ k => m - (intOf k).toNat)
  case atStart => exact ⟨0, by omega, rfl, rfl⟩
  case round =>
    obtain ⟨j, hj, rfl, rfl⟩ := hrel
    by_cases hlt : j < m
    · obtain ⟨b, off, rfl, s, cap', hc, hr, hlen⟩ := HP.out.at' j hlt
      have HR := Lib.hid hr
      have HV : Hid (foldP 4294967295 pl pz j < 4294967296) := foldP_lt (by omega) hz j
      have HS : Hid (foldN (foldP 4294967295 pl pz j) (pz j) 0 = foldP 4294967295 pl pz j ∧ foldP 4294967295 pl pz (j + 1) = foldN (foldP 4294967295 pl pz j) (pz j) (pl j)) := ⟨rfl, rfl⟩
      have hzj := hz j
      generalize foldP 4294967295 pl pz j = V at *
      clear hr
      go_wp2
      go_loop [3, 16] (fun v k => ∃ i : Nat, i ≤ pl j ∧ k = .int .i64 i ∧ v = .int .u32 ((foldN V (pz j) i : Nat) : Int)) (fun _ k => pl j - (intOf k).toNat)
      case atStart => exact ⟨0, by omega, rfl, rfl⟩
      case round =>
        obtain ⟨i, hi, rfl, rfl⟩ := hrel
        by_cases hlt2 : i < pl j
        · rcases HR.out with h0 | ⟨b', off', rfl, hseg⟩
          · omega
          have hc' := hseg i hlt2
          have hb := hzj i
          have HF : Hid (foldN V (pz j) i < 4294967296) := foldN_lt HV.out hzj i
          have HE : Hid (foldN V (pz j) (i + 1) = nibN (nibN (foldN V (pz j) i ^^^ (pz j i).toNat))) := by
            show stepN _ _ = _
            rw [nib_sh4, nib_sh4]; rfl
          generalize foldN V (pz j) i = v at *
          obtain ⟨v1, ev1⟩ : ∃ v1, v ^^^ (pz j i).toNat = v1 := ⟨_, rfl⟩
          have hv1 : v1 < 4294967296 := by rw [← ev1]; exact xor_lt 32 HF.out (by omega)
          have e1 : bits .xor .u32 (v : Int) (pz j i) = (v1 : Int) := by rw [u32_xor _ _ (by omega) (by have := HF.out; omega) hb.1 (by omega), Int.toNat_natCast, ev1]
          obtain ⟨q1, r1, t1, v2, hr1, hv2, e2, e3, e4, hct1, HN1⟩ := nib_facts v1 hv1 HT.out
          obtain ⟨q2, r2, t2, v3, hr2, hv3, e5, e6, e7, hct2, HN2⟩ := nib_facts v2 hv2 HT.out
          have HE2 : Hid (foldN V (pz j) (i + 1) = v3) := by show _ = _; rw [HE.out, ev1, HN1.out, HN2.out]
          clear HE HN1 HN2 ev1
          go_wp2
          go_round
          case rel => exact ⟨i + 1, by omega, by go_num, by rw [HE2.out]⟩
          case measure => simp [intOf]; omega
        · obtain rfl : i = pl j := by omega
          go_wp2
          go_round
          case rel => exact ⟨j + 1, by omega, by go_num, by rw [HS.out.2]⟩
          case measure => simp [intOf]; omega
    · obtain rfl : j = m := by omega
      have HN : Hid (bits .xor .u32 4294967295 ((foldP 4294967295 pl pz j : Nat) : Int) = ((4294967295 - foldP 4294967295 pl pz j : Nat) : Int)) := xor_max (foldP_lt (by omega) hz j)
      go_wp2
      go_ret
      exact ⟨by rw [show IntKind.u32.max = 4294967295 from by decide, HN.out]; rfl, rfl⟩

end Go.Proofs.YtnbmmhoofilmfaaGreatDoor

/- Blocks as words of four bytes, plainly. -/
namespace Go.Proofs.YtnbmmhoofilmfaaGreatDoor
open Go.RowKit
set_option linter.unusedVariables false
/-- the bytes of words -/
def wz (l : Nat → Int) (i : Nat) : Int := byteOf (l (i / 4)) (i % 4)
/-- the words of bytes -/
def wd (z : Nat → Int) (k : Nat) : Int := g32 z (4 * k)
/-- all are words -/
def Wds (l : Nat → Int) : Prop := ∀ k, 0 ≤ l k ∧ l k < 4294967296
theorem wz_byt (l : Nat → Int) : Byt (wz l) := fun i => byteOf_bd _ _
theorem wd_wds {z : Nat → Int} (hz : Byt z) : Wds (wd z) := fun k => g32_bd hz _
theorem wz_wd {z : Nat → Int} (hz : Byt z) (i : Nat) : wz (wd z) i = z i := by
  unfold wz wd
  rw [byteOf_g32 z hz _ _ (by omega)]
  congr 1; omega
theorem g32_wz {l : Nat → Int} (k : Nat) (hl : 0 ≤ l k ∧ l k < 4294967296) : g32 (wz l) (4 * k) = l k := by
  unfold g32 wz
  rw [show 4 * k / 4 = k by omega, show (4 * k + 1) / 4 = k by omega, show (4 * k + 2) / 4 = k by omega, show (4 * k + 3) / 4 = k by omega, show 4 * k % 4 = 0 by omega, show (4 * k + 1) % 4 = 1 by omega, show (4 * k + 2) % 4 = 2 by omega, show (4 * k + 3) % 4 = 3 by omega]
  exact byteOf_sum4 _ hl.1 hl.2
theorem wd_wz {l : Nat → Int} (hl : Wds l) (k : Nat) : wd (wz l) k = l k := g32_wz k (hl k)
theorem byteOf_0 (j : Nat) : byteOf 0 j = 0 := by unfold byteOf; simp
/-- a word written -/
def upd (l : Nat → Int) (k : Nat) (v : Int) : Nat → Int := fun j => if j = k then v else l j
theorem wz_put (l : Nat → Int) (k : Nat) (v : Int) (i : Nat) : over (wz l) (4 * k) 4 (byteOf v) i = wz (upd l k v) i := by
  unfold wz upd
  by_cases h : 4 * k ≤ i ∧ i < 4 * k + 4
  · rw [over_in _ _ _ _ _ h, if_pos (by omega)]; congr 1; omega
  · rw [over_out _ _ _ _ _ (by omega), if_neg (by omega)]
theorem wz_congr {l m : Nat → Int} (n : Nat) (h : ∀ k, k < n → l k = m k) (i : Nat) (hi : i < 4 * n) : wz l i = wz m i := by
  unfold wz; rw [h _ (by omega)]
theorem wz_zero (i : Nat) : wz (fun _ => 0) i = 0 := byteOf_0 _
theorem allZ_wd {z : Nat → Int} (hz : Byt z) (k n : Nat) : allZ (fun i => z (4 * k + i)) (4 * n) = allZ (fun j => wd z (k + j)) n := by
  rw [Bool.eq_iff_iff, allZ_iff, allZ_iff]
  constructor
  · intro h j hj
    have h0 := h (4 * j) (by omega); have h1 := h (4 * j + 1) (by omega); have h2 := h (4 * j + 2) (by omega); have h3 := h (4 * j + 3) (by omega)
    unfold wd g32
    rw [show 4 * (k + j) = 4 * k + 4 * j by omega]
    simp only [Nat.add_assoc] at *
    omega
  · intro h i hi
    have := h (i / 4) (by omega)
    have e := wz_wd hz (4 * k + i)
    unfold wz at e
    rw [← e, show (4 * k + i) / 4 = k + i / 4 by omega, this]
    exact byteOf_0 _
/-- keys rise -/
def riseB (key : Nat → Int) : Nat → Bool
  | 0 => true
  | i + 1 => riseB key i && (i == 0 || decide (key (i - 1) < key i))
/-- a journal block's words: its kind, its number, the number behind, the rows -/
def jw (kind seq first : Int) (r : Nat → Int) (k : Nat) : Int := if k = 0 then 1280199249 else if k = 1 then kind else if k = 2 then seq else if k = 3 then first else r (k - 4)
theorem jw_wds {kind seq first : Int} {r : Nat → Int} (h1 : 0 ≤ kind ∧ kind < 4294967296) (h2 : 0 ≤ seq ∧ seq < 4294967296) (h3 : 0 ≤ first ∧ first < 4294967296) (hr : Wds r) : Wds (jw kind seq first r) := by
  intro k; unfold jw
  split
  · omega
  · split
    · exact h1
    · split
      · exact h2
      · split
        · exact h3
        · exact hr _
def seqB (s : Int) : Bool := decide (1 ≤ s ∧ s ≤ 2147483648)
/-- a block of noughts -/
def nz : Nat → Int := fun _ => 0
end Go.Proofs.YtnbmmhoofilmfaaGreatDoor

/- Blocks as rows of 128 halves (16 bits each), the superblock's and the descriptors' blocks: plain words. No program in sight. -/
namespace Go.Proofs.YtnbmmhoofilmfaaGreatDoor
set_option linter.unusedVariables false

/-- the bytes of a row of halves -/
def hz (l : Nat → Int) (i : Nat) : Int := byteOf (l (i / 2)) (i % 2)
/-- the half at place k -/
def hd (z : Nat → Int) (k : Nat) : Int := g16 z (2 * k)
def Hvs (l : Nat → Int) : Prop := ∀ k, 0 ≤ l k ∧ l k < 65536
theorem hz_byt (l : Nat → Int) : Byt (hz l) := fun i => byteOf_bd _ _
theorem hz_hd {z : Nat → Int} (h : Byt z) (i : Nat) : hz (hd z) i = z i := by
  unfold hz hd
  rw [byteOf_g16 z h _ _ (Nat.mod_lt _ (by omega)), Nat.div_add_mod]
theorem g16_hz {l : Nat → Int} (k : Nat) (hl : 0 ≤ l k ∧ l k < 65536) : g16 (hz l) (2 * k) = l k := by
  unfold g16 hz
  rw [show 2 * k / 2 = k by omega, show (2 * k + 1) / 2 = k by omega, show 2 * k % 2 = 0 by omega, show (2 * k + 1) % 2 = 1 by omega]
  exact byteOf_sum2 _ hl.1 hl.2
theorem hz_put (l : Nat → Int) (k : Nat) (v : Int) (i : Nat) : over (hz l) (2 * k) 2 (byteOf v) i = hz (upd l k v) i := by
  unfold over hz upd
  by_cases h : 2 * k ≤ i ∧ i < 2 * k + 2
  · rw [if_pos h, if_pos (show i / 2 = k by omega)]; congr 1; omega
  · rw [if_neg h, if_neg (show ¬ i / 2 = k by omega)]
theorem byteOf_lo (v : Int) (i : Nat) (hi : i < 2) : byteOf (v % 65536) i = byteOf v i := by
  unfold byteOf
  have : i = 0 ∨ i = 1 := by omega
  rcases this with rfl | rfl
  · simp <;> omega
  · simp <;> omega
theorem byteOf_hi (v : Int) (i : Nat) : byteOf (v / 65536) i = byteOf v (i + 2) := by
  rw [show i + 2 = (i + 1) + 1 by omega, byteOf_succ, byteOf_succ]
  congr 1; omega
/-- a number of 32 bits at an even place -/
def upd2 (l : Nat → Int) (k : Nat) (v : Int) : Nat → Int := upd (upd l k (v % 65536)) (k + 1) (v / 65536)
theorem hz_put4 (l : Nat → Int) (k : Nat) (v : Int) (i : Nat) : over (hz l) (2 * k) 4 (byteOf v) i = hz (upd2 l k v) i := by
  unfold over hz upd2 upd
  by_cases h : 2 * k ≤ i ∧ i < 2 * k + 4
  · rw [if_pos h]
    by_cases h2 : i < 2 * k + 2
    · rw [if_neg (show ¬ i / 2 = k + 1 by omega), if_pos (show i / 2 = k by omega), byteOf_lo _ _ (Nat.mod_lt _ (by omega))]; congr 1; omega
    · rw [if_pos (show i / 2 = k + 1 by omega), byteOf_hi]; congr 1; omega
  · rw [if_neg h, if_neg (show ¬ i / 2 = k + 1 by omega), if_neg (show ¬ i / 2 = k by omega)]
theorem hz_zero (i : Nat) : hz (fun _ => 0) i = 0 := byteOf_0 _
theorem g32_hz {l : Nat → Int} (hl : Hvs l) (k : Nat) : g32 (hz l) (2 * k) = l k + 65536 * l (k + 1) := by
  rw [g32_halves, g16_hz k (hl k), show 2 * k + 2 = 2 * (k + 1) by omega, g16_hz (k + 1) (hl _)]
theorem upd_hvs {l : Nat → Int} (hl : Hvs l) (k : Nat) {v : Int} (hv : 0 ≤ v ∧ v < 65536) : Hvs (upd l k v) := by
  intro j; unfold upd; split
  · exact hv
  · exact hl j
theorem upd2_hvs {l : Nat → Int} (hl : Hvs l) (k : Nat) {v : Int} (hv : 0 ≤ v ∧ v < 4294967296) : Hvs (upd2 l k v) := upd_hvs (upd_hvs hl _ (by omega)) _ (by omega)
theorem allZ_hd {z : Nat → Int} (hzb : Byt z) (k n : Nat) : allZ (fun i => z (2 * k + i)) (2 * n) = allZ (fun j => hd z (k + j)) n := by
  rw [Bool.eq_iff_iff, allZ_iff, allZ_iff]
  constructor
  · intro h j hj
    have h0 := h (2 * j) (by omega)
    have h1 := h (2 * j + 1) (by omega)
    show g16 z (2 * (k + j)) = 0
    unfold g16
    rw [show 2 * (k + j) = 2 * k + 2 * j by omega, h0, Nat.add_assoc, h1]; rfl
  · intro h i hi
    have hj : g16 z (2 * (k + i / 2)) = 0 := h (i / 2) (by omega)
    have b0 := hzb (2 * (k + i / 2))
    have b1 := hzb (2 * (k + i / 2) + 1)
    unfold g16 at hj
    have : i = 2 * (i / 2) ∨ i = 2 * (i / 2) + 1 := by omega
    rcases this with e | e
    · rw [show 2 * k + i = 2 * (k + i / 2) by omega]; omega
    · rw [show 2 * k + i = 2 * (k + i / 2) + 1 by omega]; omega
/-- a block with its sum -/
def sealZ (z : Nat → Int) : Nat → Int := over z 252 4 (byteOf (crcZ z 252))
/-- the sum is right -/
def sumB (z : Nat → Int) : Bool := g32 z 252 == crcZ z 252
theorem sealZ_byt {z : Nat → Int} (h : Byt z) : Byt (sealZ z) := byt_over h (byt_byteOf _) _ _
theorem sealZ_low (z : Nat → Int) (i : Nat) (hi : i < 252) : sealZ z i = z i := over_out _ _ _ _ _ (.inl hi)
theorem crc_seal (z : Nat → Int) : crcZ (sealZ z) 252 = crcZ z 252 := crcZ_congr fun i hi => sealZ_low z i hi
theorem sumB_seal (z : Nat → Int) : sumB (sealZ z) = true := by
  unfold sumB
  rw [crc_seal]
  unfold sealZ
  rw [g32_over _ _ _ (crcZ_bd _ _).1 (crcZ_bd _ _).2]
  simp
end Go.Proofs.YtnbmmhoofilmfaaGreatDoor

/- Contracts of jblock's small functions. -/
namespace Go.Proofs.YtnbmmhoofilmfaaGreatDoor
open Go.RowKit
set_option linter.unusedVariables false

theorem results_row {P : Program} {fn : Func} {p : Tmp} {ty : TypeId} (h : fn.results = #[.cell p ty]) (tmps : Array Value) (w : World) (g : Nat) (t : TypeId) (cs : Array Value) (fr : Nat × Nat) (d : TypeDesc)
    (hp : tmps.getD p undef = .pointer (some ⟨g, 0, none⟩)) (hg : w.heap[g]? = some (.cells cs t fr))
    (hu : P.underlying ty = some d) (hd : (match d with | .struct _ | .array _ _ => true | _ => false) = true) (hi : (P.info? ty).map (·.size) = some cs.size) :
    (results fn tmps).run P w = .ok (.agg cs) w := by
  have hp' : tmps[p]?.getD undef = .pointer (some ⟨g, 0, none⟩) := by simpa using hp
  simp [results, h, hp', asAddr, run_loadVar_row w g t ty cs fr d hg hu hd hi]
theorem results_blk {fn : Func} {p : Tmp} (h : fn.results = #[.cell p 32]) (tmps : Array Value) (w : World) (g : Nat) (z : Nat → Int)
    (hp : tmps.getD p undef = .pointer (some ⟨g, 0, none⟩)) (hg : Blk w g 32 256 z) : (results fn tmps).run Tryz.prog w = .ok (bval z) w :=
  results_row h tmps w g 32 (Ks .u8 256 z).toArray (0, 0) _ hp hg Tryz.underlying32 rfl (info_block' _)
theorem results_blk2 {fn : Func} {p u : Tmp} (h : fn.results = #[.cell p 32, .tmp u]) (tmps : Array Value) (w : World) (g : Nat) (z : Nat → Int)
    (hp : tmps.getD p undef = .pointer (some ⟨g, 0, none⟩)) (hg : Blk w g 32 256 z) : (results fn tmps).run Tryz.prog w = .ok (.tuple #[bval z, tmps.getD u undef]) w :=
  results_row_tmp h tmps w g 32 (Ks .u8 256 z).toArray (0, 0) _ hp hg Tryz.underlying32 rfl (info_block' _)
/-- b[lo:] of a block -/
theorem run_sliceBlkFrom (g lo : Nat) (L : Int) (hL : L = (lo : Int)) (h3 : lo < 256) (W : World) :
    (Instr.sliceAt 32 (.pointer (some ⟨g, 0, none⟩)) (some (.int .i64 L)) none none).run Tryz.prog W = .ok (.slice (some ⟨g, lo, none⟩) (256 - lo) (256 - lo)) W := by
  subst hL
  have hal : Tryz.prog.arrayLen 32 = 256 := by kernel_rfl
  have hsz : ∀ W, (Go.sizeOf (Tryz.prog.elem 32)).run Tryz.prog W = .ok 1 W := fun W => by kernel_rfl
  rw [run_sliceAt_array_l W 32 _ (by kernel_rfl) .i64 (lo : Int) (by omega) (by rw [hal]; omega), hsz, hal]
  simp only [Result.andThen, slicedAt, Int.toNat_natCast, Nat.mul_one]
  rw [if_neg (by omega), addr_add, Nat.zero_add]
theorem maySeq_any (s : Int) (w : World) : Calls Tryz.prog 122 #[.int .u32 s] w fun e w' => e = .returned (.bool (seqB s)) ∧ w = w' := by
  by_cases h1 : 1 ≤ s
  · by_cases h2 : s ≤ 2147483648
    · have hd : Hid (seqB s = true) := by show _ = _; simp [seqB, h1, h2]
      go_enter Tryz.func122, Tryz.ntmps122
      go_wp2
      go_ret
      exact ⟨ret_bool hd.out.symm, rfl⟩
    · have hd : Hid (seqB s = false) := by show _ = _; simp [seqB, h1, h2]
      go_enter Tryz.func122, Tryz.ntmps122
      go_wp2
      go_ret
      exact ⟨ret_bool hd.out.symm, rfl⟩
  · have hd : Hid (seqB s = false) := by show _ = _; simp [seqB, h1]
    go_enter Tryz.func122, Tryz.ntmps122
    go_wp2
    go_ret
    exact ⟨ret_bool hd.out.symm, rfl⟩
theorem number_any (g : Nat) (z : Nat → Int) (hz : Byt z) (k : Nat) (K : Int) (hK : K = (k : Int)) (hk : k + 4 ≤ 256) {T : TypeId} (w : World) (hB : Blk w g T 256 z) :
    Calls Tryz.prog 128 #[.pointer (some ⟨g, 0, none⟩), .int .i64 K] w fun e w' => e = .returned (.int .u32 (g32 z k)) ∧ w = w' := by
  subst hK
  have hsa := fun W => run_sliceBlkAll g 0 W
  have hgt := get32_yes g 0 256 256 (k : Int) z w (by omega) (by omega) (by omega) hB.seg hz
  rw [Int.toNat_natCast] at hgt
  have HG := Lib.hid hgt
  clear hgt
  go_enter Tryz.func128, Tryz.ntmps128
  go_wp2_with fail
  refine HG.out.mono ?_
  rintro e w1 ⟨rfl, rfl⟩
  go_wp2_with fail
  go_ret
  exact ⟨rfl, rfl⟩

/-- a word put into a block of words -/
theorem putW (g : Nat) {T : TypeId} (l : Nat → Int) (k : Nat) (K v : Int) (hK : K = 4 * (k : Int)) (hk : k < 64) (hv : 0 ≤ v) (w : World) (hB : Blk w g T 256 (wz l)) :
    Calls Tryz.prog 126 #[.slice (some ⟨g, 0, none⟩) 256 256, .int .i64 K, .int .u32 v] w fun e w' => e = .returned (.bool true) ∧ Blk w' g T 256 (wz (upd l k v)) ∧ Only g w w' := by
  refine (put32_yes g 0 256 256 K v (wz l) w (by omega) (by omega) (by omega) hv hB.seg (hB.soft 0 256)).mono fun e w' ⟨he, hp⟩ => ⟨he, ?_, hp.only⟩
  rw [show 0 + K.toNat = 4 * k by omega] at hp
  exact (hB.puts hp).congr fun i _ => wz_put l k v i
theorem jw_upd (k s f : Int) (j : Nat) : upd (upd (upd (upd (fun _ => 0) 0 1280199249) 1 k) 2 s) 3 f j = jw k s f nz j := by
  unfold upd jw nz
  by_cases h0 : j = 0
  · simp [h0]
  by_cases h1 : j = 1
  · simp [h1]
  by_cases h2 : j = 2
  · simp [h2]
  by_cases h3 : j = 3
  · simp [h3]
  simp [h0, h1, h2, h3]

set_option maxRecDepth 100000 in
set_option maxHeartbeats 1000000 in
theorem begin_any (k s f : Int) (w : World) (hk : 0 ≤ k ∧ k < 256) (hs : 0 ≤ s) (hf : 0 ≤ f) :
    Calls Tryz.prog 123 #[.int .u8 k, .int .u32 s, .int .u32 f] w fun e w' => e = .returned (bval (wz (jw k s f nz))) ∧ Below w.heap.size w w' := by
  obtain ⟨hk0, hk1⟩ := hk
  have hal := zero_block
  have hsa := fun W => run_sliceBlkAll (w.heap.size + 1) 0 W
  have hR : Hid (Blk ((w.alloc (.cells (Ks .u8 256 (fun _ => 0)).toArray 32)).alloc (.cells (Ks .u8 256 (fun _ => 0)).toArray 32)) w.heap.size 32 256 (fun _ => 0)) := (Blk.new _ _ _ _).alloc _
  have hB : Hid (Blk ((w.alloc (.cells (Ks .u8 256 (fun _ => 0)).toArray 32)).alloc (.cells (Ks .u8 256 (fun _ => 0)).toArray 32)) (w.heap.size + 1) 32 256 (wz (fun _ => 0))) := by
    have := Blk.new (w.alloc (.cells (Ks .u8 256 (fun _ => 0)).toArray 32)) 32 256 (fun _ => 0)
    simp only [World.size_alloc] at this
    exact this.congr fun i _ => (wz_zero i).symm
  have hL : Hid (Below w.heap.size w ((w.alloc (.cells (Ks .u8 256 (fun _ => 0)).toArray 32)).alloc (.cells (Ks .u8 256 (fun _ => 0)).toArray 32))) := ((Below.refl _ _).alloc (Nat.le_refl _) _).alloc (by simp) _
  go_enter Tryz.func123, Tryz.ntmps123
  go_wp2_with fail
  refine (putW (w.heap.size + 1) _ 0 0 1280199249 rfl (by omega) (by decide) _ hB.out).mono ?_
  rintro e w1 ⟨rfl, hB1, ho1⟩
  have hR1 : Blk w1 w.heap.size 32 256 (fun _ => 0) := hR.out.only ho1 (by omega)
  have hL1 : Below w.heap.size w w1 := hL.out.trans (ho1.below (by omega))
  clear hR hB hL ho1 hal
  go_wp2_with fail
  refine (putW (w.heap.size + 1) _ 1 4 k rfl (by omega) hk0 _ hB1).mono ?_
  rintro e w2 ⟨rfl, hB2, ho2⟩
  have hR2 := hR1.only ho2 (by omega)
  have hL2 : Below w.heap.size w w2 := hL1.trans (ho2.below (by omega))
  clear hR1 hB1 hL1 ho2
  go_wp2_with fail
  refine (putW (w.heap.size + 1) _ 2 8 s rfl (by omega) hs _ hB2).mono ?_
  rintro e w3 ⟨rfl, hB3, ho3⟩
  have hR3 := hR2.only ho3 (by omega)
  have hL3 : Below w.heap.size w w3 := hL2.trans (ho3.below (by omega))
  clear hR2 hB2 hL2 ho3
  go_wp2_with fail
  refine (putW (w.heap.size + 1) _ 3 12 f rfl (by omega) hf _ hB3).mono ?_
  rintro e w4 ⟨rfl, hB4, ho4⟩
  have hR4 := hR3.only ho4 (by omega)
  have hL4 : Below w.heap.size w w4 := hL3.trans (ho4.below (by omega))
  have hB5 := hB4.congr (y := wz (jw k s f nz)) fun i hi => wz_congr 64 (fun j _ => jw_upd k s f j) i hi
  clear hR3 hB3 hL3 ho4 hB4
  generalize hz : wz (jw k s f nz) = z at hB5
  have HZ := Lib.hid hz
  clear hz
  go_wp2_with (first | (refine wp_loadBlk rfl (.tmp 7) rfl (w.heap.size + 1) z rfl hB5 ?_) | (refine wp_storeBlk rfl (.tmp 6) (.tmp 20) rfl w.heap.size z _ rfl rfl hR4 ?_))
  intro w5 hR5 ho5
  go_wp2_with fail
  exact bodyPost_ret (results_blk rfl _ _ w.heap.size z rfl hR5) rfl ⟨by rw [HZ.out], hL4.trans (ho5.below (Nat.le_refl _))⟩
end Go.Proofs.YtnbmmhoofilmfaaGreatDoor
