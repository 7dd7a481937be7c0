/- Blocks as words of four bytes, plainly. -/
import Derived.Test.YtbbcckopkbiojaaDoorBlk
import Derived.Test.YtbbcckopkbiojaaDoorPutsIf
namespace Go.Proofs.YtbbcckopkbiojaaDoor
open Go.RowKit
set_option linter.unusedVariables false
/-- the bytes of words -/
def wz (l : Nat → Int) (i : Nat) : Int := byteOf (l (i / 4)) (i % 4)
/-- the words of bytes -/
def wd (z : Nat → Int) (k : Nat) : Int := g32 z (4 * k)
/-- all are words -/
def Wds (l : Nat → Int) : Prop := ∀ k, 0 ≤ l k ∧ l k < 4294967296
theorem wz_byt (l : Nat → Int) : Byt (wz l) := fun i => byteOf_bd _ _
theorem wd_wds {z : Nat → Int} (hz : Byt z) : Wds (wd z) := fun k => g32_bd hz _
theorem wz_wd {z : Nat → Int} (hz : Byt z) (i : Nat) : wz (wd z) i = z i := by
  unfold wz wd
  rw [byteOf_g32 z hz _ _ (by omega)]
  congr 1; omega
theorem g32_wz {l : Nat → Int} (k : Nat) (hl : 0 ≤ l k ∧ l k < 4294967296) : g32 (wz l) (4 * k) = l k := by
  unfold g32 wz
  rw [show 4 * k / 4 = k by omega, show (4 * k + 1) / 4 = k by omega, show (4 * k + 2) / 4 = k by omega, show (4 * k + 3) / 4 = k by omega, show 4 * k % 4 = 0 by omega, show (4 * k + 1) % 4 = 1 by omega, show (4 * k + 2) % 4 = 2 by omega, show (4 * k + 3) % 4 = 3 by omega]
  exact byteOf_sum4 _ hl.1 hl.2
theorem wd_wz {l : Nat → Int} (hl : Wds l) (k : Nat) : wd (wz l) k = l k := g32_wz k (hl k)
theorem byteOf_0 (j : Nat) : byteOf 0 j = 0 := by unfold byteOf; simp
/-- a word written -/
def upd (l : Nat → Int) (k : Nat) (v : Int) : Nat → Int := fun j => if j = k then v else l j
theorem wz_put (l : Nat → Int) (k : Nat) (v : Int) (i : Nat) : over (wz l) (4 * k) 4 (byteOf v) i = wz (upd l k v) i := by
  unfold wz upd
  by_cases h : 4 * k ≤ i ∧ i < 4 * k + 4
  · rw [over_in _ _ _ _ _ h, if_pos (by omega)]; congr 1; omega
  · rw [over_out _ _ _ _ _ (by omega), if_neg (by omega)]
theorem wz_congr {l m : Nat → Int} (n : Nat) (h : ∀ k, k < n → l k = m k) (i : Nat) (hi : i < 4 * n) : wz l i = wz m i := by
  unfold wz; rw [h _ (by omega)]
theorem wz_zero (i : Nat) : wz (fun _ => 0) i = 0 := byteOf_0 _
/-- are two blocks the same? -/
theorem eqB_wz {l m : Nat → Int} (hl : Wds l) (hm : Wds m) (n : Nat) : eqB (wz l) (wz m) (4 * n) = eqB l m n := by
  rw [Bool.eq_iff_iff, eqB_iff, eqB_iff]
  constructor
  · intro h k hk
    rw [← wd_wz hl k, ← wd_wz hm k]
    unfold wd g32
    rw [h _ (by omega), h _ (by omega), h _ (by omega), h _ (by omega)]
  · intro h i hi
    exact wz_congr n h i hi
theorem allZ_wd {z : Nat → Int} (hz : Byt z) (k n : Nat) : allZ (fun i => z (4 * k + i)) (4 * n) = allZ (fun j => wd z (k + j)) n := by
  rw [Bool.eq_iff_iff, allZ_iff, allZ_iff]
  constructor
  · intro h j hj
    have h0 := h (4 * j) (by omega); have h1 := h (4 * j + 1) (by omega); have h2 := h (4 * j + 2) (by omega); have h3 := h (4 * j + 3) (by omega)
    unfold wd g32
    rw [show 4 * (k + j) = 4 * k + 4 * j by omega]
    simp only [Nat.add_assoc] at *
    omega
  · intro h i hi
    have := h (i / 4) (by omega)
    have e := wz_wd hz (4 * k + i)
    unfold wz at e
    rw [← e, show (4 * k + i) / 4 = k + i / 4 by omega, this]
    exact byteOf_0 _
/-- keys rise -/
def riseB (key : Nat → Int) : Nat → Bool
  | 0 => true
  | i + 1 => riseB key i && (i == 0 || decide (key (i - 1) < key i))
theorem riseB_succ (key : Nat → Int) (i : Nat) : riseB key (i + 1) = (riseB key i && (i == 0 || decide (key (i - 1) < key i))) := rfl
theorem riseB_iff (key : Nat → Int) (n : Nat) : riseB key n = true ↔ ∀ i, 0 < i → i < n → key (i - 1) < key i := by
  induction n with
  | zero => simp [riseB]
  | succ n ih =>
    rw [riseB_succ, Bool.and_eq_true, ih, Bool.or_eq_true, beq_iff_eq, decide_eq_true_eq]
    constructor
    · rintro ⟨h, g⟩ i h0 hi
      by_cases e : i = n
      · subst e
        rcases g with g | g
        · omega
        · exact g
      · exact h i h0 (by omega)
    · intro h
      refine ⟨fun i h0 hi => h i h0 (by omega), ?_⟩
      by_cases e : n = 0
      · exact .inl e
      · exact .inr (h n (by omega) (by omega))
theorem riseB_no {key : Nat → Int} {n i : Nat} (h0 : 0 < i) (hi : i < n) (h : ¬ key (i - 1) < key i) : riseB key n = false := by
  cases e : riseB key n with
  | false => rfl
  | true => exact absurd ((riseB_iff key n).1 e i h0 hi) h
theorem riseB_congr {k1 k2 : Nat → Int} {n : Nat} (h : ∀ i, i < n → k1 i = k2 i) : riseB k1 n = riseB k2 n := by
  rw [Bool.eq_iff_iff, riseB_iff, riseB_iff]
  exact ⟨fun g i h0 hi => by rw [← h _ (by omega), ← h _ hi]; exact g i h0 hi, fun g i h0 hi => by rw [h _ (by omega), h _ hi]; exact g i h0 hi⟩
/-- a journal block's words: its kind, its number, the number behind, the rows -/
def jw (kind seq first : Int) (r : Nat → Int) (k : Nat) : Int := if k = 0 then 1280199249 else if k = 1 then kind else if k = 2 then seq else if k = 3 then first else r (k - 4)
theorem jw_wds {kind seq first : Int} {r : Nat → Int} (h1 : 0 ≤ kind ∧ kind < 4294967296) (h2 : 0 ≤ seq ∧ seq < 4294967296) (h3 : 0 ≤ first ∧ first < 4294967296) (hr : Wds r) : Wds (jw kind seq first r) := by
  intro k; unfold jw
  split
  · omega
  · split
    · exact h1
    · split
      · exact h2
      · split
        · exact h3
        · exact hr _
def seqB (s : Int) : Bool := decide (1 ≤ s ∧ s ≤ 2147483648)
/-- a block of noughts -/
def nz : Nat → Int := fun _ => 0
end Go.Proofs.YtbbcckopkbiojaaDoor
