/- Texts of this claim, merged by a program (a claim may have 60 files): Crc, Sizes, Pk0, Pk1. -/
import Derived.Test.YtnbmmhoofilmfaaDoorK01
import Derived.Test.YtnbmmhoofilmfaaDoorK02
import Derived.Test.YtnbmmhoofilmfaaDoorRows
import Derived.WalkKit
import Derived.ProofKit
import Derived.OpenShut
import Derived.Outline
import Derived.Lib.Hide
import Derived.Test.YtnbmmhoofilmfaaDoorK12
import Derived.Test.YtnbmmhoofilmfaaDoorK13
/- Contracts of crc.Sum and of quernref02.Sum. -/
namespace Go.Proofs.YtnbmmhoofilmfaaDoor
open Go.RowKit
set_option linter.unusedVariables false

/-- the table of four shifts lies in its variable -/
def Tab (w : World) : Prop := ∀ i, i < 16 → w.cell? ⟨0, i, none⟩ = some (.int .u32 ((tabN.getD i 0 : Nat) : Int))
theorem Tab.lt {w : World} (h : Tab w) : 0 < w.heap.size := World.block_lt_of_cell? w _ (h 0 (by omega))
theorem Tab.below {w w' : World} (h : Tab w) {B : Nat} (hb : Below B w w') (hB : w.heap.size ≤ B) : Tab w' := fun i hi => (hb.cell (p := ⟨0, i, none⟩) (by have := h.lt; show 0 < B; omega)).trans (h i hi)
theorem Tab.below' {w w' : World} (h : Tab w) {B : Nat} (hb : Below B w w') (hB : 0 < B) : Tab w' := fun i hi => (hb.cell (p := ⟨0, i, none⟩) hB).trans (h i hi)
theorem Tab.alloc {w : World} (h : Tab w) (o : Obj) : Tab (w.alloc o) := h.below ((Below.refl _ _).alloc (Nat.le_refl _) o) (Nat.le_refl _)
theorem Tab.only {w w' : World} (h : Tab w) {b : Nat} (hb : Only b w w') (hg : b ≠ 0) : Tab w' := fun i hi => (hb.cell (p := ⟨0, i, none⟩) (fun e => hg e.symm)).trans (h i hi)

theorem xor_max {v : Nat} (hv : v < 4294967296) : bits .xor .u32 4294967295 (v : Int) = ((4294967295 - v : Nat) : Int) := by
  have h := u32_xor_nat 4294967295 v (by omega) hv
  rw [show ((4294967295 : Nat) : Int) = 4294967295 from rfl] at h
  rw [h]
  congr 1
  refine Nat.eq_of_testBit_eq fun j => ?_
  have h1 := Nat.testBit_two_pow_sub_succ (x := v) (n := 32) hv j
  have h2 := Nat.testBit_two_pow_sub_succ (x := 0) (n := 32) (by omega) j
  rw [show (2 : Nat) ^ 32 - (v + 1) = 4294967295 - v by omega] at h1
  rw [show (2 : Nat) ^ 32 - (0 + 1) = 4294967295 by omega] at h2
  rw [Nat.testBit_xor, h1, h2, Nat.zero_testBit]
  by_cases hj : j < 32
  · simp [hj]
  · rw [Nat.testBit_lt_two_pow (x := v) (i := j) (Nat.lt_of_lt_of_le hv (by rw [show (4294967296 : Nat) = 2 ^ 32 from rfl]; exact Nat.pow_le_pow_right (by omega) (by omega)))]
    simp [hj]
theorem nib_facts (v : Nat) (hv : v < 4294967296) {w : World} (hT : Tab w) : ∃ q r t u : Nat, r < 16 ∧ u < 4294967296 ∧ bits .and .u32 (v : Int) 15 = (r : Int) ∧ (v : Int) / 16 = (q : Int) ∧ bits .xor .u32 (q : Int) (t : Int) = (u : Int) ∧
    w.cell? ⟨0, r, none⟩ = some (.int .u32 (t : Int)) ∧ Hid (nibN v = u) := by
  have ht : tabN.getD (v % 16) 0 < 4294967296 := by
    have : ∀ r, r < 16 → tabN.getD r 0 < 4294967296 := by decide
    exact this _ (Nat.mod_lt _ (by omega))
  refine ⟨v / 16, v % 16, tabN.getD (v % 16) 0, nibN v, Nat.mod_lt _ (by omega), xor_lt 32 (by omega) ht, ?_, by omega, ?_, hT _ (Nat.mod_lt _ (by omega)), rfl⟩
  · have := u32_and_nat v 15 (by omega) (by omega)
    rw [show ((15 : Nat) : Int) = 15 from rfl] at this
    rw [this, show (15 : Nat) = 2 ^ 4 - 1 from rfl, Nat.and_two_pow_sub_one_eq_mod]
  · exact u32_xor_nat _ _ (by omega) ht
/-- m rows of bytes stand in a row of slices -/
structure Pieces (w : World) (a : Option Addr) (m : Nat) (pl : Nat → Nat) (pz : Nat → Nat → Int) : Prop where
  at' : ∀ k, k < m → ∃ b off, a = some ⟨b, off, none⟩ ∧ ∃ s cap, w.cell? ⟨b, off + k, none⟩ = some (.slice s (pl k) cap) ∧ Row w s (pl k) (pz k) ∧ (pl k : Int) ≤ 9223372036854775807

set_option maxRecDepth 100000 in
set_option maxHeartbeats 2000000 in
theorem crcSum_any (a : Option Addr) (m cap : Nat) (pl : Nat → Nat) (pz : Nat → Nat → Int) (w : World) (hl : (m : Int) ≤ 9223372036854775807) (hp : Pieces w a m pl pz) (hz : ∀ k, Byt (pz k)) (hT : Tab w) :
    Calls Tryd.prog 96 #[.slice a m cap] w fun e w' => e = .returned (.int .u32 ((4294967295 - foldP 4294967295 pl pz m : Nat) : Int)) ∧ w = w' := by
  have HT := Lib.hid hT
  have HP := Lib.hid hp
  clear hT hp
  go_enter Tryd.func96, Tryd.ntmps96
  go_wp2
  go_loop [3, 10] (fun v k => ∃ j : Nat, j ≤ m ∧ k = .int .i64 j ∧ v = .int .u32 ((foldP 4294967295 pl pz j : Nat) : Int)) (fun _ k => m - (intOf k).toNat)
  case atStart => exact ⟨0, by omega, rfl, rfl⟩
  case round =>
    obtain ⟨j, hj, rfl, rfl⟩ := hrel
    by_cases hlt : j < m
    · obtain ⟨b, off, rfl, s, cap', hc, hr, hlen⟩ := HP.out.at' j hlt
      have HR := Lib.hid hr
      have HV : Hid (foldP 4294967295 pl pz j < 4294967296) := foldP_lt (by omega) hz j
      have HS : Hid (foldN (foldP 4294967295 pl pz j) (pz j) 0 = foldP 4294967295 pl pz j ∧ foldP 4294967295 pl pz (j + 1) = foldN (foldP 4294967295 pl pz j) (pz j) (pl j)) := ⟨rfl, rfl⟩
      have hzj := hz j
      generalize foldP 4294967295 pl pz j = V at *
      clear hr
      go_wp2
      go_loop [3, 16] (fun v k => ∃ i : Nat, i ≤ pl j ∧ k = .int .i64 i ∧ v = .int .u32 ((foldN V (pz j) i : Nat) : Int)) (fun _ k => pl j - (intOf k).toNat)
      case atStart => exact ⟨0, by omega, rfl, rfl⟩
      case round =>
        obtain ⟨i, hi, rfl, rfl⟩ := hrel
        by_cases hlt2 : i < pl j
        · rcases HR.out with h0 | ⟨b', off', rfl, hseg⟩
          · omega
          have hc' := hseg i hlt2
          have hb := hzj i
          have HF : Hid (foldN V (pz j) i < 4294967296) := foldN_lt HV.out hzj i
          have HE : Hid (foldN V (pz j) (i + 1) = nibN (nibN (foldN V (pz j) i ^^^ (pz j i).toNat))) := by
            show stepN _ _ = _
            rw [nib_sh4, nib_sh4]; rfl
          generalize foldN V (pz j) i = v at *
          obtain ⟨v1, ev1⟩ : ∃ v1, v ^^^ (pz j i).toNat = v1 := ⟨_, rfl⟩
          have hv1 : v1 < 4294967296 := by rw [← ev1]; exact xor_lt 32 HF.out (by omega)
          have e1 : bits .xor .u32 (v : Int) (pz j i) = (v1 : Int) := by rw [u32_xor _ _ (by omega) (by have := HF.out; omega) hb.1 (by omega), Int.toNat_natCast, ev1]
          obtain ⟨q1, r1, t1, v2, hr1, hv2, e2, e3, e4, hct1, HN1⟩ := nib_facts v1 hv1 HT.out
          obtain ⟨q2, r2, t2, v3, hr2, hv3, e5, e6, e7, hct2, HN2⟩ := nib_facts v2 hv2 HT.out
          have HE2 : Hid (foldN V (pz j) (i + 1) = v3) := by show _ = _; rw [HE.out, ev1, HN1.out, HN2.out]
          clear HE HN1 HN2 ev1
          go_wp2
          go_round
          case rel => exact ⟨i + 1, by omega, by go_num, by rw [HE2.out]⟩
          case measure => simp [intOf]; omega
        · obtain rfl : i = pl j := by omega
          go_wp2
          go_round
          case rel => exact ⟨j + 1, by omega, by go_num, by rw [HS.out.2]⟩
          case measure => simp [intOf]; omega
    · obtain rfl : j = m := by omega
      have HN : Hid (bits .xor .u32 4294967295 ((foldP 4294967295 pl pz j : Nat) : Int) = ((4294967295 - foldP 4294967295 pl pz j : Nat) : Int)) := xor_max (foldP_lt (by omega) hz j)
      go_wp2
      go_ret
      exact ⟨by rw [show IntKind.u32.max = 4294967295 from by decide, HN.out]; rfl, rfl⟩

def iter (f : Nat → Nat) : Nat → Nat → Nat
  | 0, v => v
  | k + 1, v => f (iter f k v)
theorem rshift_any (v : Nat) (hv : v < 4294967296) (w : World) : Calls Tryd.prog 139 #[.int .u32 (v : Int)] w fun e w' => e = .returned (.int .u32 ((shN v : Nat) : Int)) ∧ w = w' := by
  go_enter Tryd.func139, Tryd.ntmps139
  have e2 : (v : Int).tdiv 2 = (v : Int) / 2 := Int.tdiv_eq_ediv_of_nonneg (by omega)
  have e3 : (v : Int).tmod 2 = (v : Int) % 2 := Int.tmod_eq_emod_of_nonneg (by omega)
  by_cases h : v % 2 = 1
  · have HS : Hid (shN v = (v / 2) ^^^ 3988292384) := by show _ = _; unfold shN; rw [if_pos h]
    have e1 : ((v : Int) % 2 == 1) = true := by simp; omega
    have e4 : (v : Int) / 2 = ((v / 2 : Nat) : Int) := by omega
    have e5 : bits .xor .u32 ((v / 2 : Nat) : Int) 3988292384 = (((v / 2) ^^^ 3988292384 : Nat) : Int) := u32_xor_nat (v / 2) 3988292384 (by omega) (by omega)
    generalize (v / 2) ^^^ 3988292384 = u at *
    generalize v / 2 = q at *
    go_wp2
    go_ret
    exact ⟨by rw [HS.out]; rfl, rfl⟩
  · have HS : Hid (shN v = v / 2) := by show _ = _; unfold shN; rw [if_neg h]
    have e1 : ((v : Int) % 2 == 1) = false := by simp; omega
    have e4 : (v : Int) / 2 = ((v / 2 : Nat) : Int) := by omega
    generalize v / 2 = q at *
    go_wp2
    go_ret
    exact ⟨by rw [HS.out]; rfl, rfl⟩
set_option maxRecDepth 100000 in
set_option maxHeartbeats 2000000 in
theorem rSum_any (a : Option Addr) (m cap : Nat) (z : Nat → Int) (w : World) (hl : (m : Int) ≤ 9223372036854775807) (hr : Row w a m z) (hz : Byt z) :
    Calls Tryd.prog 108 #[.slice a m cap] w fun e w' => e = .returned (.int .u32 (crcZ z m)) ∧ w = w' := by
  have HR := Lib.hid hr
  clear hr
  go_enter Tryd.func108, Tryd.ntmps108
  go_wp2
  go_loop [3, 4] (fun v k => ∃ j : Nat, j ≤ m ∧ k = .int .i64 j ∧ v = .int .u32 ((foldN 4294967295 z j : Nat) : Int)) (fun _ k => m - (intOf k).toNat)
  case atStart => exact ⟨0, by omega, rfl, rfl⟩
  case round =>
    obtain ⟨j, hj, rfl, rfl⟩ := hrel
    by_cases hlt : j < m
    · rcases HR.out with h0 | ⟨b', off', rfl, hseg⟩
      · omega
      have hc' := hseg j hlt
      have hb := hz j
      have HF : Hid (foldN 4294967295 z j < 4294967296) := foldN_lt (by omega) hz j
      have HE : Hid (foldN 4294967295 z (j + 1) = sh8 (foldN 4294967295 z j ^^^ (z j).toNat)) := rfl
      generalize foldN 4294967295 z j = v at *
      obtain ⟨v1, ev1⟩ : ∃ v1, v ^^^ (z j).toNat = v1 := ⟨_, rfl⟩
      have hv1 : v1 < 4294967296 := by rw [← ev1]; exact xor_lt 32 HF.out (by omega)
      have e1 : bits .xor .u32 (v : Int) (z j) = (v1 : Int) := by rw [u32_xor _ _ (by omega) (by have := HF.out; omega) hb.1 (by omega), Int.toNat_natCast, ev1]
      have HE2 : Hid (foldN 4294967295 z (j + 1) = iter shN 8 v1) := by show _ = _; rw [HE.out, ev1]; rfl
      clear HE ev1
      go_wp2
      go_loop [3, 5] (fun v k => ∃ i : Nat, i ≤ 8 ∧ k = .int .i64 i ∧ v = .int .u32 ((iter shN i v1 : Nat) : Int)) (fun _ k => 8 - (intOf k).toNat)
      case atStart => exact ⟨0, by omega, rfl, rfl⟩
      case round =>
        obtain ⟨i, hi, rfl, rfl⟩ := hrel
        by_cases hlt2 : i < 8
        · have HI : Hid (iter shN i v1 < 4294967296) := by
            show _ < _
            clear hlt2 hi HE2
            induction i with
            | zero => exact hv1
            | succ i ih => exact shN_lt ih
          have HS : Hid (shN (iter shN i v1) = iter shN (i + 1) v1) := rfl
          generalize iter shN i v1 = u at *
          have l1 : (i : Int) < 8 := by omega
          go_wp2_with fail
          refine (rshift_any u HI.out _).mono ?_
          rintro e wx ⟨rfl, rfl⟩
          go_wp2
          go_round
          case rel => exact ⟨i + 1, by omega, by go_num, by rw [HS.out]⟩
          case measure => simp [intOf]; omega
        · obtain rfl : i = 8 := by omega
          go_wp2
          go_round
          case rel => exact ⟨j + 1, by omega, by go_num, by rw [HE2.out]⟩
          case measure => simp [intOf]; omega
    · obtain rfl : j = m := by omega
      have HX : Hid (foldN 4294967295 z j < 4294967296) := foldN_lt (by omega) hz j
      have HC : Hid (crcZ z j = ((4294967295 - foldN 4294967295 z j : Nat) : Int)) := rfl
      generalize foldN 4294967295 z j = v at *
      have e9 : (4294967295 : Int) - (v : Int) = ((4294967295 - v : Nat) : Int) := by have := HX.out; omega
      go_wp2
      go_ret
      exact ⟨by rw [HC.out]; rfl, rfl⟩
end Go.Proofs.YtnbmmhoofilmfaaDoor

/- Contracts of pack.Size and quernref15.Size: both answer the same number for any two integers. Conditions: none. -/
namespace Go.Proofs.YtnbmmhoofilmfaaDoor
open Go.RowKit

def sizeOf (c r : Int) : Int :=
  if c < 0 ∨ r < 0 ∨ 2048 < c ∨ 2048 < r ∨ (c = 0 ∧ r = 0) then 0 else c + (c + 29) / 30 + (r + 59) / 60 + 1

set_option maxHeartbeats 1000000 in
theorem packSize_any (c r : Int) (w : World) :
    Calls Tryd.prog 46 #[.int .i64 c, .int .i64 r] w fun e w' => e = .returned (.int .i64 (sizeOf c r)) ∧ w = w' := by
  by_cases h1 : c < 0
  · go_enter Tryd.func46, Tryd.ntmps46
    go_wp2
    go_ret
    exact ⟨by simp [sizeOf, h1], rfl⟩
  by_cases h2 : r < 0
  · go_enter Tryd.func46, Tryd.ntmps46
    go_wp2
    go_ret
    exact ⟨by simp [sizeOf, h2], rfl⟩
  by_cases h3 : 2048 < c
  · go_enter Tryd.func46, Tryd.ntmps46
    go_wp2
    go_ret
    exact ⟨by simp [sizeOf, h3], rfl⟩
  by_cases h4 : 2048 < r
  · go_enter Tryd.func46, Tryd.ntmps46
    go_wp2
    go_ret
    exact ⟨by simp [sizeOf, h4], rfl⟩
  by_cases h5 : c = 0
  · subst h5
    by_cases h6 : r = 0
    · subst h6
      go_enter Tryd.func46, Tryd.ntmps46
      go_wp2
      go_ret
      exact ⟨by simp [sizeOf], rfl⟩
    · have h7 : (r == 0) = false := by simp [h6]
      go_enter Tryd.func46, Tryd.ntmps46
      go_wp2
      go_ret
      exact ⟨ret_int (by rw [sizeOf, if_neg (by omega)]; omega), rfl⟩
  · have h7 : (c == 0) = false := by simp [h5]
    go_enter Tryd.func46, Tryd.ntmps46
    go_wp2
    go_ret
    exact ⟨ret_int (by rw [sizeOf, if_neg (by omega)]; omega), rfl⟩

/-- how many rounds are begun of a loop from 0 by d, at k -/
theorem refSize_any (c r : Int) (w : World) :
    Calls Tryd.prog 103 #[.int .i64 c, .int .i64 r] w fun e w' => e = .returned (.int .i64 (sizeOf c r)) ∧ w = w' := by
  by_cases h1 : c < 0
  · go_enter Tryd.func103, Tryd.ntmps103
    go_wp2
    go_ret
    exact ⟨by simp [sizeOf, h1], rfl⟩
  by_cases h2 : r < 0
  · go_enter Tryd.func103, Tryd.ntmps103
    go_wp2
    go_ret
    exact ⟨by simp [sizeOf, h2], rfl⟩
  by_cases h3 : 2048 < c
  · go_enter Tryd.func103, Tryd.ntmps103
    go_wp2
    go_ret
    exact ⟨by simp [sizeOf, h3], rfl⟩
  by_cases h4 : 2048 < r
  · go_enter Tryd.func103, Tryd.ntmps103
    go_wp2
    go_ret
    exact ⟨by simp [sizeOf, h4], rfl⟩
  by_cases h6 : c = 0 ∧ r = 0
  · obtain ⟨rfl, rfl⟩ := h6
    go_enter Tryd.func103, Tryd.ntmps103
    go_wp2
    go_ret
    exact ⟨by simp [sizeOf], rfl⟩
  have hc : sizeOf c r = c + (c + 29) / 30 + (r + 59) / 60 + 1 := by rw [sizeOf, if_neg (by omega)]
  have HC := Lib.hid hc
  clear hc
  by_cases h5 : c = 0
  · subst h5
    have h7 : (r == 0) = false := by simp; omega
    go_enter Tryd.func103, Tryd.ntmps103
    go_wp2
    go_loop [5, 6] (fun n k => k = .int .i64 0 ∧ n = .int .i64 1) (fun _ _ => 0)
    case atStart => exact ⟨rfl, rfl⟩
    case round =>
      obtain ⟨rfl, rfl⟩ := hrel
      go_wp2
      go_loop [5, 7] (fun n k => ∃ j : Int, 0 ≤ j ∧ j ≤ (r + 59) / 60 ∧ k = .int .i64 (60 * j) ∧ n = .int .i64 (1 + j)) (fun _ k => (2108 - intOf k).toNat)
      case atStart => exact ⟨0, by omega, by omega, rfl, rfl⟩
      case round =>
        obtain ⟨j, hj0, hj1, rfl, rfl⟩ := hrel
        by_cases hlt : 60 * j < r
        · go_wp2
          go_round
          case rel => exact ⟨j + 1, by omega, by omega, by go_num, by go_num⟩
          case measure => simp [intOf]; omega
        · go_wp2
          go_ret
          exact ⟨ret_int (by rw [HC.out]; omega), rfl⟩
  · have h7 : (c == 0) = false := by simp [h5]
    go_enter Tryd.func103, Tryd.ntmps103
    go_wp2
    go_loop [5, 6] (fun n k => ∃ j : Int, 0 ≤ j ∧ j ≤ (c + 29) / 30 ∧ k = .int .i64 (30 * j) ∧ n = .int .i64 (1 + c + j)) (fun _ k => (2108 - intOf k).toNat)
    case atStart => exact ⟨0, by omega, by omega, rfl, by go_num⟩
    case round =>
      obtain ⟨j, hj0, hj1, rfl, rfl⟩ := hrel
      by_cases hlt : 30 * j < c
      · go_wp2
        go_round
        case rel => exact ⟨j + 1, by omega, by omega, by go_num, by go_num⟩
        case measure => simp [intOf]; omega
      · have hj : j = (c + 29) / 30 := by omega
        have HJ := Lib.hid hj
        clear hj
        go_wp2
        go_loop [5, 7] (fun n k => ∃ i : Int, 0 ≤ i ∧ i ≤ (r + 59) / 60 ∧ k = .int .i64 (60 * i) ∧ n = .int .i64 (1 + c + j + i)) (fun _ k => (2108 - intOf k).toNat)
        case atStart => exact ⟨0, by omega, by omega, rfl, by go_num⟩
        case round =>
          obtain ⟨i, hi0, hi1, rfl, rfl⟩ := hrel
          by_cases hlt2 : 60 * i < r
          · go_wp2
            go_round
            case rel => exact ⟨i + 1, by omega, by omega, by go_num, by go_num⟩
            case measure => simp [intOf]; omega
          · go_wp2
            go_ret
            exact ⟨ret_int (by rw [HC.out]; have := HJ.out; omega), rfl⟩
end Go.Proofs.YtnbmmhoofilmfaaDoor

/- Transactions and their blocks, plainly. -/
namespace Go.Proofs.YtnbmmhoofilmfaaDoor
open Go.RowKit
set_option linter.unusedVariables false

/-- a transaction, plainly: its number; n copies: their blocks, their bytes; m revoked blocks -/
structure Tr where
  s : Int
  n : Nat
  cb : Nat → Int
  cd : Nat → Nat → Int
  m : Nat
  rv : Nat → Int
/-- its numbers fit their kinds -/
structure Tr.Ok (t : Tr) : Prop where
  s : 0 ≤ t.s ∧ t.s < 4294967296
  cb : ∀ i, -9223372036854775808 ≤ t.cb i ∧ t.cb i ≤ 9223372036854775807
  cd : ∀ i, Byt (t.cd i)
  rv : ∀ i, -9223372036854775808 ≤ t.rv i ∧ t.rv i ≤ 9223372036854775807
  n : (t.n : Int) ≤ 9223372036854775807
  m : (t.m : Int) ≤ 9223372036854775807
  cb0 : ∀ i, t.n ≤ i → t.cb i = 0
  rv0 : ∀ i, t.m ≤ i → t.rv i = 0
/-- numbers of blocks that rise -/
def riseT (b : Nat → Int) : Nat → Bool
  | 0 => true
  | i + 1 => riseT b i && (decide ((if i = 0 then -1 else b (i - 1)) < b i) && decide (b i < 2048))
theorem riseT_succ (b : Nat → Int) (i : Nat) : riseT b (i + 1) = (riseT b i && (decide ((if i = 0 then -1 else b (i - 1)) < b i) && decide (b i < 2048))) := rfl
theorem riseT_iff (b : Nat → Int) (n : Nat) : riseT b n = true ↔ ∀ i, i < n → (if i = 0 then -1 else b (i - 1)) < b i ∧ b i < 2048 := by
  induction n with
  | zero => simp [riseT]
  | succ n ih =>
    rw [riseT_succ, Bool.and_eq_true, Bool.and_eq_true, ih, decide_eq_true_eq, decide_eq_true_eq]
    constructor
    · rintro ⟨h, g⟩ i hi
      by_cases e : i = n
      · subst e; exact g
      · exact h i (by omega)
    · intro h; exact ⟨fun i hi => h i (by omega), h n (by omega)⟩
theorem riseT_bd {b : Nat → Int} {n : Nat} (h : riseT b n = true) : ∀ i, i < n → (i : Int) ≤ b i ∧ b i < 2048 := by
  have h' := (riseT_iff b n).1 h
  intro i
  induction i with
  | zero => intro hi; have := h' 0 hi; rw [if_pos rfl] at this; omega
  | succ i ih =>
    intro hi
    have h1 := h' (i + 1) hi
    rw [if_neg (by omega), Nat.add_sub_cancel] at h1
    have h2 := ih (by omega)
    omega
theorem riseT_no {b : Nat → Int} {n i : Nat} (hi : i < n) (h : ¬ ((if i = 0 then -1 else b (i - 1)) < b i ∧ b i < 2048)) : riseT b n = false := by
  cases e : riseT b n with
  | false => rfl
  | true => exact absurd ((riseT_iff b n).1 e i hi) h
theorem riseT_len {b : Nat → Int} {n : Nat} (h : riseT b n = true) : n ≤ 2048 := by
  cases n with
  | zero => omega
  | succ n => have := riseT_bd h n (by omega); omega
/-- may it be a transaction? -/
def mayT (s : Int) (n : Nat) (cb : Nat → Int) (m : Nat) (rv : Nat → Int) : Bool := seqB s && (decide (0 < n + m) && (riseT cb n && riseT rv m))
def Tr.may (t : Tr) : Bool := mayT t.s t.n t.cb t.m t.rv
theorem Tr.may_iff (t : Tr) : t.may = true ↔ seqB t.s = true ∧ 0 < t.n + t.m ∧ riseT t.cb t.n = true ∧ riseT t.rv t.m = true := by
  unfold Tr.may mayT; rw [Bool.and_eq_true, Bool.and_eq_true, Bool.and_eq_true, decide_eq_true_eq]
/-- how many blocks the copies have; how many the revoked ones; how many stand ahead of the commit -/
def dN (n : Nat) : Nat := n + (n + 29) / 30
def rN (m : Nat) : Nat := (m + 59) / 60
def Tr.c (t : Tr) : Nat := dN t.n + rN t.m
theorem dN_row (n r : Nat) : dN n = min (31 * r) (dN n) + dN (n - 30 * r) := by
  unfold dN
  by_cases h : 30 * r ≤ n
  · rw [Nat.min_eq_left (by omega)]; omega
  · rw [Nat.min_eq_right (by omega)]; omega
/-- the blocks ahead of the commit -/
def pk0 (t : Tr) (i : Nat) : Nat → Int :=
  if i < dN t.n then
    if i % 31 = 0 then jdZ t.s (min 30 (t.n - 30 * (i / 31))) (fun k => t.cb (30 * (i / 31) + k)) (fun k => escB (t.cd (30 * (i / 31) + k)))
    else escZ (t.cd (30 * (i / 31) + (i % 31 - 1)))
  else revZ t.s (min 60 (t.m - 60 * (i - dN t.n))) (fun k => t.rv (60 * (i - dN t.n) + k))
/-- the sum over so many blocks -/
def crcB (B : Nat → Nat → Int) (k : Nat) : Int := ((4294967295 - foldP 4294967295 (fun _ => 256) B k : Nat) : Int)
def pkB (t : Tr) (i : Nat) : Nat → Int := if i < t.c then pk0 t i else commitZ t.s t.c (crcB (pk0 t) t.c)
def Tr.size (t : Tr) : Int := sizeOf t.n t.m
def packE (t : Tr) : Int := if t.may then (if t.size ≤ 255 then 0 else 4) else 150
theorem size_c {t : Tr} (h : t.may = true) : t.size = t.c + 1 := by
  obtain ⟨_, h1, h2, h3⟩ := t.may_iff.1 h
  have := riseT_len h2
  have := riseT_len h3
  unfold Tr.size sizeOf Tr.c dN rN
  rw [if_neg (by omega)]
  omega

/-- a copy's cells; rows of copies, of blocks, of numbers -/
abbrev cpc (b : Int) (z : Nat → Int) : List Value := .int .i64 b :: Ks .u8 256 z
def cpF (cb : Nat → Int) (cd : Nat → Nat → Int) (i : Nat) : List Value := cpc (cb i) (cd i)
def bkF (B : Nat → Nat → Int) (i : Nat) : List Value := Ks .u8 256 (B i)
def inF (b : Nat → Int) (i : Nat) : List Value := [.int .i64 (b i)]
theorem cpc_len (b : Int) (z : Nat → Int) : (cpc b z).length = 257 := by simp [Ks]
theorem cpF_len (cb : Nat → Int) (cd : Nat → Nat → Int) (i : Nat) : (cpF cb cd i).length = 257 := cpc_len _ _
theorem bkF_len (B : Nat → Nat → Int) (i : Nat) : (bkF B i).length = 256 := by simp [bkF, Ks]
theorem inF_len (b : Nat → Int) (i : Nat) : (inF b i).length = 1 := rfl
theorem Ks_oneL (k : IntKind) (n : Nat) (z : Nat → Int) : ∀ v ∈ Ks k n z, v.oneCell' = true := by
  intro v hv
  unfold Ks at hv
  obtain ⟨i, _, rfl⟩ := List.mem_map.1 hv
  rfl
theorem bkF_one (B : Nat → Nat → Int) (i : Nat) : ∀ v ∈ bkF B i, v.oneCell' = true := Ks_oneL _ _ _
theorem cpF_one (cb : Nat → Int) (cd : Nat → Nat → Int) (i : Nat) : ∀ v ∈ cpF cb cd i, v.oneCell' = true := by
  intro v hv
  rcases List.mem_cons.1 hv with rfl | hv
  · rfl
  · exact Ks_oneL _ _ _ v hv
abbrev tval (s : Int) (ca : Option Addr) (n cc : Nat) (ra : Option Addr) (m rc : Nat) : Value := .agg #[.int .u32 s, .slice ca n cc, .slice ra m rc]
abbrev tcells (s : Int) (ca : Option Addr) (n cc : Nat) (ra : Option Addr) (m rc : Nat) : Array Value := #[.int .u32 s, .slice ca n cc, .slice ra m rc]
theorem RSeg.alloc {w : World} {b off m n : Nat} {f : Nat → List Value} (h : RSeg w b off m n f) (o : Obj) : RSeg (w.alloc o) b off m n f := fun i hi j v hv => by
  have h1 := h i hi j v hv
  have := World.block_lt_of_cell? w _ h1
  rw [World.cell?_of_block (w := w) (Below.heap_alloc w o b this)]; exact h1
theorem RRow.alloc {w : World} {a : Option Addr} {m n : Nat} {f : Nat → List Value} (h : RRow w a m n f) (o : Obj) : RRow (w.alloc o) a m n f := by
  rcases h with h | ⟨b, off, rfl, h⟩
  · exact .inl h
  · exact .inr ⟨b, off, rfl, h.alloc o⟩
theorem RRow.drew {w : World} {a : Option Addr} {m n : Nat} {f : Nat → List Value} (h : RRow w a m n f) : RRow w.drew a m n f := h
end Go.Proofs.YtnbmmhoofilmfaaDoor

/- pack.may. -/
namespace Go.Proofs.YtnbmmhoofilmfaaDoor
open Go.RowKit
set_option linter.unusedVariables false

/-- the number ahead -/
def lastT (b : Nat → Int) (k : Nat) : Int := if k = 0 then -1 else b (k - 1)
set_option maxRecDepth 100000 in
set_option maxHeartbeats 4000000 in
theorem packMay_any (s : Int) (ca : Option Addr) (n cc : Nat) (ra : Option Addr) (m rc : Nat) (cb : Nat → Int) (cd : Nat → Nat → Int) (rv : Nat → Int)
    (hs : 0 ≤ s ∧ s < 4294967296) (hn : (n : Int) ≤ 9223372036854775807) (hm : (m : Int) ≤ 9223372036854775807) (w : World) (hc : RRow w ca 257 n (cpF cb cd)) (hr : RRow w ra 1 m (inF rv)) :
    Calls Tryd.prog 45 #[tval s ca n cc ra m rc] w fun e w' => e = .returned (.bool (mayT s n cb m rv)) ∧ Below w.heap.size w w' := by
  have h0 := At.new w 51 (tcells s ca n cc ra m rc)
  have HL : Hid (Below w.heap.size w (w.alloc (.cells (tcells s ca n cc ra m rc) 51))) := (Below.refl _ _).alloc (Nat.le_refl _) _
  have hc0 : (w.alloc (.cells (tcells s ca n cc ra m rc) 51)).cell? ⟨w.heap.size, 0, none⟩ = some (.int .u32 s) := h0.cell (i := 0) rfl
  have hc1 : (w.alloc (.cells (tcells s ca n cc ra m rc) 51)).cell? ⟨w.heap.size, 1, none⟩ = some (.slice ca n cc) := h0.cell (i := 1) rfl
  have hc2 : (w.alloc (.cells (tcells s ca n cc ra m rc) 51)).cell? ⟨w.heap.size, 2, none⟩ = some (.slice ra m rc) := h0.cell (i := 2) rfl
  have HC := Lib.hid (hc.alloc (.cells (tcells s ca n cc ra m rc) 51))
  have HR := Lib.hid (hr.alloc (.cells (tcells s ca n cc ra m rc) 51))
  have HW : Hid (∃ W, W = w.alloc (.cells (tcells s ca n cc ra m rc) 51)) := ⟨_, rfl⟩
  clear h0 hc hr
  go_enter Tryd.func45, Tryd.ntmps45
  obtain ⟨W, hW⟩ := HW.out
  rw [← hW] at hc0 hc1 hc2 HC HR HL
  have hgo : w.alloc (.cells (tcells s ca n cc ra m rc) 51) = W := hW.symm
  clear hW HW
  obtain ⟨hs0, hs1⟩ := hs
  by_cases s1 : s < 1
  · have HO : Hid (mayT s n cb m rv = false) := by show _ = _; unfold mayT seqB; rw [decide_eq_false (by omega)]; rfl
    go_wp2_with fail
    go_ret
    exact ⟨by rw [HO.out]; rfl, HL.out⟩
  by_cases s2 : 2147483648 < s
  · have HO : Hid (mayT s n cb m rv = false) := by show _ = _; unfold mayT seqB; rw [decide_eq_false (by omega)]; rfl
    go_wp2_with fail
    go_ret
    exact ⟨by rw [HO.out]; rfl, HL.out⟩
  have HSQ : Hid (seqB s = true) := by show _ = _; unfold seqB; exact decide_eq_true (by omega)
  have s3 : 1 ≤ s := by omega
  have s4 : s ≤ 2147483648 := by omega
  by_cases h00 : n = 0 ∧ m = 0
  · obtain ⟨rfl, rfl⟩ := h00
    have HO : Hid (mayT s 0 cb 0 rv = false) := by show _ = _; unfold mayT; simp
    go_wp2_with fail
    go_ret
    exact ⟨by rw [HO.out]; rfl, HL.out⟩
  have HMY : Hid (∀ b, (riseT cb n && riseT rv m) = b → mayT s n cb m rv = b) := fun b hb => by
    unfold mayT; rw [HSQ.out, hb, show decide (0 < n + m) = true from decide_eq_true (by omega)]; rfl
  have hz : ((n : Int) == 0) = false ∨ (((n : Int) == 0) = true ∧ ((m : Int) == 0) = false) := by
    by_cases e : n = 0
    · exact .inr ⟨by rw [beq_iff_eq]; omega, by rw [beq_eq_false_iff_ne]; omega⟩
    · exact .inl (by rw [beq_eq_false_iff_ne]; omega)
  clear h00
  rcases hz with hz1 | ⟨hz1, hz2⟩
  all_goals
    go_wp2_with fail
    go_loop [3, 4, 5, 31] (fun l _ _ u => ∃ k : Nat, k ≤ n ∧ u = .int .i64 (k : Int) ∧ l = .int .i64 (lastT cb k) ∧ Hid (riseT cb k = true)) (fun _ _ _ u => n - (intOf u).toNat)
    case atStart => exact ⟨0, by omega, rfl, rfl, rfl⟩
    case round =>
      obtain ⟨k, hk, rfl, rfl, HK⟩ := hrel
      by_cases hlt : k < n
      · have hlt' : (k : Int) < (n : Int) := by omega
        have k0 : (0 : Int) ≤ (k : Int) := by omega
        obtain ⟨b, off, hca, hsg⟩ : ∃ b off, ca = some ⟨b, off, none⟩ ∧ RSeg W b off 257 n (cpF cb cd) := by
          rcases HC.out with h | h
          · omega
          · exact h
        have hcell : W.cell? ⟨b, off + k * 257, none⟩ = some (.int .i64 (cb k)) := hsg k hlt 0 _ rfl
        clear hsg
        subst hca
        obtain ⟨last, hlast⟩ : ∃ last, last = (if k = 0 then -1 else cb (k - 1)) := ⟨_, rfl⟩
        rw [show lastT cb k = last from hlast.symm]
        by_cases c1 : cb k ≤ last
        · have HO := Lib.hid (HMY.out false (by rw [riseT_no hlt (by rw [← hlast]; omega)]; rfl))
          clear hlast
          go_wp2_with fail
          go_ret
          exact ⟨by rw [HO.out]; rfl, HL.out⟩
        by_cases c2 : 2048 ≤ cb k
        · have HO := Lib.hid (HMY.out false (by rw [riseT_no hlt (by omega)]; rfl))
          clear hlast
          go_wp2_with fail
          go_ret
          exact ⟨by rw [HO.out]; rfl, HL.out⟩
        have HK1 : Hid (riseT cb (k + 1) = true) := by
          show _ = _
          rw [riseT_succ, HK.out, ← hlast, decide_eq_true (show last < cb k by omega), decide_eq_true (show cb k < 2048 by omega)]; rfl
        clear hlast
        go_wp2_with fail
        go_round
        case rel => first | exact ⟨k + 1, by omega, by go_num, rfl, HK1⟩ | exact ⟨k + 1, by omega, rfl, rfl, HK1⟩
        case measure => simp [intOf]; omega
      · obtain rfl : k = n := by omega
        go_wp2_with fail
        go_loop [3, 7, 52] (fun l _ u => ∃ j : Nat, j ≤ m ∧ u = .int .i64 (j : Int) ∧ l = .int .i64 (lastT rv j) ∧ Hid (riseT rv j = true)) (fun _ _ u => m - (intOf u).toNat)
        case atStart => exact ⟨0, by omega, rfl, rfl, rfl⟩
        case round =>
          obtain ⟨j, hj, rfl, rfl, HJ⟩ := hrel
          by_cases hlt2 : j < m
          · have hlt3 : (j : Int) < (m : Int) := by omega
            have j0 : (0 : Int) ≤ (j : Int) := by omega
            obtain ⟨b, off, hra, hsg⟩ : ∃ b off, ra = some ⟨b, off, none⟩ ∧ RSeg W b off 1 m (inF rv) := by
              rcases HR.out with h | h
              · omega
              · exact h
            have hcell : W.cell? ⟨b, off + j, none⟩ = some (.int .i64 (rv j)) := by have := hsg j hlt2 0 _ rfl; rwa [Nat.mul_one, Nat.add_zero] at this
            clear hsg
            subst hra
            obtain ⟨last, hlast⟩ : ∃ last, last = (if j = 0 then -1 else rv (j - 1)) := ⟨_, rfl⟩
            rw [show lastT rv j = last from hlast.symm]
            by_cases c1 : rv j ≤ last
            · have HO := Lib.hid (HMY.out false (by rw [riseT_no hlt2 (by rw [← hlast]; omega)]; simp))
              clear hlast
              go_wp2_with fail
              go_ret
              exact ⟨by rw [HO.out]; rfl, HL.out⟩
            by_cases c2 : 2048 ≤ rv j
            · have HO := Lib.hid (HMY.out false (by rw [riseT_no hlt2 (by omega)]; simp))
              clear hlast
              go_wp2_with fail
              go_ret
              exact ⟨by rw [HO.out]; rfl, HL.out⟩
            have HJ1 : Hid (riseT rv (j + 1) = true) := by
              show _ = _
              rw [riseT_succ, HJ.out, ← hlast, decide_eq_true (show last < rv j by omega), decide_eq_true (show rv j < 2048 by omega)]; rfl
            clear hlast
            go_wp2_with fail
            go_round
            case rel => first | exact ⟨j + 1, by omega, by go_num, rfl, HJ1⟩ | exact ⟨j + 1, by omega, rfl, rfl, HJ1⟩
            case measure => simp [intOf]; omega
          · obtain rfl : j = m := by omega
            have HO := Lib.hid (HMY.out true (by rw [HK.out, HJ.out]; rfl))
            go_wp2_with fail
            go_ret
            exact ⟨by rw [HO.out]; rfl, HL.out⟩
end Go.Proofs.YtnbmmhoofilmfaaDoor
