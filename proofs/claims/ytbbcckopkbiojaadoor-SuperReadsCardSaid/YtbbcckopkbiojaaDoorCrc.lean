/- Contracts of crc.Sum and of quernref02.Sum. -/
import Derived.Test.YtbbcckopkbiojaaDoorCrcP
import Derived.Test.YtbbcckopkbiojaaDoorNums
import Derived.Test.YtbbcckopkbiojaaDoorNumsAny
namespace Go.Proofs.YtbbcckopkbiojaaDoor
open Go.RowKit
set_option linter.unusedVariables false

/-- the table of four shifts lies in its variable -/
def Tab (w : World) : Prop := ∀ i, i < 16 → w.cell? ⟨0, i, none⟩ = some (.int .u32 ((tabN.getD i 0 : Nat) : Int))
theorem Tab.lt {w : World} (h : Tab w) : 0 < w.heap.size := World.block_lt_of_cell? w _ (h 0 (by omega))
theorem Tab.below {w w' : World} (h : Tab w) {B : Nat} (hb : Below B w w') (hB : w.heap.size ≤ B) : Tab w' := fun i hi => (hb.cell (p := ⟨0, i, none⟩) (by have := h.lt; show 0 < B; omega)).trans (h i hi)
theorem Tab.below' {w w' : World} (h : Tab w) {B : Nat} (hb : Below B w w') (hB : 0 < B) : Tab w' := fun i hi => (hb.cell (p := ⟨0, i, none⟩) hB).trans (h i hi)
theorem Tab.alloc {w : World} (h : Tab w) (o : Obj) : Tab (w.alloc o) := h.below ((Below.refl _ _).alloc (Nat.le_refl _) o) (Nat.le_refl _)
theorem Tab.only {w w' : World} (h : Tab w) {b : Nat} (hb : Only b w w') (hg : b ≠ 0) : Tab w' := fun i hi => (hb.cell (p := ⟨0, i, none⟩) (fun e => hg e.symm)).trans (h i hi)

theorem xor_max {v : Nat} (hv : v < 4294967296) : bits .xor .u32 4294967295 (v : Int) = ((4294967295 - v : Nat) : Int) := by
  have h := u32_xor_nat 4294967295 v (by omega) hv
  rw [show ((4294967295 : Nat) : Int) = 4294967295 from rfl] at h
  rw [h]
  congr 1
  refine Nat.eq_of_testBit_eq fun j => ?_
  have h1 := Nat.testBit_two_pow_sub_succ (x := v) (n := 32) hv j
  have h2 := Nat.testBit_two_pow_sub_succ (x := 0) (n := 32) (by omega) j
  rw [show (2 : Nat) ^ 32 - (v + 1) = 4294967295 - v by omega] at h1
  rw [show (2 : Nat) ^ 32 - (0 + 1) = 4294967295 by omega] at h2
  rw [Nat.testBit_xor, h1, h2, Nat.zero_testBit]
  by_cases hj : j < 32
  · simp [hj]
  · rw [Nat.testBit_lt_two_pow (x := v) (i := j) (Nat.lt_of_lt_of_le hv (by rw [show (4294967296 : Nat) = 2 ^ 32 from rfl]; exact Nat.pow_le_pow_right (by omega) (by omega)))]
    simp [hj]
theorem nib_facts (v : Nat) (hv : v < 4294967296) {w : World} (hT : Tab w) : ∃ q r t u : Nat, r < 16 ∧ u < 4294967296 ∧ bits .and .u32 (v : Int) 15 = (r : Int) ∧ (v : Int) / 16 = (q : Int) ∧ bits .xor .u32 (q : Int) (t : Int) = (u : Int) ∧
    w.cell? ⟨0, r, none⟩ = some (.int .u32 (t : Int)) ∧ Hid (nibN v = u) := by
  have ht : tabN.getD (v % 16) 0 < 4294967296 := by
    have : ∀ r, r < 16 → tabN.getD r 0 < 4294967296 := by decide
    exact this _ (Nat.mod_lt _ (by omega))
  refine ⟨v / 16, v % 16, tabN.getD (v % 16) 0, nibN v, Nat.mod_lt _ (by omega), xor_lt 32 (by omega) ht, ?_, by omega, ?_, hT _ (Nat.mod_lt _ (by omega)), rfl⟩
  · have := u32_and_nat v 15 (by omega) (by omega)
    rw [show ((15 : Nat) : Int) = 15 from rfl] at this
    rw [this, show (15 : Nat) = 2 ^ 4 - 1 from rfl, Nat.and_two_pow_sub_one_eq_mod]
  · exact u32_xor_nat _ _ (by omega) ht
/-- m rows of bytes stand in a row of slices -/
structure Pieces (w : World) (a : Option Addr) (m : Nat) (pl : Nat → Nat) (pz : Nat → Nat → Int) : Prop where
  at' : ∀ k, k < m → ∃ b off, a = some ⟨b, off, none⟩ ∧ ∃ s cap, w.cell? ⟨b, off + k, none⟩ = some (.slice s (pl k) cap) ∧ Row w s (pl k) (pz k) ∧ (pl k : Int) ≤ 9223372036854775807

set_option maxRecDepth 100000 in
set_option maxHeartbeats 2000000 in
theorem crcSum_any (a : Option Addr) (m cap : Nat) (pl : Nat → Nat) (pz : Nat → Nat → Int) (w : World) (hl : (m : Int) ≤ 9223372036854775807) (hp : Pieces w a m pl pz) (hz : ∀ k, Byt (pz k)) (hT : Tab w) :
    Calls Tryd.prog 45 #[.slice a m cap] w fun e w' => e = .returned (.int .u32 ((4294967295 - foldP 4294967295 pl pz m : Nat) : Int)) ∧ w = w' := by
  have HT := Lib.hid hT
  have HP := Lib.hid hp
  clear hT hp
  go_enter Tryd.func45, Tryd.ntmps45
  go_wp2
  go_loop [3, 10] (fun v k => ∃ j : Nat, j ≤ m ∧ k = .int .i64 j ∧ v = .int .u32 ((foldP 4294967295 pl pz j : Nat) : Int)) (fun _ k => m - (intOf k).toNat)
  case atStart => exact ⟨0, by omega, rfl, rfl⟩
  case round =>
    obtain ⟨j, hj, rfl, rfl⟩ := hrel
    by_cases hlt : j < m
    · obtain ⟨b, off, rfl, s, cap', hc, hr, hlen⟩ := HP.out.at' j hlt
      have HR := Lib.hid hr
      have HV : Hid (foldP 4294967295 pl pz j < 4294967296) := foldP_lt (by omega) hz j
      have HS : Hid (foldN (foldP 4294967295 pl pz j) (pz j) 0 = foldP 4294967295 pl pz j ∧ foldP 4294967295 pl pz (j + 1) = foldN (foldP 4294967295 pl pz j) (pz j) (pl j)) := ⟨rfl, rfl⟩
      have hzj := hz j
      generalize foldP 4294967295 pl pz j = V at *
      clear hr
      go_wp2
      go_loop [3, 16] (fun v k => ∃ i : Nat, i ≤ pl j ∧ k = .int .i64 i ∧ v = .int .u32 ((foldN V (pz j) i : Nat) : Int)) (fun _ k => pl j - (intOf k).toNat)
      case atStart => exact ⟨0, by omega, rfl, rfl⟩
      case round =>
        obtain ⟨i, hi, rfl, rfl⟩ := hrel
        by_cases hlt2 : i < pl j
        · rcases HR.out with h0 | ⟨b', off', rfl, hseg⟩
          · omega
          have hc' := hseg i hlt2
          have hb := hzj i
          have HF : Hid (foldN V (pz j) i < 4294967296) := foldN_lt HV.out hzj i
          have HE : Hid (foldN V (pz j) (i + 1) = nibN (nibN (foldN V (pz j) i ^^^ (pz j i).toNat))) := by
            show stepN _ _ = _
            rw [nib_sh4, nib_sh4]; rfl
          generalize foldN V (pz j) i = v at *
          obtain ⟨v1, ev1⟩ : ∃ v1, v ^^^ (pz j i).toNat = v1 := ⟨_, rfl⟩
          have hv1 : v1 < 4294967296 := by rw [← ev1]; exact xor_lt 32 HF.out (by omega)
          have e1 : bits .xor .u32 (v : Int) (pz j i) = (v1 : Int) := by rw [u32_xor _ _ (by omega) (by have := HF.out; omega) hb.1 (by omega), Int.toNat_natCast, ev1]
          obtain ⟨q1, r1, t1, v2, hr1, hv2, e2, e3, e4, hct1, HN1⟩ := nib_facts v1 hv1 HT.out
          obtain ⟨q2, r2, t2, v3, hr2, hv3, e5, e6, e7, hct2, HN2⟩ := nib_facts v2 hv2 HT.out
          have HE2 : Hid (foldN V (pz j) (i + 1) = v3) := by show _ = _; rw [HE.out, ev1, HN1.out, HN2.out]
          clear HE HN1 HN2 ev1
          go_wp2
          go_round
          case rel => exact ⟨i + 1, by omega, by go_num, by rw [HE2.out]⟩
          case measure => simp [intOf]; omega
        · obtain rfl : i = pl j := by omega
          go_wp2
          go_round
          case rel => exact ⟨j + 1, by omega, by go_num, by rw [HS.out.2]⟩
          case measure => simp [intOf]; omega
    · obtain rfl : j = m := by omega
      have HN : Hid (bits .xor .u32 4294967295 ((foldP 4294967295 pl pz j : Nat) : Int) = ((4294967295 - foldP 4294967295 pl pz j : Nat) : Int)) := xor_max (foldP_lt (by omega) hz j)
      go_wp2
      go_ret
      exact ⟨by rw [show IntKind.u32.max = 4294967295 from by decide, HN.out]; rfl, rfl⟩

def iter (f : Nat → Nat) : Nat → Nat → Nat
  | 0, v => v
  | k + 1, v => f (iter f k v)
theorem rshift_any (v : Nat) (hv : v < 4294967296) (w : World) : Calls Tryd.prog 56 #[.int .u32 (v : Int)] w fun e w' => e = .returned (.int .u32 ((shN v : Nat) : Int)) ∧ w = w' := by
  go_enter Tryd.func56, Tryd.ntmps56
  have e2 : (v : Int).tdiv 2 = (v : Int) / 2 := Int.tdiv_eq_ediv_of_nonneg (by omega)
  have e3 : (v : Int).tmod 2 = (v : Int) % 2 := Int.tmod_eq_emod_of_nonneg (by omega)
  by_cases h : v % 2 = 1
  · have HS : Hid (shN v = (v / 2) ^^^ 3988292384) := by show _ = _; unfold shN; rw [if_pos h]
    have e1 : ((v : Int) % 2 == 1) = true := by simp; omega
    have e4 : (v : Int) / 2 = ((v / 2 : Nat) : Int) := by omega
    have e5 : bits .xor .u32 ((v / 2 : Nat) : Int) 3988292384 = (((v / 2) ^^^ 3988292384 : Nat) : Int) := u32_xor_nat (v / 2) 3988292384 (by omega) (by omega)
    generalize (v / 2) ^^^ 3988292384 = u at *
    generalize v / 2 = q at *
    go_wp2
    go_ret
    exact ⟨by rw [HS.out]; rfl, rfl⟩
  · have HS : Hid (shN v = v / 2) := by show _ = _; unfold shN; rw [if_neg h]
    have e1 : ((v : Int) % 2 == 1) = false := by simp; omega
    have e4 : (v : Int) / 2 = ((v / 2 : Nat) : Int) := by omega
    generalize v / 2 = q at *
    go_wp2
    go_ret
    exact ⟨by rw [HS.out]; rfl, rfl⟩
set_option maxRecDepth 100000 in
set_option maxHeartbeats 2000000 in
theorem rSum_any (a : Option Addr) (m cap : Nat) (z : Nat → Int) (w : World) (hl : (m : Int) ≤ 9223372036854775807) (hr : Row w a m z) (hz : Byt z) :
    Calls Tryd.prog 41 #[.slice a m cap] w fun e w' => e = .returned (.int .u32 (crcZ z m)) ∧ w = w' := by
  have HR := Lib.hid hr
  clear hr
  go_enter Tryd.func41, Tryd.ntmps41
  go_wp2
  go_loop [3, 4] (fun v k => ∃ j : Nat, j ≤ m ∧ k = .int .i64 j ∧ v = .int .u32 ((foldN 4294967295 z j : Nat) : Int)) (fun _ k => m - (intOf k).toNat)
  case atStart => exact ⟨0, by omega, rfl, rfl⟩
  case round =>
    obtain ⟨j, hj, rfl, rfl⟩ := hrel
    by_cases hlt : j < m
    · rcases HR.out with h0 | ⟨b', off', rfl, hseg⟩
      · omega
      have hc' := hseg j hlt
      have hb := hz j
      have HF : Hid (foldN 4294967295 z j < 4294967296) := foldN_lt (by omega) hz j
      have HE : Hid (foldN 4294967295 z (j + 1) = sh8 (foldN 4294967295 z j ^^^ (z j).toNat)) := rfl
      generalize foldN 4294967295 z j = v at *
      obtain ⟨v1, ev1⟩ : ∃ v1, v ^^^ (z j).toNat = v1 := ⟨_, rfl⟩
      have hv1 : v1 < 4294967296 := by rw [← ev1]; exact xor_lt 32 HF.out (by omega)
      have e1 : bits .xor .u32 (v : Int) (z j) = (v1 : Int) := by rw [u32_xor _ _ (by omega) (by have := HF.out; omega) hb.1 (by omega), Int.toNat_natCast, ev1]
      have HE2 : Hid (foldN 4294967295 z (j + 1) = iter shN 8 v1) := by show _ = _; rw [HE.out, ev1]; rfl
      clear HE ev1
      go_wp2
      go_loop [3, 5] (fun v k => ∃ i : Nat, i ≤ 8 ∧ k = .int .i64 i ∧ v = .int .u32 ((iter shN i v1 : Nat) : Int)) (fun _ k => 8 - (intOf k).toNat)
      case atStart => exact ⟨0, by omega, rfl, rfl⟩
      case round =>
        obtain ⟨i, hi, rfl, rfl⟩ := hrel
        by_cases hlt2 : i < 8
        · have HI : Hid (iter shN i v1 < 4294967296) := by
            show _ < _
            clear hlt2 hi HE2
            induction i with
            | zero => exact hv1
            | succ i ih => exact shN_lt ih
          have HS : Hid (shN (iter shN i v1) = iter shN (i + 1) v1) := rfl
          generalize iter shN i v1 = u at *
          have l1 : (i : Int) < 8 := by omega
          go_wp2_with fail
          refine (rshift_any u HI.out _).mono ?_
          rintro e wx ⟨rfl, rfl⟩
          go_wp2
          go_round
          case rel => exact ⟨i + 1, by omega, by go_num, by rw [HS.out]⟩
          case measure => simp [intOf]; omega
        · obtain rfl : i = 8 := by omega
          go_wp2
          go_round
          case rel => exact ⟨j + 1, by omega, by go_num, by rw [HE2.out]⟩
          case measure => simp [intOf]; omega
    · obtain rfl : j = m := by omega
      have HX : Hid (foldN 4294967295 z j < 4294967296) := foldN_lt (by omega) hz j
      have HC : Hid (crcZ z j = ((4294967295 - foldN 4294967295 z j : Nat) : Int)) := rfl
      generalize foldN 4294967295 z j = v at *
      have e9 : (4294967295 : Int) - (v : Int) = ((4294967295 - v : Nat) : Int) := by have := HX.out; omega
      go_wp2
      go_ret
      exact ⟨by rw [HC.out]; rfl, rfl⟩
end Go.Proofs.YtbbcckopkbiojaaDoor
