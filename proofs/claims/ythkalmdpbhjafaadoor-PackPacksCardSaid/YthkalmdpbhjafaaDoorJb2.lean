/- Contracts of jblock's heads, commits, kinds and escapes. -/
import Derived.Test.YthkalmdpbhjafaaDoorJb1
namespace Go.Proofs.YthkalmdpbhjafaaDoor
open Go.RowKit
set_option linter.unusedVariables false

def headOk (s t : Int) : Bool := seqB s && decide (0 ≤ t ∧ t ≤ 255)
def headZ (s t : Int) : Nat → Int := if headOk s t then wz (jw 4 s t nz) else fun _ => 0
def commitOk (s n : Int) : Bool := seqB s && decide (1 ≤ n ∧ n ≤ 256)
def sumR (v : Int) : Nat → Int := fun j => if j = 0 then v else 0
def commitZ (s n v : Int) : Nat → Int := if commitOk s n then wz (jw 2 s n (sumR v)) else fun _ => 0
def errOf (b : Bool) (e : Int) : Int := if b then 0 else e
def kindB (z : Nat → Int) : Bool := wd z 0 == 1280199249 && (seqB (wd z 2) && decide (1 ≤ wd z 1 ∧ wd z 1 ≤ 4))
def kindOf (z : Nat → Int) : Int := if kindB z then wd z 1 else 0
def seqOf (z : Nat → Int) : Int := if kindB z then wd z 2 else 0
def escB (z : Nat → Int) : Bool := wd z 0 == 1280199249
def escZ (z : Nat → Int) : Nat → Int := if escB z then over z 0 4 (byteOf 0) else z
def unescZ (z : Nat → Int) : Nat → Int := over z 0 4 (byteOf 1280199249)
def headRd (z : Nat → Int) : Bool := kindOf z == 4 && (decide (wd z 3 ≤ 255) && allZ (fun j => wd z (4 + j)) 60)
def commitRd (z : Nat → Int) : Bool := kindOf z == 2 && (decide (1 ≤ wd z 3 ∧ wd z 3 ≤ 256) && allZ (fun j => wd z (5 + j)) 59)

theorem numW (g : Nat) (z : Nat → Int) (hz : Byt z) (k : Nat) (K : Int) (hK : K = 4 * (k : Int)) (hk : k < 64) {T : TypeId} (w : World) (hB : Blk w g T 256 z) :
    Calls Tryd.prog 70 #[.pointer (some ⟨g, 0, none⟩), .int .i64 K] w fun e w' => e = .returned (.int .u32 (wd z k)) ∧ w = w' :=
  number_any g z hz (4 * k) K (by omega) (by omega) w hB

theorem jw_sum (k s n v : Int) (j : Nat) : upd (jw k s n nz) 4 v j = jw k s n (sumR v) j := by
  unfold upd jw nz sumR
  by_cases h0 : j = 0
  · simp [h0]
  by_cases h1 : j = 1
  · simp [h1]
  by_cases h2 : j = 2
  · simp [h2]
  by_cases h3 : j = 3
  · simp [h3]
  by_cases h4 : j = 4
  · simp [h4]
  simp [h0, h1, h2, h3, h4, show ¬ j - 4 = 0 by omega]

set_option maxRecDepth 100000 in
set_option maxHeartbeats 1000000 in
theorem writeCommit_any (s n v : Int) (w : World) (hs : 0 ≤ s ∧ s < 4294967296) (hn : -9223372036854775808 ≤ n ∧ n ≤ 9223372036854775807) (hv : 0 ≤ v ∧ v < 4294967296) :
    Calls Tryd.prog 54 #[.int .u32 s, .int .i64 n, .int .u32 v] w fun e w' => e = .returned (.tuple #[bval (commitZ s n v), .int .i64 (errOf (commitOk s n) 2)]) ∧ Below w.heap.size w w' := by
  obtain ⟨hs0, hs1⟩ := hs
  obtain ⟨hn0, hn1⟩ := hn
  obtain ⟨hv0, hv1⟩ := hv
  have hal := zero_block
  have hR0 : Hid (Blk (w.alloc (.cells (Ks .u8 256 (fun _ => 0)).toArray 40)) w.heap.size 40 256 (fun _ => 0)) := Blk.new _ _ _ _
  have hL0 : Hid (Below w.heap.size w (w.alloc (.cells (Ks .u8 256 (fun _ => 0)).toArray 40))) := (Below.refl _ _).alloc (Nat.le_refl _) _
  go_enter Tryd.func54, Tryd.ntmps54
  go_wp2_with fail
  refine ((maySeq_any s _).mono (R' := fun e w' => e = .returned (.bool (seqB s)) ∧ Blk w' w.heap.size 40 256 (fun _ => 0) ∧ Below w.heap.size w w') (fun e w' h => ⟨h.1, h.2 ▸ hR0.out, h.2 ▸ hL0.out⟩)).mono ?_
  rintro e W ⟨rfl, hR, hL⟩
  clear hR0 hL0
  by_cases hq : seqB s = true
  rotate_left
  · rw [Bool.not_eq_true] at hq
    have HO : Hid (commitOk s n = false) := by show _ = _; unfold commitOk; rw [hq]; rfl
    rw [hq]
    clear hq
    go_wp2_with (first | (refine wp_storeBlk rfl (.tmp 6) (.tmp 20) rfl w.heap.size (fun _ => 0) _ rfl rfl hR ?_))
    intro w2 hR2 ho2
    go_wp2_with fail
    exact bodyPost_ret (results_blk2 rfl _ _ w.heap.size _ rfl hR2) rfl ⟨by rw [commitZ, HO.out]; rfl, hL.trans (ho2.below (by omega))⟩
  by_cases h1 : 1 ≤ n
  rotate_left
  · have HO : Hid (commitOk s n = false) := by show _ = _; unfold commitOk; simp [h1]
    rw [hq]
    clear hq
    go_wp2_with (first | (refine wp_storeBlk rfl (.tmp 6) (.tmp 20) rfl w.heap.size (fun _ => 0) _ rfl rfl hR ?_))
    intro w2 hR2 ho2
    go_wp2_with fail
    exact bodyPost_ret (results_blk2 rfl _ _ w.heap.size _ rfl hR2) rfl ⟨by rw [commitZ, HO.out]; rfl, hL.trans (ho2.below (by omega))⟩
  by_cases h2 : n ≤ 256
  rotate_left
  · have HO : Hid (commitOk s n = false) := by show _ = _; unfold commitOk; simp [h2]
    rw [hq]
    clear hq
    go_wp2_with (first | (refine wp_storeBlk rfl (.tmp 6) (.tmp 20) rfl w.heap.size (fun _ => 0) _ rfl rfl hR ?_))
    intro w2 hR2 ho2
    go_wp2_with fail
    exact bodyPost_ret (results_blk2 rfl _ _ w.heap.size _ rfl hR2) rfl ⟨by rw [commitZ, HO.out]; rfl, hL.trans (ho2.below (by omega))⟩
  have HO : Hid (commitOk s n = true) := by show _ = _; unfold commitOk; rw [hq]; simp [h1, h2]
  rw [hq]
  clear hq
  go_wp2_with fail
  refine (begin_any 2 s n _ (by decide) hs0 (by omega)).mono ?_
  rintro e w2 ⟨rfl, hb2⟩
  have hR2 := hR.below hb2 hR.lt
  have hL2 : Below w.heap.size w w2 := hL.trans (hb2.mono hL.size)
  have hn2 := Blk.new w2 40 256 (fun _ => 0)
  clear hR hL hb2
  go_wp2_with (first | (refine wp_storeBlk rfl (.tmp 8) (.tmp 24) rfl w2.heap.size (wz (jw 2 s n nz)) _ rfl rfl hn2 ?_))
  intro w3 hB3 ho3
  have hlt := hR2.lt
  have hR3 : Blk w3 w.heap.size 40 256 (fun _ => 0) := (hR2.alloc _).only ho3 (by omega)
  have hL3 : Below w.heap.size w w3 := (hL2.alloc hL2.size _).trans (ho3.below hL2.size)
  clear hR2 hL2 hn2 ho3 hal
  have hsa := fun W => run_sliceBlkAll w2.heap.size 0 W
  go_wp2_with fail
  refine (putW w2.heap.size _ 4 16 v rfl (by omega) hv0 _ hB3).mono ?_
  rintro e w4 ⟨rfl, hB4, ho4⟩
  have hR4 := hR3.only ho4 (by omega)
  have hL4 : Below w.heap.size w w4 := hL3.trans (ho4.below (by omega))
  have hB5 := hB4.congr (y := wz (jw 2 s n (sumR v))) fun i hi => wz_congr 64 (fun j _ => jw_sum 2 s n v j) i hi
  clear hR3 hB3 hL3 ho4 hB4 hsa
  go_wp2_with (first | (refine wp_loadBlk rfl (.tmp 8) rfl w2.heap.size (wz (jw 2 s n (sumR v))) rfl hB5 ?_) | (refine wp_storeBlk rfl (.tmp 6) (.tmp 28) rfl w.heap.size (wz (jw 2 s n (sumR v))) _ rfl rfl hR4 ?_))
  intro w5 hR5 ho5
  go_wp2_with fail
  exact bodyPost_ret (results_blk2 rfl _ _ w.heap.size _ rfl hR5) rfl ⟨by rw [commitZ, HO.out]; rfl, hL4.trans (ho5.below (Nat.le_refl _))⟩

set_option maxRecDepth 100000 in
set_option maxHeartbeats 1000000 in
theorem kind_any (z : Nat → Int) (hz : Byt z) (w : World) :
    Calls Tryd.prog 56 #[bval z] w fun e w' => e = .returned (.tuple #[.int .u8 (kindOf z), .int .u32 (seqOf z)]) ∧ Below w.heap.size w w' := by
  have hB := Blk.new w 40 256 z
  have hL : Below w.heap.size w (w.alloc (.cells (Ks .u8 256 z).toArray 40)) := (Below.refl _ _).alloc (Nat.le_refl _) _
  have hw1 := wd_wds hz 1
  go_enter Tryd.func56, Tryd.ntmps56
  go_wp2_with fail
  refine (numW w.heap.size z hz 0 0 rfl (by omega) _ hB).mono ?_
  rintro e w1 ⟨rfl, rfl⟩
  by_cases h0 : wd z 0 = 1280199249
  rotate_left
  · have q : (wd z 0 != 1280199249) = true := by simpa using h0
    have HK : Hid (kindB z = false) := by show _ = _; unfold kindB; simp [h0]
    clear h0
    go_wp2_with fail
    go_ret2
    exact ⟨by rw [kindOf, seqOf, HK.out]; rfl, hL⟩
  have q : (wd z 0 != 1280199249) = false := by simpa using h0
  have H0 := Lib.hid h0
  clear h0
  go_wp2_with fail
  refine (numW w.heap.size z hz 2 8 rfl (by omega) _ hB).mono ?_
  rintro e w2 ⟨rfl, rfl⟩
  go_wp2_with fail
  refine (maySeq_any (wd z 2) _).mono ?_
  rintro e w3 ⟨rfl, rfl⟩
  by_cases h2 : seqB (wd z 2) = true
  rotate_left
  · rw [Bool.not_eq_true] at h2
    have HK : Hid (kindB z = false) := by show _ = _; unfold kindB; simp [h2]
    rw [h2]
    clear h2
    go_wp2_with fail
    go_ret2
    exact ⟨by rw [kindOf, seqOf, HK.out]; rfl, hL⟩
  have H2 := Lib.hid h2
  rw [h2]
  clear h2
  go_wp2_with fail
  refine (numW w.heap.size z hz 1 4 rfl (by omega) _ hB).mono ?_
  rintro e w4 ⟨rfl, rfl⟩
  clear hB
  have yes : ∀ k : Int, wd z 1 = k → 1 ≤ k → k ≤ 4 → kindB z = true := fun k h a b => by unfold kindB; rw [H0.out, H2.out, h]; simp [a, b]
  have YES := Lib.hid yes
  clear yes
  by_cases k4 : wd z 1 = 4
  · have HK : Hid (kindB z = true) := YES.out 4 k4 (by decide) (by decide)
    have HW1 := Lib.hid k4
    rw [k4]
    clear k4 hw1
    go_wp2_with fail
    go_ret2
    exact ⟨by rw [kindOf, seqOf, HK.out, HW1.out]; rfl, hL⟩
  by_cases k1 : wd z 1 = 1
  · have HK : Hid (kindB z = true) := YES.out 1 k1 (by decide) (by decide)
    have HW1 := Lib.hid k1
    rw [k1]
    clear k1 hw1 k4
    go_wp2_with fail
    go_ret2
    exact ⟨by rw [kindOf, seqOf, HK.out, HW1.out]; rfl, hL⟩
  by_cases k2 : wd z 1 = 2
  · have HK : Hid (kindB z = true) := YES.out 2 k2 (by decide) (by decide)
    have HW1 := Lib.hid k2
    rw [k2]
    clear k2 hw1 k4 k1
    go_wp2_with fail
    go_ret2
    exact ⟨by rw [kindOf, seqOf, HK.out, HW1.out]; rfl, hL⟩
  by_cases k3 : wd z 1 = 3
  · have HK : Hid (kindB z = true) := YES.out 3 k3 (by decide) (by decide)
    have HW1 := Lib.hid k3
    rw [k3]
    clear k3 hw1 k4 k1 k2
    go_wp2_with fail
    go_ret2
    exact ⟨by rw [kindOf, seqOf, HK.out, HW1.out]; rfl, hL⟩
  have HK : Hid (kindB z = false) := by
    show _ = _; unfold kindB
    have : decide (1 ≤ wd z 1 ∧ wd z 1 ≤ 4) = false := by simp; omega
    rw [this]; simp
  have q1 : (wd z 1 == 1) = false := by simpa using k1
  have q2 : (wd z 1 == 2) = false := by simpa using k2
  have q3 : (wd z 1 == 3) = false := by simpa using k3
  have q4 : (wd z 1 == 4) = false := by simpa using k4
  clear k1 k2 k3 k4
  go_wp2_with fail
  go_ret2
  exact ⟨by rw [kindOf, seqOf, HK.out]; rfl, hL⟩
end Go.Proofs.YthkalmdpbhjafaaDoor
