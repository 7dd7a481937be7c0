/- Texts of this claim, merged by a program (a claim may have 60 files): Jb2, Jb3, Jb4. -/
import Derived.Test.YtnbmmhoofilmfaaDoorK05
import Derived.Test.YtnbmmhoofilmfaaDoorK08
import Derived.Test.YtnbmmhoofilmfaaDoorK06
import Derived.Test.YtnbmmhoofilmfaaDoorK03
/- Contracts of jblock's heads, commits, kinds and escapes. -/
namespace Go.Proofs.YtnbmmhoofilmfaaDoor
open Go.RowKit
set_option linter.unusedVariables false

def headOk (s t : Int) : Bool := seqB s && decide (0 ≤ t ∧ t ≤ 255)
def headZ (s t : Int) : Nat → Int := if headOk s t then wz (jw 4 s t nz) else fun _ => 0
def commitOk (s n : Int) : Bool := seqB s && decide (1 ≤ n ∧ n ≤ 256)
def sumR (v : Int) : Nat → Int := fun j => if j = 0 then v else 0
def commitZ (s n v : Int) : Nat → Int := if commitOk s n then wz (jw 2 s n (sumR v)) else fun _ => 0
def errOf (b : Bool) (e : Int) : Int := if b then 0 else e
def kindB (z : Nat → Int) : Bool := wd z 0 == 1280199249 && (seqB (wd z 2) && decide (1 ≤ wd z 1 ∧ wd z 1 ≤ 4))
def kindOf (z : Nat → Int) : Int := if kindB z then wd z 1 else 0
def seqOf (z : Nat → Int) : Int := if kindB z then wd z 2 else 0
def escB (z : Nat → Int) : Bool := wd z 0 == 1280199249
def escZ (z : Nat → Int) : Nat → Int := if escB z then over z 0 4 (byteOf 0) else z
def unescZ (z : Nat → Int) : Nat → Int := over z 0 4 (byteOf 1280199249)
def headRd (z : Nat → Int) : Bool := kindOf z == 4 && (decide (wd z 3 ≤ 255) && allZ (fun j => wd z (4 + j)) 60)
def commitRd (z : Nat → Int) : Bool := kindOf z == 2 && (decide (1 ≤ wd z 3 ∧ wd z 3 ≤ 256) && allZ (fun j => wd z (5 + j)) 59)

theorem numW (g : Nat) (z : Nat → Int) (hz : Byt z) (k : Nat) (K : Int) (hK : K = 4 * (k : Int)) (hk : k < 64) {T : TypeId} (w : World) (hB : Blk w g T 256 z) :
    Calls Tryd.prog 98 #[.pointer (some ⟨g, 0, none⟩), .int .i64 K] w fun e w' => e = .returned (.int .u32 (wd z k)) ∧ w = w' :=
  number_any g z hz (4 * k) K (by omega) (by omega) w hB

set_option maxRecDepth 100000 in
set_option maxHeartbeats 1000000 in
theorem writeHead_any (s t : Int) (w : World) (hs : 0 ≤ s ∧ s < 4294967296) (ht : -9223372036854775808 ≤ t ∧ t ≤ 9223372036854775807) :
    Calls Tryd.prog 17 #[.agg #[.int .u32 s, .int .i64 t]] w fun e w' => e = .returned (.tuple #[bval (headZ s t), .int .i64 (errOf (headOk s t) 2)]) ∧ Below w.heap.size w w' := by
  obtain ⟨hs0, hs1⟩ := hs
  obtain ⟨ht0, ht1⟩ := ht
  have hal := zero_block
  obtain ⟨W, hW⟩ : ∃ W, W = (w.alloc (.cells #[.int .u32 s, .int .i64 t] 36)).alloc (.cells (Ks .u8 256 (fun _ => 0)).toArray 32) := ⟨_, rfl⟩
  have c0 : W.cell? ⟨w.heap.size, 0, none⟩ = some (.int .u32 s) := by rw [hW]; exact cell_of_heap (heap_alloc_keep (heap_alloc_new w _) _) rfl
  have c1 : W.cell? ⟨w.heap.size, 1, none⟩ = some (.int .i64 t) := by rw [hW]; exact cell_of_heap (heap_alloc_keep (heap_alloc_new w _) _) rfl
  have hR : Blk W (w.heap.size + 1) 32 256 (fun _ => 0) := by
    rw [hW]
    have := Blk.new (w.alloc (.cells #[.int .u32 s, .int .i64 t] 36)) 32 256 (fun _ => 0)
    simp only [World.size_alloc] at this
    exact this
  have hL : Below w.heap.size w W := by rw [hW]; exact ((Below.refl _ _).alloc (Nat.le_refl _) _).alloc (by simp) _
  have HW := Lib.hid hW
  have HC0 := Lib.hid c0
  have HC1 := Lib.hid c1
  clear hW c0 c1
  go_enter Tryd.func17, Tryd.ntmps17
  go_wp2_with fail
  rw [← HW.out]
  refine (maySeq_any s _).mono ?_
  rintro e w1 ⟨rfl, rfl⟩
  have c0 := HC0.out
  have c1 := HC1.out
  clear HC0 HC1 HW
  by_cases hq : seqB s = true
  rotate_left
  · rw [Bool.not_eq_true] at hq
    have HO : Hid (headOk s t = false) := by show _ = _; unfold headOk; rw [hq]; rfl
    rw [hq]
    clear hq
    go_wp2_with (first | (refine wp_storeBlk rfl (.tmp 2) (.tmp 18) rfl (w.heap.size + 1) (fun _ => 0) _ rfl rfl hR ?_))
    intro w2 hR2 ho2
    go_wp2_with fail
    exact bodyPost_ret (results_blk2 rfl _ _ (w.heap.size + 1) _ rfl hR2) rfl ⟨by rw [headZ, HO.out]; rfl, hL.trans (ho2.below (by omega))⟩
  by_cases h1 : 0 ≤ t
  rotate_left
  · have HO : Hid (headOk s t = false) := by show _ = _; unfold headOk; simp [h1]
    rw [hq]
    clear hq
    go_wp2_with (first | (refine wp_storeBlk rfl (.tmp 2) (.tmp 18) rfl (w.heap.size + 1) (fun _ => 0) _ rfl rfl hR ?_))
    intro w2 hR2 ho2
    go_wp2_with fail
    exact bodyPost_ret (results_blk2 rfl _ _ (w.heap.size + 1) _ rfl hR2) rfl ⟨by rw [headZ, HO.out]; rfl, hL.trans (ho2.below (by omega))⟩
  by_cases h2 : t ≤ 255
  rotate_left
  · have HO : Hid (headOk s t = false) := by show _ = _; unfold headOk; simp [h2]
    rw [hq]
    clear hq
    go_wp2_with (first | (refine wp_storeBlk rfl (.tmp 2) (.tmp 18) rfl (w.heap.size + 1) (fun _ => 0) _ rfl rfl hR ?_))
    intro w2 hR2 ho2
    go_wp2_with fail
    exact bodyPost_ret (results_blk2 rfl _ _ (w.heap.size + 1) _ rfl hR2) rfl ⟨by rw [headZ, HO.out]; rfl, hL.trans (ho2.below (by omega))⟩
  have HO : Hid (headOk s t = true) := by show _ = _; unfold headOk; rw [hq]; simp [h1, h2]
  rw [hq]
  clear hq
  go_wp2_with fail
  refine (begin_any 4 s t _ (by decide) hs0 h1).mono ?_
  rintro e w2 ⟨rfl, hb2⟩
  have hR2 := hR.below hb2 hR.lt
  have hL2 : Below w.heap.size w w2 := hL.trans (hb2.mono hL.size)
  clear hR hL hb2 c0 c1
  go_wp2_with (first | (refine wp_storeBlk rfl (.tmp 2) (.tmp 24) rfl (w.heap.size + 1) (wz (jw 4 s t nz)) _ rfl rfl hR2 ?_))
  intro w3 hR3 ho3
  go_wp2_with fail
  exact bodyPost_ret (results_blk2 rfl _ _ (w.heap.size + 1) _ rfl hR3) rfl ⟨by rw [headZ, HO.out]; rfl, hL2.trans (ho3.below (by omega))⟩

theorem jw_sum (k s n v : Int) (j : Nat) : upd (jw k s n nz) 4 v j = jw k s n (sumR v) j := by
  unfold upd jw nz sumR
  by_cases h0 : j = 0
  · simp [h0]
  by_cases h1 : j = 1
  · simp [h1]
  by_cases h2 : j = 2
  · simp [h2]
  by_cases h3 : j = 3
  · simp [h3]
  by_cases h4 : j = 4
  · simp [h4]
  simp [h0, h1, h2, h3, h4, show ¬ j - 4 = 0 by omega]

set_option maxRecDepth 100000 in
set_option maxHeartbeats 1000000 in
theorem writeCommit_any (s n v : Int) (w : World) (hs : 0 ≤ s ∧ s < 4294967296) (hn : -9223372036854775808 ≤ n ∧ n ≤ 9223372036854775807) (hv : 0 ≤ v ∧ v < 4294967296) :
    Calls Tryd.prog 95 #[.int .u32 s, .int .i64 n, .int .u32 v] w fun e w' => e = .returned (.tuple #[bval (commitZ s n v), .int .i64 (errOf (commitOk s n) 2)]) ∧ Below w.heap.size w w' := by
  obtain ⟨hs0, hs1⟩ := hs
  obtain ⟨hn0, hn1⟩ := hn
  obtain ⟨hv0, hv1⟩ := hv
  have hal := zero_block
  have hR0 : Hid (Blk (w.alloc (.cells (Ks .u8 256 (fun _ => 0)).toArray 32)) w.heap.size 32 256 (fun _ => 0)) := Blk.new _ _ _ _
  have hL0 : Hid (Below w.heap.size w (w.alloc (.cells (Ks .u8 256 (fun _ => 0)).toArray 32))) := (Below.refl _ _).alloc (Nat.le_refl _) _
  go_enter Tryd.func95, Tryd.ntmps95
  go_wp2_with fail
  refine ((maySeq_any s _).mono (R' := fun e w' => e = .returned (.bool (seqB s)) ∧ Blk w' w.heap.size 32 256 (fun _ => 0) ∧ Below w.heap.size w w') (fun e w' h => ⟨h.1, h.2 ▸ hR0.out, h.2 ▸ hL0.out⟩)).mono ?_
  rintro e W ⟨rfl, hR, hL⟩
  clear hR0 hL0
  by_cases hq : seqB s = true
  rotate_left
  · rw [Bool.not_eq_true] at hq
    have HO : Hid (commitOk s n = false) := by show _ = _; unfold commitOk; rw [hq]; rfl
    rw [hq]
    clear hq
    go_wp2_with (first | (refine wp_storeBlk rfl (.tmp 6) (.tmp 20) rfl w.heap.size (fun _ => 0) _ rfl rfl hR ?_))
    intro w2 hR2 ho2
    go_wp2_with fail
    exact bodyPost_ret (results_blk2 rfl _ _ w.heap.size _ rfl hR2) rfl ⟨by rw [commitZ, HO.out]; rfl, hL.trans (ho2.below (by omega))⟩
  by_cases h1 : 1 ≤ n
  rotate_left
  · have HO : Hid (commitOk s n = false) := by show _ = _; unfold commitOk; simp [h1]
    rw [hq]
    clear hq
    go_wp2_with (first | (refine wp_storeBlk rfl (.tmp 6) (.tmp 20) rfl w.heap.size (fun _ => 0) _ rfl rfl hR ?_))
    intro w2 hR2 ho2
    go_wp2_with fail
    exact bodyPost_ret (results_blk2 rfl _ _ w.heap.size _ rfl hR2) rfl ⟨by rw [commitZ, HO.out]; rfl, hL.trans (ho2.below (by omega))⟩
  by_cases h2 : n ≤ 256
  rotate_left
  · have HO : Hid (commitOk s n = false) := by show _ = _; unfold commitOk; simp [h2]
    rw [hq]
    clear hq
    go_wp2_with (first | (refine wp_storeBlk rfl (.tmp 6) (.tmp 20) rfl w.heap.size (fun _ => 0) _ rfl rfl hR ?_))
    intro w2 hR2 ho2
    go_wp2_with fail
    exact bodyPost_ret (results_blk2 rfl _ _ w.heap.size _ rfl hR2) rfl ⟨by rw [commitZ, HO.out]; rfl, hL.trans (ho2.below (by omega))⟩
  have HO : Hid (commitOk s n = true) := by show _ = _; unfold commitOk; rw [hq]; simp [h1, h2]
  rw [hq]
  clear hq
  go_wp2_with fail
  refine (begin_any 2 s n _ (by decide) hs0 (by omega)).mono ?_
  rintro e w2 ⟨rfl, hb2⟩
  have hR2 := hR.below hb2 hR.lt
  have hL2 : Below w.heap.size w w2 := hL.trans (hb2.mono hL.size)
  have hn2 := Blk.new w2 32 256 (fun _ => 0)
  clear hR hL hb2
  go_wp2_with (first | (refine wp_storeBlk rfl (.tmp 8) (.tmp 24) rfl w2.heap.size (wz (jw 2 s n nz)) _ rfl rfl hn2 ?_))
  intro w3 hB3 ho3
  have hlt := hR2.lt
  have hR3 : Blk w3 w.heap.size 32 256 (fun _ => 0) := (hR2.alloc _).only ho3 (by omega)
  have hL3 : Below w.heap.size w w3 := (hL2.alloc hL2.size _).trans (ho3.below hL2.size)
  clear hR2 hL2 hn2 ho3 hal
  have hsa := fun W => run_sliceBlkAll w2.heap.size 0 W
  go_wp2_with fail
  refine (putW w2.heap.size _ 4 16 v rfl (by omega) hv0 _ hB3).mono ?_
  rintro e w4 ⟨rfl, hB4, ho4⟩
  have hR4 := hR3.only ho4 (by omega)
  have hL4 : Below w.heap.size w w4 := hL3.trans (ho4.below (by omega))
  have hB5 := hB4.congr (y := wz (jw 2 s n (sumR v))) fun i hi => wz_congr 64 (fun j _ => jw_sum 2 s n v j) i hi
  clear hR3 hB3 hL3 ho4 hB4 hsa
  go_wp2_with (first | (refine wp_loadBlk rfl (.tmp 8) rfl w2.heap.size (wz (jw 2 s n (sumR v))) rfl hB5 ?_) | (refine wp_storeBlk rfl (.tmp 6) (.tmp 28) rfl w.heap.size (wz (jw 2 s n (sumR v))) _ rfl rfl hR4 ?_))
  intro w5 hR5 ho5
  go_wp2_with fail
  exact bodyPost_ret (results_blk2 rfl _ _ w.heap.size _ rfl hR5) rfl ⟨by rw [commitZ, HO.out]; rfl, hL4.trans (ho5.below (Nat.le_refl _))⟩

set_option maxRecDepth 100000 in
set_option maxHeartbeats 1000000 in
theorem kind_any (z : Nat → Int) (hz : Byt z) (w : World) :
    Calls Tryd.prog 97 #[bval z] w fun e w' => e = .returned (.tuple #[.int .u8 (kindOf z), .int .u32 (seqOf z)]) ∧ Below w.heap.size w w' := by
  have hB := Blk.new w 32 256 z
  have hL : Below w.heap.size w (w.alloc (.cells (Ks .u8 256 z).toArray 32)) := (Below.refl _ _).alloc (Nat.le_refl _) _
  have hw1 := wd_wds hz 1
  go_enter Tryd.func97, Tryd.ntmps97
  go_wp2_with fail
  refine (numW w.heap.size z hz 0 0 rfl (by omega) _ hB).mono ?_
  rintro e w1 ⟨rfl, rfl⟩
  by_cases h0 : wd z 0 = 1280199249
  rotate_left
  · have q : (wd z 0 != 1280199249) = true := by simpa using h0
    have HK : Hid (kindB z = false) := by show _ = _; unfold kindB; simp [h0]
    clear h0
    go_wp2_with fail
    go_ret2
    exact ⟨by rw [kindOf, seqOf, HK.out]; rfl, hL⟩
  have q : (wd z 0 != 1280199249) = false := by simpa using h0
  have H0 := Lib.hid h0
  clear h0
  go_wp2_with fail
  refine (numW w.heap.size z hz 2 8 rfl (by omega) _ hB).mono ?_
  rintro e w2 ⟨rfl, rfl⟩
  go_wp2_with fail
  refine (maySeq_any (wd z 2) _).mono ?_
  rintro e w3 ⟨rfl, rfl⟩
  by_cases h2 : seqB (wd z 2) = true
  rotate_left
  · rw [Bool.not_eq_true] at h2
    have HK : Hid (kindB z = false) := by show _ = _; unfold kindB; simp [h2]
    rw [h2]
    clear h2
    go_wp2_with fail
    go_ret2
    exact ⟨by rw [kindOf, seqOf, HK.out]; rfl, hL⟩
  have H2 := Lib.hid h2
  rw [h2]
  clear h2
  go_wp2_with fail
  refine (numW w.heap.size z hz 1 4 rfl (by omega) _ hB).mono ?_
  rintro e w4 ⟨rfl, rfl⟩
  clear hB
  have yes : ∀ k : Int, wd z 1 = k → 1 ≤ k → k ≤ 4 → kindB z = true := fun k h a b => by unfold kindB; rw [H0.out, H2.out, h]; simp [a, b]
  have YES := Lib.hid yes
  clear yes
  by_cases k4 : wd z 1 = 4
  · have HK : Hid (kindB z = true) := YES.out 4 k4 (by decide) (by decide)
    have HW1 := Lib.hid k4
    rw [k4]
    clear k4 hw1
    go_wp2_with fail
    go_ret2
    exact ⟨by rw [kindOf, seqOf, HK.out, HW1.out]; rfl, hL⟩
  by_cases k1 : wd z 1 = 1
  · have HK : Hid (kindB z = true) := YES.out 1 k1 (by decide) (by decide)
    have HW1 := Lib.hid k1
    rw [k1]
    clear k1 hw1 k4
    go_wp2_with fail
    go_ret2
    exact ⟨by rw [kindOf, seqOf, HK.out, HW1.out]; rfl, hL⟩
  by_cases k2 : wd z 1 = 2
  · have HK : Hid (kindB z = true) := YES.out 2 k2 (by decide) (by decide)
    have HW1 := Lib.hid k2
    rw [k2]
    clear k2 hw1 k4 k1
    go_wp2_with fail
    go_ret2
    exact ⟨by rw [kindOf, seqOf, HK.out, HW1.out]; rfl, hL⟩
  by_cases k3 : wd z 1 = 3
  · have HK : Hid (kindB z = true) := YES.out 3 k3 (by decide) (by decide)
    have HW1 := Lib.hid k3
    rw [k3]
    clear k3 hw1 k4 k1 k2
    go_wp2_with fail
    go_ret2
    exact ⟨by rw [kindOf, seqOf, HK.out, HW1.out]; rfl, hL⟩
  have HK : Hid (kindB z = false) := by
    show _ = _; unfold kindB
    have : decide (1 ≤ wd z 1 ∧ wd z 1 ≤ 4) = false := by simp; omega
    rw [this]; simp
  have q1 : (wd z 1 == 1) = false := by simpa using k1
  have q2 : (wd z 1 == 2) = false := by simpa using k2
  have q3 : (wd z 1 == 3) = false := by simpa using k3
  have q4 : (wd z 1 == 4) = false := by simpa using k4
  clear k1 k2 k3 k4
  go_wp2_with fail
  go_ret2
  exact ⟨by rw [kindOf, seqOf, HK.out]; rfl, hL⟩
end Go.Proofs.YtnbmmhoofilmfaaDoor

/- Contracts of jblock's escapes and of its reading of heads and commits. -/
namespace Go.Proofs.YtnbmmhoofilmfaaDoor
open Go.RowKit
set_option linter.unusedVariables false

/-- a word put into any block -/
theorem putZ32 (g : Nat) {T : TypeId} (z : Nat → Int) (k : Nat) (K v : Int) (hK : K = (k : Int)) (hk : k + 4 ≤ 256) (hv : 0 ≤ v) (w : World) (hB : Blk w g T 256 z) :
    Calls Tryd.prog 88 #[.slice (some ⟨g, 0, none⟩) 256 256, .int .i64 K, .int .u32 v] w fun e w' => e = .returned (.bool true) ∧ Blk w' g T 256 (over z k 4 (byteOf v)) ∧ Only g w w' := by
  refine (put32_yes g 0 256 256 K v z w (by omega) (by omega) (by omega) hv hB.seg (hB.soft 0 256)).mono fun e w' ⟨he, hp⟩ => ⟨he, ?_, hp.only⟩
  rw [show 0 + K.toNat = k by omega] at hp
  exact hB.puts hp

set_option maxRecDepth 100000 in
set_option maxHeartbeats 1000000 in
theorem escape_any (z : Nat → Int) (hz : Byt z) (w : World) :
    Calls Tryd.prog 91 #[bval z] w fun e w' => e = .returned (.tuple #[bval (escZ z), .bool (escB z)]) ∧ Below w.heap.size w w' := by
  have hal := zero_block
  have hB : Blk ((w.alloc (.cells (Ks .u8 256 z).toArray 32)).alloc (.cells (Ks .u8 256 (fun _ => 0)).toArray 32)) w.heap.size 32 256 z := (Blk.new _ _ _ _).alloc _
  have hR : Blk ((w.alloc (.cells (Ks .u8 256 z).toArray 32)).alloc (.cells (Ks .u8 256 (fun _ => 0)).toArray 32)) (w.heap.size + 1) 32 256 (fun _ => 0) := by
    have := Blk.new (w.alloc (.cells (Ks .u8 256 z).toArray 32)) 32 256 (fun _ => 0)
    simp only [World.size_alloc] at this
    exact this
  have hL : Below w.heap.size w ((w.alloc (.cells (Ks .u8 256 z).toArray 32)).alloc (.cells (Ks .u8 256 (fun _ => 0)).toArray 32)) := ((Below.refl _ _).alloc (Nat.le_refl _) _).alloc (by simp) _
  have HB := Lib.hid hB
  have HR := Lib.hid hR
  have HL := Lib.hid hL
  clear hB hR hL
  go_enter Tryd.func91, Tryd.ntmps91
  go_wp2_with fail
  refine ((numW w.heap.size z hz 0 0 rfl (by omega) _ HB.out).mono (R' := fun e w' => e = .returned (.int .u32 (wd z 0)) ∧ Blk w' w.heap.size 32 256 z ∧ Blk w' (w.heap.size + 1) 32 256 (fun _ => 0) ∧ Below w.heap.size w w') (fun e w' h => ⟨h.1, h.2 ▸ HB.out, h.2 ▸ HR.out, h.2 ▸ HL.out⟩)).mono ?_
  rintro e w1 ⟨rfl, hB, hR, hL⟩
  clear HB HR HL hal
  by_cases h0 : wd z 0 = 1280199249
  rotate_left
  · have q : (wd z 0 != 1280199249) = true := by simpa using h0
    have HK : Hid (escB z = false) := by show _ = _; unfold escB; simp [h0]
    clear h0
    go_wp2_with (first | (refine wp_loadBlk rfl (.tmp 1) rfl w.heap.size z rfl hB ?_) | (refine wp_storeBlk rfl (.tmp 2) (.tmp 6) rfl (w.heap.size + 1) z _ rfl rfl hR ?_))
    intro w2 hR2 ho2
    go_wp2_with fail
    exact bodyPost_ret (results_blk2 rfl _ _ (w.heap.size + 1) _ rfl hR2) rfl ⟨by rw [escZ, HK.out]; rfl, hL.trans (ho2.below (by omega))⟩
  have q : (wd z 0 != 1280199249) = false := by simpa using h0
  have HK : Hid (escB z = true) := by show _ = _; unfold escB; simp [h0]
  clear h0
  have hsa := fun W => run_sliceBlkAll w.heap.size 0 W
  go_wp2_with fail
  refine (putZ32 w.heap.size z 0 0 0 rfl (by omega) (by decide) _ hB).mono ?_
  rintro e w2 ⟨rfl, hB2, ho2⟩
  have hR2 := hR.only ho2 (by omega)
  have hL2 : Below w.heap.size w w2 := hL.trans (ho2.below (Nat.le_refl _))
  clear hB hR hL ho2 q hsa
  go_wp2_with (first | (refine wp_loadBlk rfl (.tmp 1) rfl w.heap.size (over z 0 4 (byteOf 0)) rfl hB2 ?_) | (refine wp_storeBlk rfl (.tmp 2) (.tmp 9) rfl (w.heap.size + 1) (over z 0 4 (byteOf 0)) _ rfl rfl hR2 ?_))
  intro w3 hR3 ho3
  go_wp2_with fail
  exact bodyPost_ret (results_blk2 rfl _ _ (w.heap.size + 1) _ rfl hR3) rfl ⟨by rw [escZ, HK.out]; rfl, hL2.trans (ho3.below (by omega))⟩

set_option maxRecDepth 100000 in
set_option maxHeartbeats 1000000 in
theorem unescape_any (z : Nat → Int) (hz : Byt z) (w : World) :
    Calls Tryd.prog 156 #[bval z] w fun e w' => e = .returned (bval (unescZ z)) ∧ Below w.heap.size w w' := by
  have hal := zero_block
  have hB : Blk ((w.alloc (.cells (Ks .u8 256 z).toArray 32)).alloc (.cells (Ks .u8 256 (fun _ => 0)).toArray 32)) w.heap.size 32 256 z := (Blk.new _ _ _ _).alloc _
  have hR : Blk ((w.alloc (.cells (Ks .u8 256 z).toArray 32)).alloc (.cells (Ks .u8 256 (fun _ => 0)).toArray 32)) (w.heap.size + 1) 32 256 (fun _ => 0) := by
    have := Blk.new (w.alloc (.cells (Ks .u8 256 z).toArray 32)) 32 256 (fun _ => 0)
    simp only [World.size_alloc] at this
    exact this
  have hL : Below w.heap.size w ((w.alloc (.cells (Ks .u8 256 z).toArray 32)).alloc (.cells (Ks .u8 256 (fun _ => 0)).toArray 32)) := ((Below.refl _ _).alloc (Nat.le_refl _) _).alloc (by simp) _
  have HB := Lib.hid hB
  have HR := Lib.hid hR
  have HL := Lib.hid hL
  clear hB hR hL
  have hsa := fun W => run_sliceBlkAll w.heap.size 0 W
  go_enter Tryd.func156, Tryd.ntmps156
  go_wp2_with fail
  refine (putZ32 w.heap.size z 0 0 1280199249 rfl (by omega) (by decide) _ HB.out).mono ?_
  rintro e w2 ⟨rfl, hB2, ho2⟩
  have hR2 := HR.out.only ho2 (by omega)
  have hL2 : Below w.heap.size w w2 := HL.out.trans (ho2.below (Nat.le_refl _))
  clear HB HR HL ho2 hsa hal
  go_wp2_with (first | (refine wp_loadBlk rfl (.tmp 1) rfl w.heap.size (over z 0 4 (byteOf 1280199249)) rfl hB2 ?_) | (refine wp_storeBlk rfl (.tmp 2) (.tmp 5) rfl (w.heap.size + 1) (over z 0 4 (byteOf 1280199249)) _ rfl rfl hR2 ?_))
  intro w3 hR3 ho3
  go_wp2_with fail
  exact bodyPost_ret (results_blk rfl _ _ (w.heap.size + 1) _ rfl hR3) rfl ⟨rfl, hL2.trans (ho3.below (by omega))⟩

/-- what a commit block tells -/
def commitV (z : Nat → Int) : Value := if commitRd z then .tuple #[.int .u32 (seqOf z), .int .i64 (wd z 3), .int .u32 (wd z 4), .int .i64 0] else .tuple #[.int .u32 0, .int .i64 0, .int .u32 0, .int .i64 90]
end Go.Proofs.YtnbmmhoofilmfaaDoor

/- Contracts of jblock.writeRows over tags, and of WriteDesc. -/
namespace Go.Proofs.YtnbmmhoofilmfaaDoor
open Go.RowKit
set_option linter.unusedVariables false

/-- n tags stand at a place -/
def TagSeg (w : World) (b off n : Nat) (tb : Nat → Int) (te : Nat → Bool) : Prop := ∀ i, i < n → w.cell? ⟨b, off + i * 2, none⟩ = some (.int .u32 (tb i)) ∧ w.cell? ⟨b, off + i * 2 + 1, none⟩ = some (.bool (te i))
/-- a slice of n tags -/
def TagRow (w : World) (a : Option Addr) (n : Nat) (tb : Nat → Int) (te : Nat → Bool) : Prop := n = 0 ∨ ∃ b off, a = some ⟨b, off, none⟩ ∧ TagSeg w b off n tb te
theorem TagSeg.below {w w' : World} {b off n : Nat} {tb : Nat → Int} {te : Nat → Bool} (h : TagSeg w b off n tb te) {B : Nat} (hb : Below B w w') (hB : b < B) : TagSeg w' b off n tb te :=
  fun i hi => ⟨(hb.cell (p := ⟨b, off + i * 2, none⟩) hB).trans (h i hi).1, (hb.cell (p := ⟨b, off + i * 2 + 1, none⟩) hB).trans (h i hi).2⟩
theorem TagSeg.lt {w : World} {b off n : Nat} {tb : Nat → Int} {te : Nat → Bool} (h : TagSeg w b off n tb te) (hn : 0 < n) : b < w.heap.size := World.block_lt_of_cell? w _ (h 0 hn).1
theorem TagRow.below {w w' : World} {a : Option Addr} {n : Nat} {tb : Nat → Int} {te : Nat → Bool} (h : TagRow w a n tb te) (hb : Below w.heap.size w w') : TagRow w' a n tb te := by
  rcases h with h | ⟨b, off, rfl, h⟩
  · exact .inl h
  · by_cases h0 : n = 0
    · exact .inl h0
    · exact .inr ⟨b, off, rfl, h.below hb (h.lt (by omega))⟩

def bit (b : Bool) : Int := if b then 1 else 0
/-- the rows of the first k tags -/
def tagR (tb : Nat → Int) (te : Nat → Bool) (k : Nat) (j : Nat) : Int := if j < 2 * k then (if j % 2 = 0 then tb (j / 2) else bit (te (j / 2))) else 0
def jdOk (s : Int) (n : Nat) (tb : Nat → Int) : Bool := seqB s && (decide (1 ≤ n ∧ n ≤ 30) && riseB tb n)
def jdZ (s : Int) (n : Nat) (tb : Nat → Int) (te : Nat → Bool) : Nat → Int := if jdOk s n tb then wz (jw 1 s n (tagR tb te n)) else fun _ => 0
theorem tagR_next (s n : Int) (tb : Nat → Int) (te : Nat → Bool) (k j : Nat) : upd (upd (jw 1 s n (tagR tb te k)) (4 + 2 * k) (tb k)) (5 + 2 * k) (bit (te k)) j = jw 1 s n (tagR tb te (k + 1)) j := by
  unfold upd
  by_cases h5 : j = 5 + 2 * k
  · rw [if_pos h5]
    unfold jw tagR
    rw [if_neg (by omega), if_neg (by omega), if_neg (by omega), if_neg (by omega), if_pos (by omega), if_neg (by omega), show (j - 4) / 2 = k by omega]
  rw [if_neg h5]
  by_cases h4 : j = 4 + 2 * k
  · rw [if_pos h4]
    unfold jw tagR
    rw [if_neg (by omega), if_neg (by omega), if_neg (by omega), if_neg (by omega), if_pos (by omega), if_pos (by omega), show (j - 4) / 2 = k by omega]
  rw [if_neg h4]
  unfold jw
  split
  · rfl
  · split
    · rfl
    · split
      · rfl
      · split
        · rfl
        · unfold tagR
          by_cases c : j - 4 < 2 * k
          · have c' : j - 4 < 2 * (k + 1) := by omega
            simp only [c, c', if_true]
          · have c' : ¬ j - 4 < 2 * (k + 1) := by omega
            simp only [c, c', if_false]
theorem tagR_zero (s n : Int) (tb : Nat → Int) (te : Nat → Bool) (j : Nat) : jw 1 s n nz j = jw 1 s n (tagR tb te 0) j := by
  unfold jw tagR nz
  simp

theorem tagKey_any (b : Int) (x : Bool) (w : World) : Calls Tryd.prog 130 #[.agg #[.int .u32 b, .bool x]] w fun e w' => e = .returned (.int .u32 b) ∧ Below w.heap.size w w' := by
  go_enter Tryd.func130, Tryd.ntmps130
  go_wp2
  go_ret
  exact ⟨rfl, (Below.refl _ _).alloc (Nat.le_refl _) _⟩

/-- a word put into part of a block of words -/
theorem putWs (g : Nat) {T : TypeId} (l : Nat → Int) (o len cap : Nat) (K v : Int) (k : Nat) (hK : (o : Int) + K = 4 * (k : Int)) (h0 : 0 ≤ K) (h1 : K + 4 ≤ len) (hl : o + len ≤ 256) (hv : 0 ≤ v) (w : World) (hB : Blk w g T 256 (wz l)) :
    Calls Tryd.prog 88 #[.slice (some ⟨g, o, none⟩) len cap, .int .i64 K, .int .u32 v] w fun e w' => e = .returned (.bool true) ∧ Blk w' g T 256 (wz (upd l k v)) ∧ Only g w w' := by
  have hs : Seg w g o len (fun j => wz l (o + j)) := by have := hB.seg.sub o len hl; rwa [Nat.zero_add] at this
  refine (put32_yes g o len cap K v _ w (by omega) h0 h1 hv hs (hB.soft o len)).mono fun e w' ⟨he, hp⟩ => ⟨he, ?_, hp.only⟩
  rw [show o + K.toNat = 4 * k by omega] at hp
  exact (hB.puts hp).congr fun i _ => wz_put l k v i
theorem upd_same (l : Nat → Int) (k : Nat) (v : Int) (h : l k = v) (j : Nat) : upd l k v j = l j := by
  unfold upd; split
  · subst_vars; rfl
  · rfl

theorem tagPut_any (g : Nat) {T : TypeId} (l : Nat → Int) (k o cap : Nat) (b : Int) (x : Bool) (hb : 0 ≤ b) (ho : o = 4 * (4 + 2 * k)) (hk : k < 30) (h0 : l (5 + 2 * k) = 0) (w : World) (hB : Blk w g T 256 (wz l)) :
    Calls Tryd.prog 131 #[.slice (some ⟨g, o, none⟩) 8 cap, .agg #[.int .u32 b, .bool x]] w fun e w' => e = .returned (.tuple #[]) ∧ Blk w' g T 256 (wz (upd (upd l (4 + 2 * k) b) (5 + 2 * k) (bit x))) ∧ w.grownBy w' (some g) := by
  have hB0 : Hid (Blk (w.alloc (.cells #[.int .u32 b, .bool x] 169)) g T 256 (wz l)) := hB.alloc _
  have hA : Hid (At (w.alloc (.cells #[.int .u32 b, .bool x] 169)) w.heap.size 169 #[.int .u32 b, .bool x]) := At.new _ _ _
  have hg := hB.lt
  clear hB
  have H0 := Lib.hid h0
  clear h0
  have HO := Lib.hid ho
  clear ho
  go_enter Tryd.func131, Tryd.ntmps131
  go_wp2_with fail
  refine (putWs g l o 8 cap 0 b (4 + 2 * k) (by rw [HO.out]; omega) (by decide) (by decide) (by rw [HO.out]; omega) hb _ hB0.out).mono ?_
  rintro e w1 ⟨rfl, hB1, ho1⟩
  have hA1 := hA.out.only ho1 (by omega)
  have hg1 : w.grownBy w1 (some g) := grown_trans (World.grownBy_alloc w _ _) (grown_only ho1)
  have c1 := hA1.cell (i := 1) rfl
  clear hB0 hA ho1 hA1
  cases x with
  | false =>
    go_wp2_with fail
    go_end0
    refine ⟨rfl, hB1.congr fun i hi => wz_congr 64 (fun j _ => (upd_same _ _ _ ?_ j).symm) i hi, hg1⟩
    unfold upd
    rw [if_neg (by omega)]
    exact H0.out
  | true =>
    go_wp2_with fail
    refine (putWs g _ o 8 cap 4 1 (5 + 2 * k) (by rw [HO.out]; omega) (by decide) (by decide) (by rw [HO.out]; omega) (by decide) _ hB1).mono ?_
    rintro e w2 ⟨rfl, hB2, ho2⟩
    have hg2 : w.grownBy w2 (some g) := grown_trans hg1 (grown_only ho2)
    go_wp2_with fail
    go_end0
    exact ⟨rfl, hB2, hg2⟩
end Go.Proofs.YtnbmmhoofilmfaaDoor
