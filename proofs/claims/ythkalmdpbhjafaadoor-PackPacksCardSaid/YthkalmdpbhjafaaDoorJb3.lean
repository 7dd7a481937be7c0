/- Contracts of jblock's escapes and of its reading of heads and commits. -/
import Derived.Test.YthkalmdpbhjafaaDoorJb2
import Derived.Test.YthkalmdpbhjafaaDoorMg1
namespace Go.Proofs.YthkalmdpbhjafaaDoor
open Go.RowKit
set_option linter.unusedVariables false

/-- a word put into any block -/
theorem putZ32 (g : Nat) {T : TypeId} (z : Nat → Int) (k : Nat) (K v : Int) (hK : K = (k : Int)) (hk : k + 4 ≤ 256) (hv : 0 ≤ v) (w : World) (hB : Blk w g T 256 z) :
    Calls Tryd.prog 74 #[.slice (some ⟨g, 0, none⟩) 256 256, .int .i64 K, .int .u32 v] w fun e w' => e = .returned (.bool true) ∧ Blk w' g T 256 (over z k 4 (byteOf v)) ∧ Only g w w' := by
  refine (put32_yes g 0 256 256 K v z w (by omega) (by omega) (by omega) hv hB.seg (hB.soft 0 256)).mono fun e w' ⟨he, hp⟩ => ⟨he, ?_, hp.only⟩
  rw [show 0 + K.toNat = k by omega] at hp
  exact hB.puts hp

set_option maxRecDepth 100000 in
set_option maxHeartbeats 1000000 in
theorem escape_any (z : Nat → Int) (hz : Byt z) (w : World) :
    Calls Tryd.prog 50 #[bval z] w fun e w' => e = .returned (.tuple #[bval (escZ z), .bool (escB z)]) ∧ Below w.heap.size w w' := by
  have hal := zero_block
  have hB : Blk ((w.alloc (.cells (Ks .u8 256 z).toArray 40)).alloc (.cells (Ks .u8 256 (fun _ => 0)).toArray 40)) w.heap.size 40 256 z := (Blk.new _ _ _ _).alloc _
  have hR : Blk ((w.alloc (.cells (Ks .u8 256 z).toArray 40)).alloc (.cells (Ks .u8 256 (fun _ => 0)).toArray 40)) (w.heap.size + 1) 40 256 (fun _ => 0) := by
    have := Blk.new (w.alloc (.cells (Ks .u8 256 z).toArray 40)) 40 256 (fun _ => 0)
    simp only [World.size_alloc] at this
    exact this
  have hL : Below w.heap.size w ((w.alloc (.cells (Ks .u8 256 z).toArray 40)).alloc (.cells (Ks .u8 256 (fun _ => 0)).toArray 40)) := ((Below.refl _ _).alloc (Nat.le_refl _) _).alloc (by simp) _
  have HB := Lib.hid hB
  have HR := Lib.hid hR
  have HL := Lib.hid hL
  clear hB hR hL
  go_enter Tryd.func50, Tryd.ntmps50
  go_wp2_with fail
  refine ((numW w.heap.size z hz 0 0 rfl (by omega) _ HB.out).mono (R' := fun e w' => e = .returned (.int .u32 (wd z 0)) ∧ Blk w' w.heap.size 40 256 z ∧ Blk w' (w.heap.size + 1) 40 256 (fun _ => 0) ∧ Below w.heap.size w w') (fun e w' h => ⟨h.1, h.2 ▸ HB.out, h.2 ▸ HR.out, h.2 ▸ HL.out⟩)).mono ?_
  rintro e w1 ⟨rfl, hB, hR, hL⟩
  clear HB HR HL hal
  by_cases h0 : wd z 0 = 1280199249
  rotate_left
  · have q : (wd z 0 != 1280199249) = true := by simpa using h0
    have HK : Hid (escB z = false) := by show _ = _; unfold escB; simp [h0]
    clear h0
    go_wp2_with (first | (refine wp_loadBlk rfl (.tmp 1) rfl w.heap.size z rfl hB ?_) | (refine wp_storeBlk rfl (.tmp 2) (.tmp 6) rfl (w.heap.size + 1) z _ rfl rfl hR ?_))
    intro w2 hR2 ho2
    go_wp2_with fail
    exact bodyPost_ret (results_blk2 rfl _ _ (w.heap.size + 1) _ rfl hR2) rfl ⟨by rw [escZ, HK.out]; rfl, hL.trans (ho2.below (by omega))⟩
  have q : (wd z 0 != 1280199249) = false := by simpa using h0
  have HK : Hid (escB z = true) := by show _ = _; unfold escB; simp [h0]
  clear h0
  have hsa := fun W => run_sliceBlkAll w.heap.size 0 W
  go_wp2_with fail
  refine (putZ32 w.heap.size z 0 0 0 rfl (by omega) (by decide) _ hB).mono ?_
  rintro e w2 ⟨rfl, hB2, ho2⟩
  have hR2 := hR.only ho2 (by omega)
  have hL2 : Below w.heap.size w w2 := hL.trans (ho2.below (Nat.le_refl _))
  clear hB hR hL ho2 q hsa
  go_wp2_with (first | (refine wp_loadBlk rfl (.tmp 1) rfl w.heap.size (over z 0 4 (byteOf 0)) rfl hB2 ?_) | (refine wp_storeBlk rfl (.tmp 2) (.tmp 9) rfl (w.heap.size + 1) (over z 0 4 (byteOf 0)) _ rfl rfl hR2 ?_))
  intro w3 hR3 ho3
  go_wp2_with fail
  exact bodyPost_ret (results_blk2 rfl _ _ (w.heap.size + 1) _ rfl hR3) rfl ⟨by rw [escZ, HK.out]; rfl, hL2.trans (ho3.below (by omega))⟩

set_option maxRecDepth 100000 in
set_option maxHeartbeats 1000000 in
theorem unescape_any (z : Nat → Int) (hz : Byt z) (w : World) :
    Calls Tryd.prog 57 #[bval z] w fun e w' => e = .returned (bval (unescZ z)) ∧ Below w.heap.size w w' := by
  have hal := zero_block
  have hB : Blk ((w.alloc (.cells (Ks .u8 256 z).toArray 40)).alloc (.cells (Ks .u8 256 (fun _ => 0)).toArray 40)) w.heap.size 40 256 z := (Blk.new _ _ _ _).alloc _
  have hR : Blk ((w.alloc (.cells (Ks .u8 256 z).toArray 40)).alloc (.cells (Ks .u8 256 (fun _ => 0)).toArray 40)) (w.heap.size + 1) 40 256 (fun _ => 0) := by
    have := Blk.new (w.alloc (.cells (Ks .u8 256 z).toArray 40)) 40 256 (fun _ => 0)
    simp only [World.size_alloc] at this
    exact this
  have hL : Below w.heap.size w ((w.alloc (.cells (Ks .u8 256 z).toArray 40)).alloc (.cells (Ks .u8 256 (fun _ => 0)).toArray 40)) := ((Below.refl _ _).alloc (Nat.le_refl _) _).alloc (by simp) _
  have HB := Lib.hid hB
  have HR := Lib.hid hR
  have HL := Lib.hid hL
  clear hB hR hL
  have hsa := fun W => run_sliceBlkAll w.heap.size 0 W
  go_enter Tryd.func57, Tryd.ntmps57
  go_wp2_with fail
  refine (putZ32 w.heap.size z 0 0 1280199249 rfl (by omega) (by decide) _ HB.out).mono ?_
  rintro e w2 ⟨rfl, hB2, ho2⟩
  have hR2 := HR.out.only ho2 (by omega)
  have hL2 : Below w.heap.size w w2 := HL.out.trans (ho2.below (Nat.le_refl _))
  clear HB HR HL ho2 hsa hal
  go_wp2_with (first | (refine wp_loadBlk rfl (.tmp 1) rfl w.heap.size (over z 0 4 (byteOf 1280199249)) rfl hB2 ?_) | (refine wp_storeBlk rfl (.tmp 2) (.tmp 5) rfl (w.heap.size + 1) (over z 0 4 (byteOf 1280199249)) _ rfl rfl hR2 ?_))
  intro w3 hR3 ho3
  go_wp2_with fail
  exact bodyPost_ret (results_blk rfl _ _ (w.heap.size + 1) _ rfl hR3) rfl ⟨rfl, hL2.trans (ho3.below (by omega))⟩

/-- what a commit block tells -/
def commitV (z : Nat → Int) : Value := if commitRd z then .tuple #[.int .u32 (seqOf z), .int .i64 (wd z 3), .int .u32 (wd z 4), .int .i64 0] else .tuple #[.int .u32 0, .int .i64 0, .int .u32 0, .int .i64 90]
set_option maxRecDepth 100000 in
set_option maxHeartbeats 2000000 in
theorem readCommit_any (z : Nat → Int) (hz : Byt z) (w : World) :
    Calls Tryd.prog 43 #[bval z] w fun e w' => e = .returned (commitV z) ∧ Below w.heap.size w w' := by
  have hB := Blk.new w 40 256 z
  have hL : Below w.heap.size w (w.alloc (.cells (Ks .u8 256 z).toArray 40)) := (Below.refl _ _).alloc (Nat.le_refl _) _
  obtain ⟨hw30, hw31⟩ := wd_wds hz 3
  go_enter Tryd.func43, Tryd.ntmps43
  go_wp2_with (first | (refine wp_loadBlk rfl (.tmp 1) rfl w.heap.size z rfl hB ?_))
  refine (kind_any z hz _).mono ?_
  rintro e w1 ⟨rfl, hb1⟩
  have hB1 := hB.below hb1 hB.lt
  have hL1 : Below w.heap.size w w1 := hL.trans (hb1.mono hL.size)
  clear hB hL hb1
  go_wp2_with fail
  refine (numW w.heap.size z hz 3 12 rfl (by omega) _ hB1).mono ?_
  rintro e w2 ⟨rfl, rfl⟩
  have no : commitRd z = false → Hid (Ending.returned (.tuple #[.int .u32 0, .int .i64 0, .int .u32 0, .int .i64 90]) = Ending.returned (if commitRd z then .tuple #[.int .u32 (seqOf z), .int .i64 (wd z 3), .int .u32 (wd z 4), .int .i64 0] else .tuple #[.int .u32 0, .int .i64 0, .int .u32 0, .int .i64 90])) := fun h => by show _ = _; rw [h]; rfl
  have NO := Lib.hid no
  clear no
  by_cases hk : kindOf z = 2
  rotate_left
  · have q : (kindOf z != 2) = true := by simpa using hk
    have HN := NO.out (by unfold commitRd; simp [hk])
    clear hk NO
    generalize kindOf z = k at q ⊢
    go_wp2_with fail
    exact bodyPost_ret (v := .tuple #[.int .u32 0, .int .i64 0, .int .u32 0, .int .i64 90]) (by simp [results, Tryd.results43, go_sem]) rfl ⟨HN.out, hL1⟩
  have HK := Lib.hid hk
  rw [hk]
  clear hk
  by_cases h1 : 1 ≤ wd z 3
  rotate_left
  · have HN := NO.out (by unfold commitRd; simp [h1])
    clear NO
    go_wp2_with fail
    exact bodyPost_ret (v := .tuple #[.int .u32 0, .int .i64 0, .int .u32 0, .int .i64 90]) (by simp [results, Tryd.results43, go_sem]) rfl ⟨HN.out, hL1⟩
  by_cases h2 : wd z 3 ≤ 256
  rotate_left
  · have HN := NO.out (by unfold commitRd; simp [h2])
    clear NO
    go_wp2_with fail
    exact bodyPost_ret (v := .tuple #[.int .u32 0, .int .i64 0, .int .u32 0, .int .i64 90]) (by simp [results, Tryd.results43, go_sem]) rfl ⟨HN.out, hL1⟩
  have hsl := fun W => run_sliceBlkFrom w.heap.size 20 20 rfl (by omega) W
  have hrow : Hid (Row w1 (some ⟨w.heap.size, 20, none⟩) (256 - 20) (fun j => z (20 + j))) := .inr ⟨_, _, rfl, by have := hB1.seg.sub 20 236 (by omega); rwa [Nat.zero_add] at this⟩
  go_wp2_with fail
  refine (zero_any _ _ _ _ _ (by omega) (by exact hrow.out)).mono ?_
  rintro e w3 ⟨rfl, rfl⟩
  clear hsl hrow
  have HZ : Hid (allZ (fun j => z (20 + j)) (256 - 20) = allZ (fun j => wd z (5 + j)) 59) := allZ_wd hz 5 59
  rw [HZ.out]
  by_cases hzz : allZ (fun j => wd z (5 + j)) 59 = true
  rotate_left
  · rw [Bool.not_eq_true] at hzz
    have HN := NO.out (by unfold commitRd; rw [hzz]; simp)
    rw [hzz]
    clear NO hzz
    go_wp2_with fail
    exact bodyPost_ret (v := .tuple #[.int .u32 0, .int .i64 0, .int .u32 0, .int .i64 90]) (by simp [results, Tryd.results43, go_sem]) rfl ⟨HN.out, hL1⟩
  have HY : Hid (commitRd z = true) := by show _ = _; unfold commitRd; rw [HK.out, hzz]; simp [h1, h2]
  rw [hzz]
  clear hzz NO
  go_wp2_with fail
  refine (numW w.heap.size z hz 4 16 rfl (by omega) _ hB1).mono ?_
  rintro e w4 ⟨rfl, rfl⟩
  go_wp2_with fail
  exact bodyPost_ret (v := .tuple #[.int .u32 (seqOf z), .int .i64 (wd z 3), .int .u32 (wd z 4), .int .i64 0]) (by simp [results, Tryd.results43, go_sem]) rfl ⟨by rw [commitV, HY.out]; rfl, hL1⟩
end Go.Proofs.YthkalmdpbhjafaaDoor
