/- Contracts of quernref09.WriteHead and WriteCommit. -/
import Derived.Test.YthkalmdpbhjafaaDoorR9a
namespace Go.Proofs.YthkalmdpbhjafaaDoor
open Go.RowKit
set_option linter.unusedVariables false

theorem run_nums4 (a b c d : Int) (w : World) : (Instr.buildSlice 70 4 #[(0, .int .u32 a), (1, .int .u32 b), (2, .int .u32 c), (3, .int .u32 d)]).run Tryd.prog w = .ok (.slice (some ⟨w.heap.size, 0, none⟩) 4 4) (w.alloc (.cells #[.int .u32 a, .int .u32 b, .int .u32 c, .int .u32 d] 22)) := by kernel_rfl
theorem run_nums5 (a b c d f : Int) (w : World) : (Instr.buildSlice 70 5 #[(0, .int .u32 a), (1, .int .u32 b), (2, .int .u32 c), (3, .int .u32 d), (4, .int .u32 f)]).run Tryd.prog w = .ok (.slice (some ⟨w.heap.size, 0, none⟩) 5 5) (w.alloc (.cells #[.int .u32 a, .int .u32 b, .int .u32 c, .int .u32 d, .int .u32 f] 22)) := by kernel_rfl
theorem nums4 (w : World) (k s f : Int) (r : Nat → Int) : NumRow (w.alloc (.cells #[.int .u32 1280199249, .int .u32 k, .int .u32 s, .int .u32 f] 22)) (some ⟨w.heap.size, 0, none⟩) 4 (jw k s f r) := by
  refine .inr ⟨_, _, rfl, fun i hi => ?_⟩
  have h := heap_alloc_new w (.cells #[.int .u32 1280199249, .int .u32 k, .int .u32 s, .int .u32 f] 22)
  obtain rfl | rfl | rfl | rfl : i = 0 ∨ i = 1 ∨ i = 2 ∨ i = 3 := by omega
  all_goals exact cell_of_heap h rfl
theorem nums5 (w : World) (k s f v : Int) : NumRow (w.alloc (.cells #[.int .u32 1280199249, .int .u32 k, .int .u32 s, .int .u32 f, .int .u32 v] 22)) (some ⟨w.heap.size, 0, none⟩) 5 (jw k s f (sumR v)) := by
  refine .inr ⟨_, _, rfl, fun i hi => ?_⟩
  have h := heap_alloc_new w (.cells #[.int .u32 1280199249, .int .u32 k, .int .u32 s, .int .u32 f, .int .u32 v] 22)
  obtain rfl | rfl | rfl | rfl | rfl : i = 0 ∨ i = 1 ∨ i = 2 ∨ i = 3 ∨ i = 4 := by omega
  all_goals exact cell_of_heap h rfl
theorem wz_numR {m l : Nat → Int} {n : Nat} (h : ∀ k, k < 64 → (if k < n then m k else 0) = l k) : bval (wz (numR m n)) = bval (wz l) := bval_congr fun i hi => wz_congr 64 h i hi
theorem nz_wds' : Wds nz := fun _ => by unfold nz; decide
theorem sumR_wds' {v : Int} (hv : 0 ≤ v ∧ v < 4294967296) : Wds (sumR v) := fun k => by unfold sumR; split <;> omega

set_option maxRecDepth 100000 in
set_option maxHeartbeats 1000000 in
theorem rWriteCommit_any (s n v : Int) (w : World) (hs : 0 ≤ s ∧ s < 4294967296) (hn : -9223372036854775808 ≤ n ∧ n ≤ 9223372036854775807) (hv : 0 ≤ v ∧ v < 4294967296) :
    Calls Tryd.prog 29 #[.int .u32 s, .int .i64 n, .int .u32 v] w fun e w' => e = .returned (.tuple #[bval (commitZ s n v), .int .i64 (errOf (commitOk s n) 2)]) ∧ Below w.heap.size w w' := by
  obtain ⟨hs0, hs1⟩ := hs
  obtain ⟨hn0, hn1⟩ := hn
  have hal := zero_block
  have hR0 : Hid (Blk (w.alloc (.cells (Ks .u8 256 (fun _ => 0)).toArray 40)) w.heap.size 40 256 (fun _ => 0)) := Blk.new _ _ _ _
  have hL0 : Hid (Below w.heap.size w (w.alloc (.cells (Ks .u8 256 (fun _ => 0)).toArray 40))) := (Below.refl _ _).alloc (Nat.le_refl _) _
  go_enter Tryd.func29, Tryd.ntmps29
  go_wp2_with fail
  refine ((rSeq_any s _).mono (R' := fun e w' => e = .returned (.bool (seqB s)) ∧ Blk w' w.heap.size 40 256 (fun _ => 0) ∧ Below w.heap.size w w') (fun e w' h => ⟨h.1, h.2 ▸ hR0.out, h.2 ▸ hL0.out⟩)).mono ?_
  rintro e W ⟨rfl, hR, hL⟩
  clear hR0 hL0
  by_cases hq : seqB s = true
  rotate_left
  · rw [Bool.not_eq_true] at hq
    have HO : Hid (commitOk s n = false) := by show _ = _; unfold commitOk; rw [hq]; rfl
    rw [hq]
    clear hq
    go_wp2_with (first | (refine wp_storeBlk rfl (.tmp 6) (.tmp 19) rfl w.heap.size (fun _ => 0) _ rfl rfl hR ?_))
    intro w2 hR2 ho2
    go_wp2_with fail
    exact bodyPost_ret (results_blk2 rfl _ _ w.heap.size _ rfl hR2) rfl ⟨by rw [commitZ, HO.out]; rfl, hL.trans (ho2.below (by omega))⟩
  by_cases h1 : 1 ≤ n
  rotate_left
  · have HO : Hid (commitOk s n = false) := by show _ = _; unfold commitOk; simp [h1]
    rw [hq]
    clear hq
    go_wp2_with (first | (refine wp_storeBlk rfl (.tmp 6) (.tmp 19) rfl w.heap.size (fun _ => 0) _ rfl rfl hR ?_))
    intro w2 hR2 ho2
    go_wp2_with fail
    exact bodyPost_ret (results_blk2 rfl _ _ w.heap.size _ rfl hR2) rfl ⟨by rw [commitZ, HO.out]; rfl, hL.trans (ho2.below (by omega))⟩
  by_cases h2 : n ≤ 256
  rotate_left
  · have HO : Hid (commitOk s n = false) := by show _ = _; unfold commitOk; simp [h2]
    rw [hq]
    clear hq
    go_wp2_with (first | (refine wp_storeBlk rfl (.tmp 6) (.tmp 19) rfl w.heap.size (fun _ => 0) _ rfl rfl hR ?_))
    intro w2 hR2 ho2
    go_wp2_with fail
    exact bodyPost_ret (results_blk2 rfl _ _ w.heap.size _ rfl hR2) rfl ⟨by rw [commitZ, HO.out]; rfl, hL.trans (ho2.below (by omega))⟩
  have HO : Hid (commitOk s n = true) := by show _ = _; unfold commitOk; rw [hq]; simp [h1, h2]
  rw [hq]
  clear hq
  have hbs := run_nums5
  have hrow := nums5 W 2 s n v
  have HROW := Lib.hid hrow
  clear hrow
  go_wp2_with fail
  refine (rblock_any _ 5 5 (jw 2 s n (sumR v)) (jw_wds (by decide) (by omega) (by omega) (sumR_wds' hv)) (by decide) _ HROW.out).mono ?_
  rintro e w2 ⟨rfl, hb2⟩
  rw [wz_numR (l := jw 2 s n (sumR v)) (fun k _ => by
    split
    · rfl
    · unfold jw sumR; rw [if_neg (by omega), if_neg (by omega), if_neg (by omega), if_neg (by omega), if_neg (by omega)])]
  have hR2 := (hR.alloc _).below hb2 (hR.alloc _).lt
  have hL2 : Below w.heap.size w w2 := (hL.alloc hL.size _).trans (hb2.mono (hL.alloc hL.size _).size)
  clear hR hL hb2 hbs HROW
  go_wp2_with (first | (refine wp_storeBlk rfl (.tmp 6) (.tmp 25) rfl w.heap.size (wz (jw 2 s n (sumR v))) _ rfl rfl hR2 ?_))
  intro w3 hR3 ho3
  go_wp2_with fail
  exact bodyPost_ret (results_blk2 rfl _ _ w.heap.size _ rfl hR3) rfl ⟨by rw [commitZ, HO.out]; rfl, hL2.trans (ho3.below (by omega))⟩
end Go.Proofs.YthkalmdpbhjafaaDoor
