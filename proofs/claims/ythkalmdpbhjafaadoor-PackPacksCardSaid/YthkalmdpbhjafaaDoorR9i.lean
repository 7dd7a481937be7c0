/- The contract of quernref09.ReadCommit. -/
import Derived.Test.YthkalmdpbhjafaaDoorR9h
namespace Go.Proofs.YthkalmdpbhjafaaDoor
open Go.RowKit
set_option linter.unusedVariables false

theorem commitV_no {z : Nat → Int} (h : commitRd z = false) : commitV z = .tuple #[.int .u32 0, .int .i64 0, .int .u32 0, .int .i64 90] := by unfold commitV; rw [h]; rfl

set_option maxRecDepth 100000 in
set_option maxHeartbeats 1000000 in
theorem rReadCommit_any (z : Nat → Int) (hz : Byt z) (w : World) :
    Calls Tryd.prog 39 #[bval z] w fun e w' => e = .returned (commitV z) ∧ Below w.heap.size w w' := by
  have hB := Blk.new w 40 256 z
  have hL : Below w.heap.size w (w.alloc (.cells (Ks .u8 256 z).toArray 40)) := (Below.refl _ _).alloc (Nat.le_refl _) _
  obtain ⟨hw30, hw31⟩ := wd_wds hz 3
  go_enter Tryd.func39, Tryd.ntmps39
  go_wp2_with (first | (refine wp_loadBlkG rfl (.tmp 1) rfl w.heap.size z rfl hB ?_))
  refine (rat_any z hz 3 12 rfl (by omega) _).mono ?_
  rintro e w1 ⟨rfl, hb1⟩
  have hB1 := hB.below hb1 hB.lt
  have hL1 : Below w.heap.size w w1 := hL.trans (hb1.mono hL.size)
  clear hB hL hb1
  go_wp2_with (first | (refine wp_loadBlkG rfl (.tmp 1) rfl w.heap.size z rfl hB1 ?_))
  refine (rbegins_any z hz 2 _).mono ?_
  rintro e w2 ⟨rfl, hb2⟩
  rw [beginsB_iff z 2 (by omega) (by omega)]
  have hB2 := hB1.below hb2 hB1.lt
  have hL2 : Below w.heap.size w w2 := hL1.trans (hb2.mono hL1.size)
  clear hB1 hL1 hb2
  cases hk : (kindOf z == 2) with
  | false =>
    have HN : Hid (commitRd z = false) := by show _ = _; unfold commitRd; rw [hk]; rfl
    clear hk
    go_wp2_with fail
    exact bodyPost_ret (v := .tuple #[.int .u32 0, .int .i64 0, .int .u32 0, .int .i64 90]) (by simp [results, Tryd.results39, go_sem]) rfl ⟨by rw [commitV_no HN.out], hL2⟩
  | true =>
    have HK := Lib.hid hk
    clear hk
    by_cases h1 : 1 ≤ wd z 3
    rotate_left
    · have HN : Hid (commitRd z = false) := by show _ = _; unfold commitRd; simp [h1]
      go_wp2_with fail
      exact bodyPost_ret (v := .tuple #[.int .u32 0, .int .i64 0, .int .u32 0, .int .i64 90]) (by simp [results, Tryd.results39, go_sem]) rfl ⟨by rw [commitV_no HN.out], hL2⟩
    by_cases h2 : wd z 3 ≤ 256
    rotate_left
    · have HN : Hid (commitRd z = false) := by show _ = _; unfold commitRd; simp [h2]
      go_wp2_with fail
      exact bodyPost_ret (v := .tuple #[.int .u32 0, .int .i64 0, .int .u32 0, .int .i64 90]) (by simp [results, Tryd.results39, go_sem]) rfl ⟨by rw [commitV_no HN.out], hL2⟩
    have hsl := fun W => run_sliceBlkFrom w.heap.size 20 20 rfl (by omega) W
    have hrow : Hid (Row w2 (some ⟨w.heap.size, 20, none⟩) (256 - 20) (fun j => z (20 + j))) := .inr ⟨_, _, rfl, by have := hB2.seg.sub 20 236 (by omega); rwa [Nat.zero_add] at this⟩
    go_wp2_with fail
    refine (rzero_any _ _ _ _ _ (by omega) (by exact hrow.out)).mono ?_
    rintro e w3 ⟨rfl, rfl⟩
    clear hsl hrow
    have HZ : Hid (allZ (fun j => z (20 + j)) (256 - 20) = allZ (fun j => wd z (5 + j)) 59) := allZ_wd hz 5 59
    rw [HZ.out]
    by_cases hzz : allZ (fun j => wd z (5 + j)) 59 = true
    rotate_left
    · rw [Bool.not_eq_true] at hzz
      have HN : Hid (commitRd z = false) := by show _ = _; unfold commitRd; rw [hzz]; simp
      rw [hzz]
      clear hzz
      go_wp2_with fail
      exact bodyPost_ret (v := .tuple #[.int .u32 0, .int .i64 0, .int .u32 0, .int .i64 90]) (by simp [results, Tryd.results39, go_sem]) rfl ⟨by rw [commitV_no HN.out], hL2⟩
    have HY : Hid (commitRd z = true) := by show _ = _; unfold commitRd; rw [HK.out, hzz]; simp [h1, h2]
    have HS : Hid (seqOf z = wd z 2) := by
      have hk : kindOf z = 2 := by simpa using HK.out
      rcases kind_rng z with h | h
      · omega
      · exact h.2.2
    rw [hzz]
    clear hzz
    go_wp2_with fail
    have hkeep : Hid (∀ W W', RkSt w z W → Below W.heap.size W W' → RkSt w z W') := fun W W' h hb => ⟨h.b.below hb h.b.lt, h.bel.trans (hb.mono h.bel.size)⟩
    refine wp_region_S (RkSt w z) (by kernel_rfl) (by kernel_rfl) ⟨hB2, hL2.drew⟩ ?_
    clear hB2 hL2
    intro hne
    refine q_load rfl 40 (.tmp 1) rfl _ _ rfl (Ks .u8 256 z) _ (fun W h => h.b.range) Tryd.underlying40 rfl (by rw [Ks_length]; exact info_block) ?_
    refine wpQuiet_frame (by simp only [Act.put, List.setIfInBounds_toArray, List.set_cons_succ, List.set_cons_zero]; exact rfl) ?_
    go_big_quiet_want
    go_big_quiet_op
    refine ⟨_, fun s => q_call s (fun W hW => (rat_any z hz 2 8 rfl (by omega) W).mono fun e w' h => ⟨h.1, hkeep.out W w' hW h.2⟩), ?_⟩
    go_big_quiet_on
    first | go_big_quiet_skip | (go_big_quiet_want; go_big_quiet_op; go_big_quiet_on)
    first | go_big_quiet_skip | (go_big_quiet_want; go_big_quiet_op; go_big_quiet_on)
    refine q_load rfl 40 (.tmp 1) rfl _ _ rfl (Ks .u8 256 z) _ (fun W h => h.b.range) Tryd.underlying40 rfl (by rw [Ks_length]; exact info_block) ?_
    refine wpQuiet_frame (by simp only [Act.put, List.setIfInBounds_toArray, List.set_cons_succ, List.set_cons_zero]; exact rfl) ?_
    go_big_quiet_want
    go_big_quiet_op
    refine ⟨_, fun s => q_call s (fun W hW => (rat_any z hz 4 16 rfl (by omega) W).mono fun e w' h => ⟨h.1, hkeep.out W w' hW h.2⟩), ?_⟩
    go_big_quiet_on
    repeat (first | go_big_quiet_skip | (go_big_quiet_want; go_big_quiet_op; go_big_quiet_on))
    refine wpQuiet_nil ?_
    intro w5 h5
    have hL5 : Below w.heap.size w w5 := h5.out.bel
    clear h5 hne
    go_wp2_with fail
    exact bodyPost_ret (v := .tuple #[.int .u32 (wd z 2), .int .i64 (wd z 3), .int .u32 (wd z 4), .int .i64 0]) (by simp [results, Tryd.results39, go_sem]) rfl ⟨by rw [commitV, HY.out, HS.out]; rfl, hL5⟩
end Go.Proofs.YthkalmdpbhjafaaDoor
