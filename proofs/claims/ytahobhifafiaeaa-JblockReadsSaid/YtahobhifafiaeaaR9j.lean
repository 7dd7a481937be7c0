/- Contracts of quernref09.ReadHead and Escape. -/
import Derived.Test.YtahobhifafiaeaaR9i
import Derived.Test.YtahobhifafiaeaaStore
namespace Go.Proofs.Ytahobhifafiaeaa
open Go.RowKit
set_option linter.unusedVariables false

structure RhSt (w : World) (z : Nat → Int) (W : World) : Prop where
  b : Blk W w.heap.size 28 256 z
  r : At W (w.heap.size + 1) 24 #[.int .u32 0, .int .i64 0]
  bel : Below w.heap.size w W
theorem RhSt.below {w W W' : World} {z : Nat → Int} (h : RhSt w z W) (hb : Below W.heap.size W W') : RhSt w z W' := ⟨h.b.below hb h.b.lt, h.r.below hb h.r.lt, h.bel.trans (hb.mono h.bel.size)⟩

set_option maxRecDepth 100000 in
set_option maxHeartbeats 1000000 in
theorem rReadHead_any (z : Nat → Int) (hz : Byt z) (w : World) :
    Calls Try.prog 27 #[bval z] w fun e w' => e = .returned (.tuple #[.agg #[.int .u32 (hdS z), .int .i64 (hdT z)], .int .i64 (errOf (headRd z) 90)]) ∧ Below w.heap.size w w' := by
  have hal := zero_head
  have ST0 : Hid (RhSt w z ((w.alloc (.cells (Ks .u8 256 z).toArray 28)).alloc (.cells #[.int .u32 0, .int .i64 0] 24))) := ⟨(Blk.new _ _ _ _).alloc _, by
    have := At.new (w.alloc (.cells (Ks .u8 256 z).toArray 28)) 24 #[.int .u32 0, .int .i64 0]
    simp only [World.size_alloc] at this
    exact this, ((Below.refl _ _).alloc (Nat.le_refl _) _).alloc (by simp) _⟩
  obtain ⟨hw30, hw31⟩ := wd_wds hz 3
  have hB := ST0.out.b
  go_enter Try.func27, Try.ntmps27
  go_wp2_with (first | (refine wp_loadBlkG rfl (.tmp 1) rfl w.heap.size z rfl hB ?_))
  refine (rbegins_any z hz 4 _).mono ?_
  rintro e w1 ⟨rfl, hb1⟩
  rw [beginsB_iff z 4 (by omega) (by omega)]
  have st1 := ST0.out.below hb1
  clear hB ST0 hb1
  by_cases hk : kindOf z = 4
  rotate_left
  · have q : (kindOf z == 4) = false := by simpa using hk
    have HN : Hid (headRd z = false) := by show _ = _; unfold headRd; simp [hk]
    clear hk
    have hR1 := st1.r
    rw [q]
    go_wp2_with (first | (refine wp_storeAt rfl 24 _ _ rfl _ _ _ rfl rfl hR1 (info_head _ _) rfl (one_head _ _) ?_))
    intro w3 hR3 ho3
    go_wp2_with fail
    exact bodyPost_ret (results_head rfl _ _ (w.heap.size + 1) 0 0 rfl hR3) rfl ⟨by rw [hdS, hdT, HN.out]; rfl, st1.bel.trans (ho3.below (by omega))⟩
  have HK := Lib.hid hk
  rw [hk]
  clear hk
  have hB1 := st1.b
  go_wp2_with (first | (refine wp_loadBlkG rfl _ rfl _ _ rfl hB1 ?_))
  refine (rat_any z hz 3 12 rfl (by omega) _).mono ?_
  rintro e w2 ⟨rfl, hb2⟩
  have st2 := st1.below hb2
  clear st1 hb2 hB1
  by_cases h2 : wd z 3 ≤ 255
  rotate_left
  · have HN : Hid (headRd z = false) := by show _ = _; unfold headRd; simp [h2]
    have hR1 := st2.r
    skip
    go_wp2_with (first | (refine wp_storeAt rfl 24 _ _ rfl _ _ _ rfl rfl hR1 (info_head _ _) rfl (one_head _ _) ?_))
    intro w3 hR3 ho3
    go_wp2_with fail
    exact bodyPost_ret (results_head rfl _ _ (w.heap.size + 1) 0 0 rfl hR3) rfl ⟨by rw [hdS, hdT, HN.out]; rfl, st2.bel.trans (ho3.below (by omega))⟩
  have hsl := fun W => run_sliceBlkFrom w.heap.size 16 16 rfl (by omega) W
  have hrow : Hid (Row w2 (some ⟨w.heap.size, 16, none⟩) (256 - 16) (fun j => z (16 + j))) := .inr ⟨_, _, rfl, by have := st2.b.seg.sub 16 240 (by omega); rwa [Nat.zero_add] at this⟩
  go_wp2_with fail
  refine (rzero_any _ _ _ _ _ (by omega) (by exact hrow.out)).mono ?_
  rintro e w3 ⟨rfl, rfl⟩
  clear hsl hrow
  have HZ : Hid (allZ (fun j => z (16 + j)) (256 - 16) = allZ (fun j => wd z (4 + j)) 60) := allZ_wd hz 4 60
  rw [HZ.out]
  by_cases hzz : allZ (fun j => wd z (4 + j)) 60 = true
  rotate_left
  · rw [Bool.not_eq_true] at hzz
    have HN : Hid (headRd z = false) := by show _ = _; unfold headRd; rw [hzz]; simp
    have hR1 := st2.r
    rw [hzz]; clear hzz
    go_wp2_with (first | (refine wp_storeAt rfl 24 _ _ rfl _ _ _ rfl rfl hR1 (info_head _ _) rfl (one_head _ _) ?_))
    intro w3 hR3 ho3
    go_wp2_with fail
    exact bodyPost_ret (results_head rfl _ _ (w.heap.size + 1) 0 0 rfl hR3) rfl ⟨by rw [hdS, hdT, HN.out]; rfl, st2.bel.trans (ho3.below (by omega))⟩
  have HY : Hid (headRd z = true) := by show _ = _; unfold headRd; rw [HK.out, hzz]; simp [h2]
  have HS : Hid (seqOf z = wd z 2) := by
    rcases kind_rng z with h | h
    · have := HK.out; omega
    · exact h.2.2
  rw [hzz]
  clear hzz
  go_wp2_with fail
  have hkeep : Hid (∀ W W', RhSt w z W → Below W.heap.size W W' → RhSt w z W') := fun W W' h hb => h.below hb
  refine wp_region_bar (RhSt w z) 6 (by kernel_rfl) (by kernel_rfl) (by kernel_rfl) (by kernel_rfl) (by kernel_rfl) (by decide) ⟨st2.b, st2.r, st2.bel.drew⟩ ?_
  simp only [List.take_succ_cons, List.take_zero, List.drop_succ_cons, List.drop_zero]
  clear st2
  intro hne
  refine q_load rfl 28 _ rfl _ _ rfl (Ks .u8 256 z) _ (fun W h => h.b.range) Try.underlying28 rfl (by rw [Ks_length]; exact info_block) ?_
  refine wpQuiet_frame (by simp only [Act.put, List.setIfInBounds_toArray, List.set_cons_succ, List.set_cons_zero]; exact rfl) ?_
  go_big_quiet_want
  go_big_quiet_op
  refine ⟨_, fun s => q_call s (fun W hW => (rat_any z hz 2 8 rfl (by omega) W).mono fun e w' h => ⟨h.1, hkeep.out W w' hW h.2⟩), ?_⟩
  go_big_quiet_on
  refine q_load rfl 28 _ rfl _ _ rfl (Ks .u8 256 z) _ (fun W h => h.b.range) Try.underlying28 rfl (by rw [Ks_length]; exact info_block) ?_
  refine wpQuiet_frame (by simp only [Act.put, List.setIfInBounds_toArray, List.set_cons_succ, List.set_cons_zero]; exact rfl) ?_
  go_big_quiet_want
  go_big_quiet_op
  refine ⟨_, fun s => q_call s (fun W hW => (rat_any z hz 3 12 rfl (by omega) W).mono fun e w' h => ⟨h.1, hkeep.out W w' hW h.2⟩), ?_⟩
  go_big_quiet_on
  repeat (first | go_big_quiet_skip | (go_big_quiet_want; go_big_quiet_op; go_big_quiet_on))
  refine wpQuiet_nil ?_
  intro w5 h5
  have st5 := h5.out
  clear h5 hne
  have hR5 := st5.r
  go_wp2_with (first | (refine wp_storeAt rfl 24 _ _ rfl _ _ _ rfl rfl hR5 (info_head _ _) rfl (one_head _ _) ?_))
  intro w6 hR6 ho6
  go_wp2_with fail
  exact bodyPost_ret (results_head rfl _ _ (w.heap.size + 1) (wd z 2) (wd z 3) rfl hR6) rfl ⟨by rw [hdS, hdT, HY.out, HS.out]; rfl, st5.bel.trans (ho6.below (by omega))⟩

structure ReSt (w : World) (z : Nat → Int) (W : World) : Prop where
  b : Blk W w.heap.size 28 256 z
  r : Blk W (w.heap.size + 1) 28 256 (fun _ => 0)
  bel : Below w.heap.size w W
theorem ReSt.below {w W W' : World} {z : Nat → Int} (h : ReSt w z W) (hb : Below W.heap.size W W') : ReSt w z W' := ⟨h.b.below hb h.b.lt, h.r.below hb h.r.lt, h.bel.trans (hb.mono h.bel.size)⟩

set_option maxRecDepth 100000 in
set_option maxHeartbeats 1000000 in
theorem rEscape_any (z : Nat → Int) (hz : Byt z) (w : World) :
    Calls Try.prog 34 #[bval z] w fun e w' => e = .returned (.tuple #[bval (escZ z), .bool (escB z)]) ∧ Below w.heap.size w w' := by
  have hal := zero_block
  have ST0 : Hid (ReSt w z ((w.alloc (.cells (Ks .u8 256 z).toArray 28)).alloc (.cells (Ks .u8 256 (fun _ => 0)).toArray 28))) := ⟨(Blk.new _ _ _ _).alloc _, by
    have := Blk.new (w.alloc (.cells (Ks .u8 256 z).toArray 28)) 28 256 (fun _ => 0)
    simp only [World.size_alloc] at this
    exact this, ((Below.refl _ _).alloc (Nat.le_refl _) _).alloc (by simp) _⟩
  have hB := ST0.out.b
  go_enter Try.func34, Try.ntmps34
  go_wp2_with (first | (refine wp_loadBlkG rfl _ rfl _ _ rfl hB ?_))
  refine (rat_any z hz 0 0 rfl (by omega) _).mono ?_
  rintro e w1 ⟨rfl, hb1⟩
  have st1 := ST0.out.below hb1
  clear hB ST0 hb1 hal
  have hB1 := st1.b
  have hR1 := st1.r
  by_cases h0 : wd z 0 = 1280199249
  rotate_left
  · have q : (wd z 0 != 1280199249) = true := by simpa using h0
    have HK : Hid (escB z = false) := by show _ = _; unfold escB; simp [h0]
    clear h0
    go_wp2_with (first | (refine wp_loadBlk rfl _ rfl _ _ rfl hB1 ?_) | (refine wp_storeBlk rfl _ _ rfl _ z _ rfl rfl hR1 ?_))
    intro w2 hR2 ho2
    go_wp2_with fail
    exact bodyPost_ret (results_blk2 rfl _ _ (w.heap.size + 1) _ rfl hR2) rfl ⟨by rw [escZ, HK.out]; rfl, st1.bel.trans (ho2.below (by omega))⟩
  have q : (wd z 0 != 1280199249) = false := by simpa using h0
  have HK : Hid (escB z = true) := by show _ = _; unfold escB; simp [h0]
  clear h0
  have hL1 := st1.bel
  clear st1
  go_wp2_with (first | (refine wp_storeByte rfl _ _ rfl _ _ _ rfl rfl hB1 (by decide) ?_))
  intro w2 hB2 ho2
  have hR2 := hR1.only ho2 (by omega)
  have hL2 := hL1.trans (ho2.below (by omega))
  clear hB1 hR1 ho2
  go_wp2_with (first | (refine wp_storeByte rfl _ _ rfl _ _ _ rfl rfl hB2 (by decide) ?_))
  intro w3 hB3 ho3
  have hR3 := hR2.only ho3 (by omega)
  have hL3 := hL2.trans (ho3.below (by omega))
  clear hB2 hR2 ho3
  go_wp2_with (first | (refine wp_storeByte rfl _ _ rfl _ _ _ rfl rfl hB3 (by decide) ?_))
  intro w4 hB4 ho4
  have hR4 := hR3.only ho4 (by omega)
  have hL4 := hL3.trans (ho4.below (by omega))
  clear hB3 hR3 ho4
  go_wp2_with (first | (refine wp_storeByte rfl _ _ rfl _ _ _ rfl rfl hB4 (by decide) ?_))
  intro w5 hB5 ho5
  have hR5 := hR4.only ho5 (by omega)
  have hL5 := hL4.trans (ho5.below (by omega))
  clear hB4 hR4 ho5
  have hB6 : Blk w5 w.heap.size 28 256 (escZ z) := hB5.congr fun i hi => by
    rw [escZ, HK.out]
    simp only [if_true]
    unfold over
    rcases i with _ | _ | _ | _ | i
    · simp [byteOf]
    · simp [byteOf]
    · simp [byteOf]
    · simp [byteOf]
    · simp; rw [if_neg (by omega), if_neg (by omega), if_neg (by omega), if_neg (by omega)]
  clear hB5 q
  go_wp2_with (first | (refine wp_loadBlk rfl _ rfl _ _ rfl hB6 ?_) | (refine wp_storeBlk rfl _ _ rfl _ (escZ z) _ rfl rfl hR5 ?_))
  intro w6 hR6 ho6
  go_wp2_with fail
  exact bodyPost_ret (results_blk2 rfl _ _ (w.heap.size + 1) _ rfl hR6) rfl ⟨by rw [HK.out]; rfl, hL5.trans (ho6.below (by omega))⟩
end Go.Proofs.Ytahobhifafiaeaa
