/- Contracts of quernref09.ReadHead and Escape. -/
import Derived.Test.YthkalmdpbhjafaaDoorR9i
import Derived.Test.YthkalmdpbhjafaaDoorMg1
namespace Go.Proofs.YthkalmdpbhjafaaDoor
open Go.RowKit
set_option linter.unusedVariables false

structure ReSt (w : World) (z : Nat → Int) (W : World) : Prop where
  b : Blk W w.heap.size 40 256 z
  r : Blk W (w.heap.size + 1) 40 256 (fun _ => 0)
  bel : Below w.heap.size w W
theorem ReSt.below {w W W' : World} {z : Nat → Int} (h : ReSt w z W) (hb : Below W.heap.size W W') : ReSt w z W' := ⟨h.b.below hb h.b.lt, h.r.below hb h.r.lt, h.bel.trans (hb.mono h.bel.size)⟩

set_option maxRecDepth 100000 in
set_option maxHeartbeats 1000000 in
theorem rEscape_any (z : Nat → Int) (hz : Byt z) (w : World) :
    Calls Tryd.prog 26 #[bval z] w fun e w' => e = .returned (.tuple #[bval (escZ z), .bool (escB z)]) ∧ Below w.heap.size w w' := by
  have hal := zero_block
  have ST0 : Hid (ReSt w z ((w.alloc (.cells (Ks .u8 256 z).toArray 40)).alloc (.cells (Ks .u8 256 (fun _ => 0)).toArray 40))) := ⟨(Blk.new _ _ _ _).alloc _, by
    have := Blk.new (w.alloc (.cells (Ks .u8 256 z).toArray 40)) 40 256 (fun _ => 0)
    simp only [World.size_alloc] at this
    exact this, ((Below.refl _ _).alloc (Nat.le_refl _) _).alloc (by simp) _⟩
  have hB := ST0.out.b
  go_enter Tryd.func26, Tryd.ntmps26
  go_wp2_with (first | (refine wp_loadBlkG rfl _ rfl _ _ rfl hB ?_))
  refine (rat_any z hz 0 0 rfl (by omega) _).mono ?_
  rintro e w1 ⟨rfl, hb1⟩
  have st1 := ST0.out.below hb1
  clear hB ST0 hb1 hal
  have hB1 := st1.b
  have hR1 := st1.r
  by_cases h0 : wd z 0 = 1280199249
  rotate_left
  · have q : (wd z 0 != 1280199249) = true := by simpa using h0
    have HK : Hid (escB z = false) := by show _ = _; unfold escB; simp [h0]
    clear h0
    go_wp2_with (first | (refine wp_loadBlk rfl _ rfl _ _ rfl hB1 ?_) | (refine wp_storeBlk rfl _ _ rfl _ z _ rfl rfl hR1 ?_))
    intro w2 hR2 ho2
    go_wp2_with fail
    exact bodyPost_ret (results_blk2 rfl _ _ (w.heap.size + 1) _ rfl hR2) rfl ⟨by rw [escZ, HK.out]; rfl, st1.bel.trans (ho2.below (by omega))⟩
  have q : (wd z 0 != 1280199249) = false := by simpa using h0
  have HK : Hid (escB z = true) := by show _ = _; unfold escB; simp [h0]
  clear h0
  have hL1 := st1.bel
  clear st1
  go_wp2_with (first | (refine wp_storeByte rfl _ _ rfl _ _ _ rfl rfl hB1 (by decide) ?_))
  intro w2 hB2 ho2
  have hR2 := hR1.only ho2 (by omega)
  have hL2 := hL1.trans (ho2.below (by omega))
  clear hB1 hR1 ho2
  go_wp2_with (first | (refine wp_storeByte rfl _ _ rfl _ _ _ rfl rfl hB2 (by decide) ?_))
  intro w3 hB3 ho3
  have hR3 := hR2.only ho3 (by omega)
  have hL3 := hL2.trans (ho3.below (by omega))
  clear hB2 hR2 ho3
  go_wp2_with (first | (refine wp_storeByte rfl _ _ rfl _ _ _ rfl rfl hB3 (by decide) ?_))
  intro w4 hB4 ho4
  have hR4 := hR3.only ho4 (by omega)
  have hL4 := hL3.trans (ho4.below (by omega))
  clear hB3 hR3 ho4
  go_wp2_with (first | (refine wp_storeByte rfl _ _ rfl _ _ _ rfl rfl hB4 (by decide) ?_))
  intro w5 hB5 ho5
  have hR5 := hR4.only ho5 (by omega)
  have hL5 := hL4.trans (ho5.below (by omega))
  clear hB4 hR4 ho5
  have hB6 : Blk w5 w.heap.size 40 256 (escZ z) := hB5.congr fun i hi => by
    rw [escZ, HK.out]
    simp only [if_true]
    unfold over
    rcases i with _ | _ | _ | _ | i
    · simp [byteOf]
    · simp [byteOf]
    · simp [byteOf]
    · simp [byteOf]
    · simp; rw [if_neg (by omega), if_neg (by omega), if_neg (by omega), if_neg (by omega)]
  clear hB5 q
  go_wp2_with (first | (refine wp_loadBlk rfl _ rfl _ _ rfl hB6 ?_) | (refine wp_storeBlk rfl _ _ rfl _ (escZ z) _ rfl rfl hR5 ?_))
  intro w6 hR6 ho6
  go_wp2_with fail
  exact bodyPost_ret (results_blk2 rfl _ _ (w.heap.size + 1) _ rfl hR6) rfl ⟨by rw [HK.out]; rfl, hL5.trans (ho6.below (by omega))⟩
end Go.Proofs.YthkalmdpbhjafaaDoor
