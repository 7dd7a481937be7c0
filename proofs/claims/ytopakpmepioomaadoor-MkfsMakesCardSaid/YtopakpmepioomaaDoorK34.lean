/- Texts of this claim, merged by a program (a claim may have 60 files): U6r. -/
import Derived.Test.YtopakpmepioomaaDoorK17
import Derived.Test.YtopakpmepioomaaDoorK24
import Derived.Test.YtopakpmepioomaaDoorK02
/- quernref06: short, long, sealed. -/
namespace Go.Proofs.YtopakpmepioomaaDoor
open Go.RowKit
set_option linter.unusedVariables false

theorem rputH (g : Nat) {T : TypeId} (l : Nat → Int) (k : Nat) (K v : Int) (hK : K = 2 * (k : Int)) (hk : k < 128) (hv : 0 ≤ v) (hv2 : v ≤ 65535) (w : World) (hB : Blk w g T 256 (hz l)) :
    Calls Tryd.prog 50 #[.slice (some ⟨g, 0, none⟩) 256 256, .int .i64 K, .int .u32 v] w fun e w' => e = .returned (.bool true) ∧ Blk w' g T 256 (hz (upd l k v)) ∧ Only g w w' := by
  refine (rput16_yes g 0 256 256 K v (hz l) w (by omega) (by omega) (by omega) hv hv2 hB.seg (hz_byt l) (hB.soft 0 256)).mono fun e w' ⟨he, hp⟩ => ⟨he, ?_, hp.only⟩
  rw [show 0 + K.toNat = 2 * k by omega] at hp
  exact (hB.puts hp).congr fun i _ => hz_put l k v i
theorem rputH4 (g : Nat) {T : TypeId} (l : Nat → Int) (k : Nat) (K v : Int) (hK : K = 2 * (k : Int)) (hk : k + 1 < 128) (hv : 0 ≤ v) (hv2 : v < 4294967296) (w : World) (hB : Blk w g T 256 (hz l)) :
    Calls Tryd.prog 49 #[.slice (some ⟨g, 0, none⟩) 256 256, .int .i64 K, .int .u32 v] w fun e w' => e = .returned (.bool true) ∧ Blk w' g T 256 (hz (upd2 l k v)) ∧ Only g w w' := by
  refine (rput32_yes g 0 256 256 K v (hz l) w (by omega) (by omega) (by omega) hv hv2 hB.seg (hz_byt l) (hB.soft 0 256)).mono fun e w' ⟨he, hp⟩ => ⟨he, ?_, hp.only⟩
  rw [show 0 + K.toNat = 2 * k by omega] at hp
  exact (hB.puts hp).congr fun i _ => hz_put4 l k v i
theorem below_drewN {B : Nat} {a w : World} (h : Below B a w) (n : Nat) : Below B a (w.drewN n) := bel_drewN h n

structure SeC (w : World) (z : Nat → Int) (j : Nat) (W : World) : Prop where
  b : Blk W w.heap.size 32 256 (if j ≤ 1 then z else sealZ z)
  r : Blk W (w.heap.size + 1) 32 256 (fun _ => 0)
  bel : Below w.heap.size w W
set_option maxRecDepth 100000 in
set_option maxHeartbeats 2000000 in
theorem rsealed_any (z : Nat → Int) (hzb : Byt z) (w : World) :
    Calls Tryd.prog 51 #[bval z] w fun e w' => e = .returned (bval (sealZ z)) ∧ Below w.heap.size w w' := by
  have hal := zero_block
  have hB : Blk ((w.alloc (.cells (Ks .u8 256 z).toArray 32)).alloc (.cells (Ks .u8 256 (fun _ => 0)).toArray 32)) w.heap.size 32 256 z := (Blk.new _ _ _ _).alloc _
  have hR : Blk ((w.alloc (.cells (Ks .u8 256 z).toArray 32)).alloc (.cells (Ks .u8 256 (fun _ => 0)).toArray 32)) (w.heap.size + 1) 32 256 (fun _ => 0) := by
    have := Blk.new (w.alloc (.cells (Ks .u8 256 z).toArray 32)) 32 256 (fun _ => 0)
    simp only [World.size_alloc] at this
    exact this
  have hL : Below w.heap.size w ((w.alloc (.cells (Ks .u8 256 z).toArray 32)).alloc (.cells (Ks .u8 256 (fun _ => 0)).toArray 32)) := ((Below.refl _ _).alloc (Nat.le_refl _) _).alloc (by simp) _
  have hsa := fun W => run_sliceBlkAll w.heap.size 0 W
  have hsb := fun W => run_sliceBlk w.heap.size 0 0 252 0 252 rfl rfl (by omega) (by omega) (by omega) W
  have hcb := crcZ_bd z 252
  go_enter Tryd.func51, Tryd.ntmps51
  go_wp2_with fail
  refine wp_region_lin (SeC w z) (by kernel_rfl) (by kernel_rfl) (by kernel_rfl) ⟨hB, hR, hL.drew⟩ ?_
  clear hB hR hL
  intro hne
  (refine lin_take 2 (by kernel_rfl) ?_; simp only [List.take_succ_cons, List.take_zero, List.drop_succ_cons, List.drop_zero])
  first | go_big_quiet_skip | (go_big_quiet_want; go_big_quiet_op; go_big_quiet_on)
  first | go_big_quiet_skip | (go_big_quiet_want; go_big_quiet_op; go_big_quiet_on)
  refine wpQuiet_nil ?_
  refine lin_call rfl rfl 91 #[.slice (some ⟨w.heap.size, 0, none⟩) 252 256] (.int .u32 (crcZ z 252)) (fun W => by kernel_rfl) (fun W h => ?c1) ?_
  case c1 =>
    refine (rSum_any (some ⟨w.heap.size, 0, none⟩) 252 256 z W (by omega) (.inr ⟨_, _, rfl, h.b.seg.take 252 (by omega)⟩) hzb).mono ?_
    rintro e w6 ⟨rfl, rfl⟩
    exact ⟨rfl, h.b, h.r, h.bel⟩
  refine wpLin_frame (by simp only [Act.put, List.setIfInBounds_toArray, List.set_cons_succ, List.set_cons_zero]; exact rfl) ?_
  refine lin_call rfl rfl 49 #[.slice (some ⟨w.heap.size, 0, none⟩) 256 256, .int .i64 252, .int .u32 (crcZ z 252)] (.bool true) (fun W => by kernel_rfl) (fun W h => ?c2) ?_
  case c2 =>
    refine (rput32_yes w.heap.size 0 256 256 252 (crcZ z 252) z W (by omega) (by omega) (by omega) hcb.1 hcb.2 h.b.seg hzb (h.b.soft 0 256)).mono ?_
    rintro e w6 ⟨rfl, hp⟩
    exact ⟨rfl, h.b.puts hp, h.r.only hp.only (by omega), h.bel.trans (hp.only.below (Nat.le_refl _))⟩
  refine wpLin_frame (by simp only [Act.put, List.setIfInBounds_toArray, List.set_cons_succ, List.set_cons_zero]; exact rfl) ?_
  refine wpLin_nil ?_
  rintro w6 ⟨hB6, hR6, hL6⟩
  rw [if_neg (by decide)] at hB6
  clear hne hsa hsb
  go_wp2_with (first | (refine wp_loadBlk rfl (.tmp 1) rfl w.heap.size (sealZ z) rfl hB6 ?_) | (refine wp_storeBlk rfl (.tmp 2) (.tmp 7) rfl (w.heap.size + 1) (sealZ z) _ rfl rfl hR6 ?_))
  intro w7 hR7 ho7
  go_wp2_with fail
  exact bodyPost_ret (results_blk rfl _ _ (w.heap.size + 1) _ rfl hR7) rfl ⟨rfl, hL6.trans (ho7.below (by omega))⟩
end Go.Proofs.YtopakpmepioomaaDoor
