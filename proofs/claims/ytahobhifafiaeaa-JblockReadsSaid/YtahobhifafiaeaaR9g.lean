/- The contract of quernref09.Unescape. -/
import Derived.Test.YtahobhifafiaeaaR9f
namespace Go.Proofs.Ytahobhifafiaeaa
open Go.RowKit
set_option linter.unusedVariables false

theorem rputZ32 (g : Nat) {T : TypeId} (z : Nat → Int) (hz : Byt z) (k : Nat) (K v : Int) (hK : K = (k : Int)) (hk : k + 4 ≤ 256) (hv : 0 ≤ v) (hv2 : v < 4294967296) (w : World) (hB : Blk w g T 256 z) :
    Calls Try.prog 58 #[.slice (some ⟨g, 0, none⟩) 256 256, .int .i64 K, .int .u32 v] w fun e w' => e = .returned (.bool true) ∧ Blk w' g T 256 (over z k 4 (byteOf v)) ∧ Only g w w' := by
  refine (rput32_yes g 0 256 256 K v z w (by omega) (by omega) (by omega) hv hv2 hB.seg hz (hB.soft 0 256)).mono fun e w' ⟨he, hp⟩ => ⟨he, ?_, hp.only⟩
  rw [show 0 + K.toNat = k by omega] at hp
  exact hB.puts hp

set_option maxRecDepth 100000 in
set_option maxHeartbeats 400000 in
theorem rUnescape_any (z : Nat → Int) (hz : Byt z) (w : World) :
    Calls Try.prog 35 #[bval z] w fun e w' => e = .returned (bval (unescZ z)) ∧ Below w.heap.size w w' := by
  have hal := zero_block
  have hB : Blk ((w.alloc (.cells (Ks .u8 256 z).toArray 28)).alloc (.cells (Ks .u8 256 (fun _ => 0)).toArray 28)) w.heap.size 28 256 z := (Blk.new _ _ _ _).alloc _
  have hR : Blk ((w.alloc (.cells (Ks .u8 256 z).toArray 28)).alloc (.cells (Ks .u8 256 (fun _ => 0)).toArray 28)) (w.heap.size + 1) 28 256 (fun _ => 0) := by
    have := Blk.new (w.alloc (.cells (Ks .u8 256 z).toArray 28)) 28 256 (fun _ => 0)
    simp only [World.size_alloc] at this
    exact this
  have hL : Below w.heap.size w ((w.alloc (.cells (Ks .u8 256 z).toArray 28)).alloc (.cells (Ks .u8 256 (fun _ => 0)).toArray 28)) := ((Below.refl _ _).alloc (Nat.le_refl _) _).alloc (by simp) _
  have HB := Lib.hid hB
  have HR := Lib.hid hR
  have HL := Lib.hid hL
  clear hB hR hL
  have hsa := fun W => run_sliceBlkAll w.heap.size 0 W
  go_enter Try.func35, Try.ntmps35
  go_wp2_with fail
  refine (rputZ32 w.heap.size z hz 0 0 1280199249 rfl (by omega) (by decide) (by decide) _ HB.out).mono ?_
  rintro e w2 ⟨rfl, hB2, ho2⟩
  have hR2 := HR.out.only ho2 (by omega)
  have hL2 : Below w.heap.size w w2 := HL.out.trans (ho2.below (Nat.le_refl _))
  clear HB HR HL ho2 hsa hal
  go_wp2_with (first | (refine wp_loadBlk rfl (.tmp 1) rfl w.heap.size (over z 0 4 (byteOf 1280199249)) rfl hB2 ?_) | (refine wp_storeBlk rfl (.tmp 2) (.tmp 5) rfl (w.heap.size + 1) (over z 0 4 (byteOf 1280199249)) _ rfl rfl hR2 ?_))
  intro w3 hR3 ho3
  go_wp2_with fail
  exact bodyPost_ret (results_blk rfl _ _ (w.heap.size + 1) _ rfl hR3) rfl ⟨rfl, hL2.trans (ho3.below (by omega))⟩
end Go.Proofs.Ytahobhifafiaeaa
