/- The chapter's examples: quernlaw09.awake returns true. -/
import Derived.Test.YtahobhifafiaeaaJb5
namespace Go.Proofs.Ytahobhifafiaeaa
open Go.RowKit
set_option linter.unusedVariables false

def ta : Nat → Int := fun i => if i = 0 then 5 else 9
def tae : Nat → Bool := fun i => !(i == 0)
def tc : Nat → Int := fun i => if i = 0 then 9 else 5
theorem run_tags2 (a b : Int) (x y : Bool) (w : World) : (Instr.buildSlice 25 2 #[(0, .agg #[.int .u32 a, .bool x]), (1, .agg #[.int .u32 b, .bool y])]).run Try.prog w = .ok (.slice (some ⟨w.heap.size, 0, none⟩) 2 2) (w.alloc (.cells #[.int .u32 a, .bool x, .int .u32 b, .bool y] 69)) := by kernel_rfl
theorem tags2 (w : World) (tb : Nat → Int) (te : Nat → Bool) : TagRow (w.alloc (.cells #[.int .u32 (tb 0), .bool (te 0), .int .u32 (tb 1), .bool (te 1)] 69)) (some ⟨w.heap.size, 0, none⟩) 2 tb te := by
  refine .inr ⟨_, _, rfl, fun i hi => ?_⟩
  have h := heap_alloc_new w (.cells #[.int .u32 (tb 0), .bool (te 0), .int .u32 (tb 1), .bool (te 1)] 69)
  obtain rfl | rfl : i = 0 ∨ i = 1 := by omega
  · exact ⟨cell_of_heap h rfl, cell_of_heap h rfl⟩
  · exact ⟨cell_of_heap h rfl, cell_of_heap h rfl⟩
theorem wds_ta : Wds ta := fun k => by unfold ta; split <;> decide
theorem wds_tc : Wds tc := fun k => by unfold tc; split <;> decide
theorem headZ_byt (s t : Int) : Byt (headZ s t) := by
  unfold headZ
  split
  · exact wz_byt _
  · intro i; show (0 : Int) ≤ 0 ∧ (0 : Int) < 256; decide

set_option maxRecDepth 100000 in
set_option maxHeartbeats 4000000 in
theorem awake9 (w : World) : Calls Try.prog 21 #[] w fun e w' => e = .returned (.bool true) ∧ Below w.heap.size w w' := by
  have hal := zero_block
  go_enter Try.func21, Try.ntmps21
  go_wp2_with fail
  refine (writeHead_any 7 3 _ (by decide) (by decide)).mono ?_
  rintro e w1 ⟨rfl, hL1⟩
  rw [show errOf (headOk 7 3) 2 = 0 by decide]
  have hn1 := Blk.new w1 28 256 (fun _ => 0)
  go_wp2_with (first | (refine wp_storeBlk rfl (.tmp 1) (.tmp 16) rfl w1.heap.size (headZ 7 3) _ rfl rfl hn1 ?_))
  intro w2 hb2 ho2
  have hL2 : Below w.heap.size w w2 := (hL1.alloc hL1.size _).trans (ho2.below hL1.size)
  have hs1 := hL1.size
  clear hn1 ho2 hL1
  go_wp2_with fail
  refine (writeHead_any 7 256 _ (by decide) (by decide)).mono ?_
  rintro e w3 ⟨rfl, hb3⟩
  rw [show errOf (headOk 7 256) 2 = 2 by decide]
  have hB3 := hb2.below hb3 hb2.lt
  have hL3 : Below w.heap.size w w3 := hL2.trans (hb3.mono hL2.size)
  have hlt3 := hB3.lt
  have hn3 := Blk.new w3 28 256 (fun _ => 0)
  clear hb2 hL2 hb3
  go_wp2_with (first | (refine wp_storeBlk rfl (.tmp 3) (.tmp 21) rfl w3.heap.size (headZ 7 256) _ rfl rfl hn3 ?_))
  intro w4 hb4 ho4
  have hB4 : Blk w4 w1.heap.size 28 256 (headZ 7 3) := (hB3.alloc _).only ho4 (by omega)
  have hL4 : Below w.heap.size w w4 := (hL3.alloc hL3.size _).trans (ho4.below hL3.size)
  clear hB3 hL3 hn3 ho4 hb4
  have ht0 := zero_tag
  have hbs := run_tags2 5 9 false true
  have hT := tags2 w4 ta tae
  go_wp2_with fail
  refine (writeDesc_any 2 _ 2 2 ta tae (by decide) wds_ta (by decide) _ hT).mono ?_
  rintro e w5 ⟨rfl, hb5⟩
  rw [show errOf (descOk 2 2 ta) 2 = 0 by decide]
  have hB5 := (hB4.alloc _).below hb5 (hB4.alloc _).lt
  have hL5 : Below w.heap.size w w5 := (hL4.alloc hL4.size _).trans (hb5.mono (hL4.alloc hL4.size _).size)
  have hlt5 := hB5.lt
  have hn5 := Blk.new w5 28 256 (fun _ => 0)
  clear hB4 hL4 hb5 hT hbs
  go_wp2_with (first | (refine wp_storeBlk rfl (.tmp 5) (.tmp 28) rfl w5.heap.size (descZ 2 2 ta tae) _ rfl rfl hn5 ?_))
  intro w6 hC6 ho6
  have hB6 : Blk w6 w1.heap.size 28 256 (headZ 7 3) := (hB5.alloc _).only ho6 (by omega)
  have hL6 : Below w.heap.size w w6 := (hL5.alloc hL5.size _).trans (ho6.below hL5.size)
  clear hB5 hL5 hn5 ho6
  have hbs := run_tags2 9 5 false false
  have hT := tags2 w6 tc (fun _ => false)
  go_wp2_with fail
  refine (writeDesc_any 2 _ 2 2 tc (fun _ => false) (by decide) wds_tc (by decide) _ hT).mono ?_
  rintro e w7 ⟨rfl, hb7⟩
  rw [show errOf (descOk 2 2 tc) 2 = 2 by decide]
  have hB7 := (hB6.alloc _).below hb7 (hB6.alloc _).lt
  have hC7 := (hC6.alloc _).below hb7 (hC6.alloc _).lt
  have hL7 : Below w.heap.size w w7 := (hL6.alloc hL6.size _).trans (hb7.mono (hL6.alloc hL6.size _).size)
  have hlt7 := hB7.lt
  have hlt7' := hC7.lt
  have hn7 := Blk.new w7 28 256 (fun _ => 0)
  clear hB6 hC6 hL6 hb7 hT hbs ht0
  go_wp2_with (first | (refine wp_storeBlk rfl (.tmp 7) (.tmp 35) rfl w7.heap.size (descZ 2 2 tc (fun _ => false)) _ rfl rfl hn7 ?_))
  intro w8 hD8 ho8
  have hB8 : Blk w8 w1.heap.size 28 256 (headZ 7 3) := (hB7.alloc _).only ho8 (by omega)
  have hC8 : Blk w8 w5.heap.size 28 256 (descZ 2 2 ta tae) := (hC7.alloc _).only ho8 (by omega)
  have hL8 : Below w.heap.size w w8 := (hL7.alloc hL7.size _).trans (ho8.below hL7.size)
  clear hB7 hC7 hL7 hn7 ho8 hD8
  go_wp2_with (first | (refine wp_loadBlk rfl (.tmp 1) rfl w1.heap.size (headZ 7 3) rfl hB8 ?_))
  refine (kind_any _ (headZ_byt 7 3) _).mono ?_
  rintro e w9 ⟨rfl, hb9⟩
  rw [show kindOf (headZ 7 3) = 4 by decide, show seqOf (headZ 7 3) = 7 by decide]
  have hB9 := hB8.below hb9 hB8.lt
  have hC9 := hC8.below hb9 hC8.lt
  have hL9 : Below w.heap.size w w9 := hL8.trans (hb9.mono hL8.size)
  clear hB8 hC8 hL8 hb9
  go_wp2_with (first | (refine wp_loadBlk rfl (.tmp 1) rfl w1.heap.size (headZ 7 3) rfl hB9 ?_))
  refine (escape_any _ (headZ_byt 7 3) _).mono ?_
  rintro e w10 ⟨rfl, hb10⟩
  rw [show escB (headZ 7 3) = true by decide]
  have hB10 := hB9.below hb10 hB9.lt
  have hC10 := hC9.below hb10 hC9.lt
  have hL10 : Below w.heap.size w w10 := hL9.trans (hb10.mono hL9.size)
  have hlt10 := hB10.lt
  have hlt10' := hC10.lt
  have hn10 := Blk.new w10 28 256 (fun _ => 0)
  clear hB9 hC9 hL9 hb10
  go_wp2_with (first | (refine wp_storeBlk rfl (.tmp 11) (.tmp 45) rfl w10.heap.size (escZ (headZ 7 3)) _ rfl rfl hn10 ?_))
  intro w11 hX11 ho11
  have hB11 : Blk w11 w1.heap.size 28 256 (headZ 7 3) := (hB10.alloc _).only ho11 (by omega)
  have hC11 : Blk w11 w5.heap.size 28 256 (descZ 2 2 ta tae) := (hC10.alloc _).only ho11 (by omega)
  have hL11 : Below w.heap.size w w11 := (hL10.alloc hL10.size _).trans (ho11.below hL10.size)
  clear hB10 hC10 hL10 hn10 ho11 hal
  have byt : ∀ {W : World} {g : Nat} {z : Nat → Int} (i : Nat) (v : Int), Blk W g 28 256 z → i < 256 → z i = v → W.cell? ⟨g, i, none⟩ = some (.int .u8 v) := fun i v h hi e => by
    have := h.seg i hi
    rw [Nat.zero_add, e] at this
    exact this
  have b0 := byt 0 81 hB11 (by decide) (by decide)
  have b3 := byt 3 76 hB11 (by decide) (by decide)
  have b4 := byt 4 4 hB11 (by decide) (by decide)
  have b8 := byt 8 7 hB11 (by decide) (by decide)
  have b12 := byt 12 3 hB11 (by decide) (by decide)
  have d4 := byt 4 1 hC11 (by decide) (by decide)
  have d12 := byt 12 2 hC11 (by decide) (by decide)
  have d16 := byt 16 5 hC11 (by decide) (by decide)
  have d24 := byt 24 9 hC11 (by decide) (by decide)
  have d28 := byt 28 1 hC11 (by decide) (by decide)
  have x0 := byt 0 0 hX11 (by decide) (by decide)
  have x4 := byt 4 4 hX11 (by decide) (by decide)
  clear byt hB11 hC11 hX11
  go_wp2_with fail
  go_ret
  exact ⟨rfl, hL11⟩
end Go.Proofs.Ytahobhifafiaeaa
