/- The walk of the law JblockBlocks (printed by gen_blocks.py). -/
import Derived.Test.YtahobhifafiaeaaBack9
import Derived.Test.YtahobhifafiaeaaAwake9
namespace Go.Proofs.Ytahobhifafiaeaa
open Go.RowKit
set_option linter.unusedVariables false

theorem wds0 : Wds (fun _ => 0) := fun _ => ⟨Int.le_refl 0, by show (0 : Int) < 4294967296; decide⟩
set_option maxRecDepth 100000 in
set_option maxHeartbeats 8000000 in
theorem blocks_N (z : Nat → Int) (hz : Byt z) (w : World) (hH : headRd z = false) (hD : descRd z = false) (hR : revRd z = false) (hC : commitRd z = false) :
    Calls Try.prog 10 #[bval z] w fun e w' => e = .returned (.bool true) ∧ Below w.heap.size w w' := by
  have HH := Lib.hid hH
  have HD := Lib.hid hD
  have HR := Lib.hid hR
  have HC := Lib.hid hC
  clear hH hD hR hC
  have hw2 := wd_wds hz 2
  have hw3 := wd_wds hz 3
  have hw4 := wd_wds hz 4
  have hs2 : (wd z 2 != wd z 2) = false := by simp
  have hs2' : (wd z 2 == wd z 2) = true := by simp
  have qn : ∀ W, (binOp .neq 28 (bval z) (bval z)).run Try.prog W = .ok (.bool false) W := fun W => by rw [run_neq_block, eqB_refl]; rfl
  have qe : ∀ W, (binOp .eql 28 (bval z) (bval z)).run Try.prog W = .ok (.bool true) W := fun W => by rw [run_eql_block, eqB_refl]
  have hB0 : Hid (Blk (w.alloc (.cells (Ks .u8 256 z).toArray 28)) w.heap.size 28 256 z) := Blk.new _ _ _ _
  have hL0 : Hid (Below w.heap.size w (w.alloc (.cells (Ks .u8 256 z).toArray 28))) := (Below.refl _ _).alloc (Nat.le_refl _) _
  go_enter Try.func10, Try.ntmps10
  go_wp2_with fail
  refine (awake9 _).mono ?_
  rintro e w1 ⟨rfl, hb1⟩
  have hB1 := hB0.out.below hb1 hB0.out.lt
  have hL1 : Below w.heap.size w w1 := hL0.out.trans (hb1.mono hL0.out.size)
  clear hB0 hL0 hb1
  go_wp2_with (first | (refine wp_loadBlk rfl (.tmp 1) rfl w.heap.size z rfl hB1 ?_))
  refine (kind_any z hz _).mono ?_
  rintro e w2 ⟨rfl, hb2⟩
  have hB2 := hB1.below hb2 hB1.lt
  have hL2 : Below w.heap.size w w2 := hL1.trans (hb2.mono hL1.size)
  clear hB1 hL1 hb2
  generalize kindOf z = kd
  generalize seqOf z = sq
  go_wp2_with (first | (refine wp_loadBlk rfl (.tmp 1) rfl w.heap.size z rfl hB2 ?_))
  refine (readHead_any z hz _).mono ?_
  rintro e w3 ⟨rfl, hb3⟩
  rw [show hdS z = 0 by unfold hdS; rw [HH.out]; rfl, show hdT z = 0 by unfold hdT; rw [HH.out]; rfl, HH.out, show errOf false 90 = 90 from rfl]
  have hB3 := hB2.below hb3 hB2.lt
  have hL3 : Below w.heap.size w w3 := hL2.trans (hb3.mono hL2.size)
  have hz0 := zero_head
  have hA : Hid (At (w3.alloc (.cells #[.int .u32 0, .int .i64 0] 24)) w3.heap.size 24 #[.int .u32 0, .int .i64 0]) := At.new _ _ _
  have hBa := hB3.alloc (.cells #[.int .u32 0, .int .i64 0] 24)
  have hLa : Hid (Below w.heap.size w (w3.alloc (.cells #[.int .u32 0, .int .i64 0] 24))) := hL3.alloc hL3.size _
  have hlt3 := hB3.lt
  clear hB2 hL2 hb3 hB3 hL3
  go_wp2_with (first | (refine wp_loadBlk rfl (.tmp 1) rfl w.heap.size z rfl hBa ?_))
  refine (readDesc_any z hz _).mono ?_
  rintro e w4 ⟨hb4, ⟨hr4, rfl⟩ | ⟨hr4, gD, capD, rfl, hownD⟩⟩
  rotate_left
  · rw [HD.out] at hr4; cases hr4
  have hB4 := hBa.below hb4 hBa.lt
  have hA4 := hA.out.below hb4 hA.out.lt
  have hL4 : Below w.heap.size w w4 := hLa.out.trans (hb4.mono hLa.out.size)
  clear hBa hA hLa hb4 hr4 hz0
  go_wp2_with (first | (refine wp_loadBlk rfl (.tmp 1) rfl w.heap.size z rfl hB4 ?_))
  refine (readRevoke_any z hz _).mono ?_
  rintro e w5 ⟨hb5, ⟨hr5, rfl⟩ | ⟨hr5, gR, capR, rfl, hownR⟩⟩
  rotate_left
  · rw [HR.out] at hr5; cases hr5
  have hB5 := hB4.below hb5 hB4.lt
  have hA5 := hA4.below hb5 hA4.lt
  have hL5 : Below w.heap.size w w5 := hL4.trans (hb5.mono hL4.size)
  clear hB4 hA4 hL4 hb5 hr5
  go_wp2_with (first | (refine wp_loadBlk rfl (.tmp 1) rfl w.heap.size z rfl hB5 ?_))
  refine (readCommit_any z hz _).mono ?_
  rintro e w6 ⟨rfl, hb6⟩
  rw [commitV, HC.out, if_neg Bool.false_ne_true]
  have hB6 := hB5.below hb6 hB5.lt
  have hA6 := hA5.below hb6 hA5.lt
  have hL6 : Below w.heap.size w w6 := hL5.trans (hb6.mono hL5.size)
  clear hB5 hA5 hL5 hb6
  go_wp2_with (first | (refine wp_loadAtG rfl 24 (.tmp 5) rfl w3.heap.size #[.int .u32 0, .int .i64 0] _ rfl hA6 Try.underlying24 rfl (by kernel_rfl) ?_))
  refine (writeHead_any 0 0 _ (by omega) (by omega)).mono ?_
  rintro e w7 ⟨rfl, hb7⟩
  rw [show errOf (headOk 0 0) 2 = 2 by decide]
  have hB7 := hB6.below hb7 hB6.lt
  have hA7 := hA6.below hb7 hA6.lt
  have hL7 : Below w.heap.size w w7 := hL6.trans (hb7.mono hL6.size)
  have hn7 := Blk.new w7 28 256 (fun _ => 0)
  have hal := zero_block
  have hlt7 := hA7.lt
  clear hB6 hA6 hL6 hb7
  go_wp2_with (first | (refine wp_storeBlk rfl (.tmp 17) (.tmp 53) rfl w7.heap.size (headZ 0 0) _ rfl rfl hn7 ?_))
  intro w8 hX8 ho8
  have hb78 : Below w7.heap.size w7 w8 := ((Below.refl _ _).alloc (Nat.le_refl _) _).trans (ho8.below (Nat.le_refl _))
  have hB8 := hB7.below hb78 hB7.lt
  have hA8 := hA7.below hb78 hA7.lt
  have hL8 : Below w.heap.size w w8 := hL7.trans (hb78.mono hL7.size)
  clear hB7 hA7 hL7 hn7 ho8 hb78 hal
  go_wp2_with fail
  refine (writeDesc_any 0 none 0 0 (fun _ => 0) (fun _ => false) (by decide) wds0 (by decide) _ (.inl rfl)).mono ?_
  rintro e w9 ⟨rfl, hb9⟩
  rw [show errOf (descOk 0 0 (fun _ => 0)) 2 = 2 by decide]
  have hB9 := hB8.below hb9 hB8.lt
  have hX9 := hX8.below hb9 hX8.lt
  have hL9 : Below w.heap.size w w9 := hL8.trans (hb9.mono hL8.size)
  clear hB8 hX8 hA8 hL8 hb9
  go_wp2_with (first | (refine wp_storeBlk rfl (.tmp 17) (.tmp 80) rfl w7.heap.size (descZ 0 0 (fun _ => 0) (fun _ => false)) _ rfl rfl hX9 ?_))
  intro w10 hX10 ho10
  have hB10 := hB9.only ho10 (by omega)
  have hL10 : Below w.heap.size w w10 := hL9.trans (ho10.below (by omega))
  clear hB9 hX9 hL9 ho10
  go_wp2_with fail
  refine (writeRevoke_any 0 none 0 0 (fun _ => 0) (by decide) wds0 (by decide) _ (.inl rfl)).mono ?_
  rintro e w11 ⟨rfl, hb11⟩
  rw [show errOf (revOk 0 0 (fun _ => 0)) 2 = 2 by decide]
  have hB11 := hB10.below hb11 hB10.lt
  have hX11 := hX10.below hb11 hX10.lt
  have hL11 : Below w.heap.size w w11 := hL10.trans (hb11.mono hL10.size)
  clear hB10 hX10 hL10 hb11
  go_wp2_with (first | (refine wp_storeBlk rfl (.tmp 17) (.tmp 106) rfl w7.heap.size (revZ 0 0 (fun _ => 0)) _ rfl rfl hX11 ?_))
  intro w12 hX12 ho12
  have hB12 := hB11.only ho12 (by omega)
  have hL12 : Below w.heap.size w w12 := hL11.trans (ho12.below (by omega))
  clear hB11 hX11 hL11 ho12
  go_wp2_with fail
  refine (writeCommit_any 0 0 0 _ (by decide) (by decide) (by decide)).mono ?_
  rintro e w13 ⟨rfl, hb13⟩
  rw [show errOf (commitOk 0 0) 2 = 2 by decide]
  have hB13 := hB12.below hb13 hB12.lt
  have hX13 := hX12.below hb13 hX12.lt
  have hL13 : Below w.heap.size w w13 := hL12.trans (hb13.mono hL12.size)
  clear hB12 hX12 hL12 hb13
  go_wp2_with (first | (refine wp_storeBlk rfl (.tmp 17) (.tmp 133) rfl w7.heap.size (commitZ 0 0 0) _ rfl rfl hX13 ?_))
  intro w14 hX14 ho14
  have hB14 := hB13.only ho14 (by omega)
  have hL14 : Below w.heap.size w w14 := hL13.trans (ho14.below (by omega))
  clear hB13 hX13 hL13 ho14
  go_wp2_with fail
  go_ret
  exact ⟨rfl, hL14⟩

set_option maxRecDepth 100000 in
set_option maxHeartbeats 8000000 in
theorem blocks_H (z : Nat → Int) (hz : Byt z) (w : World) (hH : headRd z = true) (hD : descRd z = false) (hR : revRd z = false) (hC : commitRd z = false) :
    Calls Try.prog 10 #[bval z] w fun e w' => e = .returned (.bool true) ∧ Below w.heap.size w w' := by
  obtain ⟨k1, k2, k3, k4⟩ := head_back hz hH
  have K1 := Lib.hid k1
  have K2 := Lib.hid (bval_congr k2)
  have K3 := Lib.hid k3
  have K4 := Lib.hid k4
  clear k1 k2 k3 k4
  have HH := Lib.hid hH
  have HD := Lib.hid hD
  have HR := Lib.hid hR
  have HC := Lib.hid hC
  clear hH hD hR hC
  have hw2 := wd_wds hz 2
  have hw3 := wd_wds hz 3
  have hw4 := wd_wds hz 4
  have hs2 : (wd z 2 != wd z 2) = false := by simp
  have hs2' : (wd z 2 == wd z 2) = true := by simp
  have qn : ∀ W, (binOp .neq 28 (bval z) (bval z)).run Try.prog W = .ok (.bool false) W := fun W => by rw [run_neq_block, eqB_refl]; rfl
  have qe : ∀ W, (binOp .eql 28 (bval z) (bval z)).run Try.prog W = .ok (.bool true) W := fun W => by rw [run_eql_block, eqB_refl]
  have hB0 : Hid (Blk (w.alloc (.cells (Ks .u8 256 z).toArray 28)) w.heap.size 28 256 z) := Blk.new _ _ _ _
  have hL0 : Hid (Below w.heap.size w (w.alloc (.cells (Ks .u8 256 z).toArray 28))) := (Below.refl _ _).alloc (Nat.le_refl _) _
  go_enter Try.func10, Try.ntmps10
  go_wp2_with fail
  refine (awake9 _).mono ?_
  rintro e w1 ⟨rfl, hb1⟩
  have hB1 := hB0.out.below hb1 hB0.out.lt
  have hL1 : Below w.heap.size w w1 := hL0.out.trans (hb1.mono hL0.out.size)
  clear hB0 hL0 hb1
  go_wp2_with (first | (refine wp_loadBlk rfl (.tmp 1) rfl w.heap.size z rfl hB1 ?_))
  refine (kind_any z hz _).mono ?_
  rintro e w2 ⟨rfl, hb2⟩
  have hB2 := hB1.below hb2 hB1.lt
  have hL2 : Below w.heap.size w w2 := hL1.trans (hb2.mono hL1.size)
  clear hB1 hL1 hb2
  rw [K3.out, K4.out]
  go_wp2_with (first | (refine wp_loadBlk rfl (.tmp 1) rfl w.heap.size z rfl hB2 ?_))
  refine (readHead_any z hz _).mono ?_
  rintro e w3 ⟨rfl, hb3⟩
  rw [show hdS z = wd z 2 by unfold hdS; rw [HH.out, if_pos rfl]; exact K4.out, show hdT z = wd z 3 by unfold hdT; rw [HH.out]; rfl, HH.out, show errOf true 90 = 0 from rfl]
  have hB3 := hB2.below hb3 hB2.lt
  have hL3 : Below w.heap.size w w3 := hL2.trans (hb3.mono hL2.size)
  have hz0 := zero_head
  have hA : Hid (At (w3.alloc (.cells #[.int .u32 (wd z 2), .int .i64 (wd z 3)] 24)) w3.heap.size 24 #[.int .u32 (wd z 2), .int .i64 (wd z 3)]) := At.new _ _ _
  have hBa := hB3.alloc (.cells #[.int .u32 (wd z 2), .int .i64 (wd z 3)] 24)
  have hLa : Hid (Below w.heap.size w (w3.alloc (.cells #[.int .u32 (wd z 2), .int .i64 (wd z 3)] 24))) := hL3.alloc hL3.size _
  have hlt3 := hB3.lt
  clear hB2 hL2 hb3 hB3 hL3
  go_wp2_with (first | (refine wp_loadBlk rfl (.tmp 1) rfl w.heap.size z rfl hBa ?_))
  refine (readDesc_any z hz _).mono ?_
  rintro e w4 ⟨hb4, ⟨hr4, rfl⟩ | ⟨hr4, gD, capD, rfl, hownD⟩⟩
  rotate_left
  · rw [HD.out] at hr4; cases hr4
  have hB4 := hBa.below hb4 hBa.lt
  have hA4 := hA.out.below hb4 hA.out.lt
  have hL4 : Below w.heap.size w w4 := hLa.out.trans (hb4.mono hLa.out.size)
  clear hBa hA hLa hb4 hr4 hz0
  go_wp2_with (first | (refine wp_loadBlk rfl (.tmp 1) rfl w.heap.size z rfl hB4 ?_))
  refine (readRevoke_any z hz _).mono ?_
  rintro e w5 ⟨hb5, ⟨hr5, rfl⟩ | ⟨hr5, gR, capR, rfl, hownR⟩⟩
  rotate_left
  · rw [HR.out] at hr5; cases hr5
  have hB5 := hB4.below hb5 hB4.lt
  have hA5 := hA4.below hb5 hA4.lt
  have hL5 : Below w.heap.size w w5 := hL4.trans (hb5.mono hL4.size)
  clear hB4 hA4 hL4 hb5 hr5
  go_wp2_with (first | (refine wp_loadBlk rfl (.tmp 1) rfl w.heap.size z rfl hB5 ?_))
  refine (readCommit_any z hz _).mono ?_
  rintro e w6 ⟨rfl, hb6⟩
  rw [commitV, HC.out, if_neg Bool.false_ne_true]
  have hB6 := hB5.below hb6 hB5.lt
  have hA6 := hA5.below hb6 hA5.lt
  have hL6 : Below w.heap.size w w6 := hL5.trans (hb6.mono hL5.size)
  clear hB5 hA5 hL5 hb6
  go_wp2_with (first | (refine wp_loadAtG rfl 24 (.tmp 5) rfl w3.heap.size #[.int .u32 (wd z 2), .int .i64 (wd z 3)] _ rfl hA6 Try.underlying24 rfl (by kernel_rfl) ?_))
  refine (writeHead_any (wd z 2) (wd z 3) _ (by omega) (by omega)).mono ?_
  rintro e w7 ⟨rfl, hb7⟩
  rw [K2.out, K1.out, show errOf true 2 = 0 from rfl]
  have hB7 := hB6.below hb7 hB6.lt
  have hA7 := hA6.below hb7 hA6.lt
  have hL7 : Below w.heap.size w w7 := hL6.trans (hb7.mono hL6.size)
  have hn7 := Blk.new w7 28 256 (fun _ => 0)
  have hal := zero_block
  have hlt7 := hA7.lt
  clear hB6 hA6 hL6 hb7
  go_wp2_with (first | (refine wp_storeBlk rfl (.tmp 17) (.tmp 53) rfl w7.heap.size z _ rfl rfl hn7 ?_))
  intro w8 hX8 ho8
  have hb78 : Below w7.heap.size w7 w8 := ((Below.refl _ _).alloc (Nat.le_refl _) _).trans (ho8.below (Nat.le_refl _))
  have hB8 := hB7.below hb78 hB7.lt
  have hA8 := hA7.below hb78 hA7.lt
  have hL8 : Below w.heap.size w w8 := hL7.trans (hb78.mono hL7.size)
  clear hB7 hA7 hL7 hn7 ho8 hb78 hal
  have c0 := hA8.cell (i := 0) rfl
  go_wp2_with (first | (refine wp_loadBlkG rfl (.tmp 17) rfl w7.heap.size z rfl hX8 ?_) | (refine wp_loadBlkG rfl (.tmp 1) rfl w.heap.size z rfl hB8 ?_))
  refine (writeDesc_any 0 none 0 0 (fun _ => 0) (fun _ => false) (by decide) wds0 (by decide) _ (.inl rfl)).mono ?_
  rintro e w9 ⟨rfl, hb9⟩
  rw [show errOf (descOk 0 0 (fun _ => 0)) 2 = 2 by decide]
  have hB9 := hB8.below hb9 hB8.lt
  have hX9 := hX8.below hb9 hX8.lt
  have hL9 : Below w.heap.size w w9 := hL8.trans (hb9.mono hL8.size)
  clear hB8 hX8 hA8 hL8 hb9 c0
  go_wp2_with (first | (refine wp_storeBlk rfl (.tmp 17) (.tmp 80) rfl w7.heap.size (descZ 0 0 (fun _ => 0) (fun _ => false)) _ rfl rfl hX9 ?_))
  intro w10 hX10 ho10
  have hB10 := hB9.only ho10 (by omega)
  have hL10 : Below w.heap.size w w10 := hL9.trans (ho10.below (by omega))
  clear hB9 hX9 hL9 ho10
  go_wp2_with fail
  refine (writeRevoke_any 0 none 0 0 (fun _ => 0) (by decide) wds0 (by decide) _ (.inl rfl)).mono ?_
  rintro e w11 ⟨rfl, hb11⟩
  rw [show errOf (revOk 0 0 (fun _ => 0)) 2 = 2 by decide]
  have hB11 := hB10.below hb11 hB10.lt
  have hX11 := hX10.below hb11 hX10.lt
  have hL11 : Below w.heap.size w w11 := hL10.trans (hb11.mono hL10.size)
  clear hB10 hX10 hL10 hb11
  go_wp2_with (first | (refine wp_storeBlk rfl (.tmp 17) (.tmp 106) rfl w7.heap.size (revZ 0 0 (fun _ => 0)) _ rfl rfl hX11 ?_))
  intro w12 hX12 ho12
  have hB12 := hB11.only ho12 (by omega)
  have hL12 : Below w.heap.size w w12 := hL11.trans (ho12.below (by omega))
  clear hB11 hX11 hL11 ho12
  go_wp2_with fail
  refine (writeCommit_any 0 0 0 _ (by decide) (by decide) (by decide)).mono ?_
  rintro e w13 ⟨rfl, hb13⟩
  rw [show errOf (commitOk 0 0) 2 = 2 by decide]
  have hB13 := hB12.below hb13 hB12.lt
  have hX13 := hX12.below hb13 hX12.lt
  have hL13 : Below w.heap.size w w13 := hL12.trans (hb13.mono hL12.size)
  clear hB12 hX12 hL12 hb13
  go_wp2_with (first | (refine wp_storeBlk rfl (.tmp 17) (.tmp 133) rfl w7.heap.size (commitZ 0 0 0) _ rfl rfl hX13 ?_))
  intro w14 hX14 ho14
  have hB14 := hB13.only ho14 (by omega)
  have hL14 : Below w.heap.size w w14 := hL13.trans (ho14.below (by omega))
  clear hB13 hX13 hL13 ho14
  go_wp2_with fail
  go_ret
  exact ⟨rfl, hL14⟩

set_option maxRecDepth 100000 in
set_option maxHeartbeats 8000000 in
theorem blocks_D (z : Nat → Int) (hz : Byt z) (w : World) (hH : headRd z = false) (hD : descRd z = true) (hR : revRd z = false) (hC : commitRd z = false) :
    Calls Try.prog 10 #[bval z] w fun e w' => e = .returned (.bool true) ∧ Below w.heap.size w w' := by
  obtain ⟨k1, k2, k3, k4⟩ := desc_back hz hD
  have K1 := Lib.hid k1
  have K2 := Lib.hid (bval_congr k2)
  have K3 := Lib.hid k3
  have K4 := Lib.hid k4
  clear k1 k2 k3 k4
  have HH := Lib.hid hH
  have HD := Lib.hid hD
  have HR := Lib.hid hR
  have HC := Lib.hid hC
  clear hH hD hR hC
  have hw2 := wd_wds hz 2
  have hw3 := wd_wds hz 3
  have hw4 := wd_wds hz 4
  have hs2 : (wd z 2 != wd z 2) = false := by simp
  have hs2' : (wd z 2 == wd z 2) = true := by simp
  have qn : ∀ W, (binOp .neq 28 (bval z) (bval z)).run Try.prog W = .ok (.bool false) W := fun W => by rw [run_neq_block, eqB_refl]; rfl
  have qe : ∀ W, (binOp .eql 28 (bval z) (bval z)).run Try.prog W = .ok (.bool true) W := fun W => by rw [run_eql_block, eqB_refl]
  have hB0 : Hid (Blk (w.alloc (.cells (Ks .u8 256 z).toArray 28)) w.heap.size 28 256 z) := Blk.new _ _ _ _
  have hL0 : Hid (Below w.heap.size w (w.alloc (.cells (Ks .u8 256 z).toArray 28))) := (Below.refl _ _).alloc (Nat.le_refl _) _
  go_enter Try.func10, Try.ntmps10
  go_wp2_with fail
  refine (awake9 _).mono ?_
  rintro e w1 ⟨rfl, hb1⟩
  have hB1 := hB0.out.below hb1 hB0.out.lt
  have hL1 : Below w.heap.size w w1 := hL0.out.trans (hb1.mono hL0.out.size)
  clear hB0 hL0 hb1
  go_wp2_with (first | (refine wp_loadBlk rfl (.tmp 1) rfl w.heap.size z rfl hB1 ?_))
  refine (kind_any z hz _).mono ?_
  rintro e w2 ⟨rfl, hb2⟩
  have hB2 := hB1.below hb2 hB1.lt
  have hL2 : Below w.heap.size w w2 := hL1.trans (hb2.mono hL1.size)
  clear hB1 hL1 hb2
  rw [K3.out, K4.out]
  go_wp2_with (first | (refine wp_loadBlk rfl (.tmp 1) rfl w.heap.size z rfl hB2 ?_))
  refine (readHead_any z hz _).mono ?_
  rintro e w3 ⟨rfl, hb3⟩
  rw [show hdS z = 0 by unfold hdS; rw [HH.out]; rfl, show hdT z = 0 by unfold hdT; rw [HH.out]; rfl, HH.out, show errOf false 90 = 90 from rfl]
  have hB3 := hB2.below hb3 hB2.lt
  have hL3 : Below w.heap.size w w3 := hL2.trans (hb3.mono hL2.size)
  have hz0 := zero_head
  have hA : Hid (At (w3.alloc (.cells #[.int .u32 0, .int .i64 0] 24)) w3.heap.size 24 #[.int .u32 0, .int .i64 0]) := At.new _ _ _
  have hBa := hB3.alloc (.cells #[.int .u32 0, .int .i64 0] 24)
  have hLa : Hid (Below w.heap.size w (w3.alloc (.cells #[.int .u32 0, .int .i64 0] 24))) := hL3.alloc hL3.size _
  have hlt3 := hB3.lt
  clear hB2 hL2 hb3 hB3 hL3
  go_wp2_with (first | (refine wp_loadBlk rfl (.tmp 1) rfl w.heap.size z rfl hBa ?_))
  refine (readDesc_any z hz _).mono ?_
  rintro e w4 ⟨hb4, ⟨hr4, rfl⟩ | ⟨hr4, gD, capD, rfl, hownD⟩⟩
  · rw [HD.out] at hr4; cases hr4
  have hB4 := hBa.below hb4 hBa.lt
  have hA4 := hA.out.below hb4 hA.out.lt
  have hL4 : Below w.heap.size w w4 := hLa.out.trans (hb4.mono hLa.out.size)
  clear hBa hA hLa hb4 hr4 hz0
  have hrn : rowsN z ≤ 60 := rowsN_bd (.inl HD.out)
  have htD := own_tags hownD
  have hTD : TagRow w4 (some ⟨gD, 0, none⟩) (rowsN z) (descT z) (descE z) := by
    obtain ⟨a, cp, he, ht, _⟩ := htD
    injection he with h1; rw [h1]; exact ht
  clear hownD htD
  have HTD := Lib.hid hTD
  clear hTD
  generalize rowsN z = nD at *
  go_wp2_with (first | (refine wp_loadBlk rfl (.tmp 1) rfl w.heap.size z rfl hB4 ?_))
  refine (readRevoke_any z hz _).mono ?_
  rintro e w5 ⟨hb5, ⟨hr5, rfl⟩ | ⟨hr5, gR, capR, rfl, hownR⟩⟩
  rotate_left
  · rw [HR.out] at hr5; cases hr5
  have hB5 := hB4.below hb5 hB4.lt
  have hA5 := hA4.below hb5 hA4.lt
  have hL5 : Below w.heap.size w w5 := hL4.trans (hb5.mono hL4.size)
  have HTD5 := Lib.hid (HTD.out.below hb5)
  clear HTD
  clear hB4 hA4 hL4 hb5 hr5
  go_wp2_with (first | (refine wp_loadBlk rfl (.tmp 1) rfl w.heap.size z rfl hB5 ?_))
  refine (readCommit_any z hz _).mono ?_
  rintro e w6 ⟨rfl, hb6⟩
  rw [commitV, HC.out, if_neg Bool.false_ne_true]
  have hB6 := hB5.below hb6 hB5.lt
  have hA6 := hA5.below hb6 hA5.lt
  have hL6 : Below w.heap.size w w6 := hL5.trans (hb6.mono hL5.size)
  have HTD6 := Lib.hid (HTD5.out.below hb6)
  clear HTD5
  clear hB5 hA5 hL5 hb6
  go_wp2_with (first | (refine wp_loadAtG rfl 24 (.tmp 5) rfl w3.heap.size #[.int .u32 0, .int .i64 0] _ rfl hA6 Try.underlying24 rfl (by kernel_rfl) ?_))
  refine (writeHead_any 0 0 _ (by omega) (by omega)).mono ?_
  rintro e w7 ⟨rfl, hb7⟩
  rw [show errOf (headOk 0 0) 2 = 2 by decide]
  have hB7 := hB6.below hb7 hB6.lt
  have hA7 := hA6.below hb7 hA6.lt
  have hL7 : Below w.heap.size w w7 := hL6.trans (hb7.mono hL6.size)
  have HTD7 := Lib.hid (HTD6.out.below hb7)
  clear HTD6
  have hn7 := Blk.new w7 28 256 (fun _ => 0)
  have hal := zero_block
  have hlt7 := hA7.lt
  clear hB6 hA6 hL6 hb7
  go_wp2_with (first | (refine wp_storeBlk rfl (.tmp 17) (.tmp 53) rfl w7.heap.size (headZ 0 0) _ rfl rfl hn7 ?_))
  intro w8 hX8 ho8
  have hb78 : Below w7.heap.size w7 w8 := ((Below.refl _ _).alloc (Nat.le_refl _) _).trans (ho8.below (Nat.le_refl _))
  have hB8 := hB7.below hb78 hB7.lt
  have hA8 := hA7.below hb78 hA7.lt
  have hL8 : Below w.heap.size w w8 := hL7.trans (hb78.mono hL7.size)
  have HTD8 := Lib.hid (HTD7.out.below hb78)
  clear HTD7
  clear hB7 hA7 hL7 hn7 ho8 hb78 hal
  go_wp2_with fail
  refine (writeDesc_any (wd z 2) (some ⟨gD, 0, none⟩) nD capD (descT z) (descE z) hw2 (fun k => wd_wds hz _) (by omega) _ HTD8.out).mono ?_
  rintro e w9 ⟨rfl, hb9⟩
  rw [K2.out, K1.out, show errOf true 2 = 0 from rfl]
  have hB9 := hB8.below hb9 hB8.lt
  have hX9 := hX8.below hb9 hX8.lt
  have hL9 : Below w.heap.size w w9 := hL8.trans (hb9.mono hL8.size)
  clear hB8 hX8 hA8 hL8 hb9
  go_wp2_with (first | (refine wp_storeBlk rfl (.tmp 17) (.tmp 80) rfl w7.heap.size z _ rfl rfl hX9 ?_))
  intro w10 hX10 ho10
  have hB10 := hB9.only ho10 (by omega)
  have hL10 : Below w.heap.size w w10 := hL9.trans (ho10.below (by omega))
  clear hB9 hX9 hL9 ho10
  go_wp2_with (first | (refine wp_loadBlkG rfl (.tmp 17) rfl w7.heap.size z rfl hX10 ?_) | (refine wp_loadBlkG rfl (.tmp 1) rfl w.heap.size z rfl hB10 ?_))
  refine (writeRevoke_any 0 none 0 0 (fun _ => 0) (by decide) wds0 (by decide) _ (.inl rfl)).mono ?_
  rintro e w11 ⟨rfl, hb11⟩
  rw [show errOf (revOk 0 0 (fun _ => 0)) 2 = 2 by decide]
  have hB11 := hB10.below hb11 hB10.lt
  have hX11 := hX10.below hb11 hX10.lt
  have hL11 : Below w.heap.size w w11 := hL10.trans (hb11.mono hL10.size)
  clear hB10 hX10 hL10 hb11
  go_wp2_with (first | (refine wp_storeBlk rfl (.tmp 17) (.tmp 106) rfl w7.heap.size (revZ 0 0 (fun _ => 0)) _ rfl rfl hX11 ?_))
  intro w12 hX12 ho12
  have hB12 := hB11.only ho12 (by omega)
  have hL12 : Below w.heap.size w w12 := hL11.trans (ho12.below (by omega))
  clear hB11 hX11 hL11 ho12
  go_wp2_with fail
  refine (writeCommit_any 0 0 0 _ (by decide) (by decide) (by decide)).mono ?_
  rintro e w13 ⟨rfl, hb13⟩
  rw [show errOf (commitOk 0 0) 2 = 2 by decide]
  have hB13 := hB12.below hb13 hB12.lt
  have hX13 := hX12.below hb13 hX12.lt
  have hL13 : Below w.heap.size w w13 := hL12.trans (hb13.mono hL12.size)
  clear hB12 hX12 hL12 hb13
  go_wp2_with (first | (refine wp_storeBlk rfl (.tmp 17) (.tmp 133) rfl w7.heap.size (commitZ 0 0 0) _ rfl rfl hX13 ?_))
  intro w14 hX14 ho14
  have hB14 := hB13.only ho14 (by omega)
  have hL14 : Below w.heap.size w w14 := hL13.trans (ho14.below (by omega))
  clear hB13 hX13 hL13 ho14
  go_wp2_with fail
  go_ret
  exact ⟨rfl, hL14⟩

set_option maxRecDepth 100000 in
set_option maxHeartbeats 8000000 in
theorem blocks_R (z : Nat → Int) (hz : Byt z) (w : World) (hH : headRd z = false) (hD : descRd z = false) (hR : revRd z = true) (hC : commitRd z = false) :
    Calls Try.prog 10 #[bval z] w fun e w' => e = .returned (.bool true) ∧ Below w.heap.size w w' := by
  obtain ⟨k1, k2, k3, k4⟩ := rev_back hz hR
  have K1 := Lib.hid k1
  have K2 := Lib.hid (bval_congr k2)
  have K3 := Lib.hid k3
  have K4 := Lib.hid k4
  clear k1 k2 k3 k4
  have HH := Lib.hid hH
  have HD := Lib.hid hD
  have HR := Lib.hid hR
  have HC := Lib.hid hC
  clear hH hD hR hC
  have hw2 := wd_wds hz 2
  have hw3 := wd_wds hz 3
  have hw4 := wd_wds hz 4
  have hs2 : (wd z 2 != wd z 2) = false := by simp
  have hs2' : (wd z 2 == wd z 2) = true := by simp
  have qn : ∀ W, (binOp .neq 28 (bval z) (bval z)).run Try.prog W = .ok (.bool false) W := fun W => by rw [run_neq_block, eqB_refl]; rfl
  have qe : ∀ W, (binOp .eql 28 (bval z) (bval z)).run Try.prog W = .ok (.bool true) W := fun W => by rw [run_eql_block, eqB_refl]
  have hB0 : Hid (Blk (w.alloc (.cells (Ks .u8 256 z).toArray 28)) w.heap.size 28 256 z) := Blk.new _ _ _ _
  have hL0 : Hid (Below w.heap.size w (w.alloc (.cells (Ks .u8 256 z).toArray 28))) := (Below.refl _ _).alloc (Nat.le_refl _) _
  go_enter Try.func10, Try.ntmps10
  go_wp2_with fail
  refine (awake9 _).mono ?_
  rintro e w1 ⟨rfl, hb1⟩
  have hB1 := hB0.out.below hb1 hB0.out.lt
  have hL1 : Below w.heap.size w w1 := hL0.out.trans (hb1.mono hL0.out.size)
  clear hB0 hL0 hb1
  go_wp2_with (first | (refine wp_loadBlk rfl (.tmp 1) rfl w.heap.size z rfl hB1 ?_))
  refine (kind_any z hz _).mono ?_
  rintro e w2 ⟨rfl, hb2⟩
  have hB2 := hB1.below hb2 hB1.lt
  have hL2 : Below w.heap.size w w2 := hL1.trans (hb2.mono hL1.size)
  clear hB1 hL1 hb2
  rw [K3.out, K4.out]
  go_wp2_with (first | (refine wp_loadBlk rfl (.tmp 1) rfl w.heap.size z rfl hB2 ?_))
  refine (readHead_any z hz _).mono ?_
  rintro e w3 ⟨rfl, hb3⟩
  rw [show hdS z = 0 by unfold hdS; rw [HH.out]; rfl, show hdT z = 0 by unfold hdT; rw [HH.out]; rfl, HH.out, show errOf false 90 = 90 from rfl]
  have hB3 := hB2.below hb3 hB2.lt
  have hL3 : Below w.heap.size w w3 := hL2.trans (hb3.mono hL2.size)
  have hz0 := zero_head
  have hA : Hid (At (w3.alloc (.cells #[.int .u32 0, .int .i64 0] 24)) w3.heap.size 24 #[.int .u32 0, .int .i64 0]) := At.new _ _ _
  have hBa := hB3.alloc (.cells #[.int .u32 0, .int .i64 0] 24)
  have hLa : Hid (Below w.heap.size w (w3.alloc (.cells #[.int .u32 0, .int .i64 0] 24))) := hL3.alloc hL3.size _
  have hlt3 := hB3.lt
  clear hB2 hL2 hb3 hB3 hL3
  go_wp2_with (first | (refine wp_loadBlk rfl (.tmp 1) rfl w.heap.size z rfl hBa ?_))
  refine (readDesc_any z hz _).mono ?_
  rintro e w4 ⟨hb4, ⟨hr4, rfl⟩ | ⟨hr4, gD, capD, rfl, hownD⟩⟩
  rotate_left
  · rw [HD.out] at hr4; cases hr4
  have hB4 := hBa.below hb4 hBa.lt
  have hA4 := hA.out.below hb4 hA.out.lt
  have hL4 : Below w.heap.size w w4 := hLa.out.trans (hb4.mono hLa.out.size)
  clear hBa hA hLa hb4 hr4 hz0
  go_wp2_with (first | (refine wp_loadBlk rfl (.tmp 1) rfl w.heap.size z rfl hB4 ?_))
  refine (readRevoke_any z hz _).mono ?_
  rintro e w5 ⟨hb5, ⟨hr5, rfl⟩ | ⟨hr5, gR, capR, rfl, hownR⟩⟩
  · rw [HR.out] at hr5; cases hr5
  have hB5 := hB4.below hb5 hB4.lt
  have hA5 := hA4.below hb5 hA4.lt
  have hL5 : Below w.heap.size w w5 := hL4.trans (hb5.mono hL4.size)
  have hrn : rowsN z ≤ 60 := rowsN_bd (.inr HR.out)
  have HTR := Lib.hid (own_nums hownR)
  clear hownR
  generalize rowsN z = nR at *
  clear hB4 hA4 hL4 hb5 hr5
  go_wp2_with (first | (refine wp_loadBlk rfl (.tmp 1) rfl w.heap.size z rfl hB5 ?_))
  refine (readCommit_any z hz _).mono ?_
  rintro e w6 ⟨rfl, hb6⟩
  rw [commitV, HC.out, if_neg Bool.false_ne_true]
  have hB6 := hB5.below hb6 hB5.lt
  have hA6 := hA5.below hb6 hA5.lt
  have hL6 : Below w.heap.size w w6 := hL5.trans (hb6.mono hL5.size)
  have HTR6 := Lib.hid (HTR.out.below hb6)
  clear HTR
  clear hB5 hA5 hL5 hb6
  go_wp2_with (first | (refine wp_loadAtG rfl 24 (.tmp 5) rfl w3.heap.size #[.int .u32 0, .int .i64 0] _ rfl hA6 Try.underlying24 rfl (by kernel_rfl) ?_))
  refine (writeHead_any 0 0 _ (by omega) (by omega)).mono ?_
  rintro e w7 ⟨rfl, hb7⟩
  rw [show errOf (headOk 0 0) 2 = 2 by decide]
  have hB7 := hB6.below hb7 hB6.lt
  have hA7 := hA6.below hb7 hA6.lt
  have hL7 : Below w.heap.size w w7 := hL6.trans (hb7.mono hL6.size)
  have HTR7 := Lib.hid (HTR6.out.below hb7)
  clear HTR6
  have hn7 := Blk.new w7 28 256 (fun _ => 0)
  have hal := zero_block
  have hlt7 := hA7.lt
  clear hB6 hA6 hL6 hb7
  go_wp2_with (first | (refine wp_storeBlk rfl (.tmp 17) (.tmp 53) rfl w7.heap.size (headZ 0 0) _ rfl rfl hn7 ?_))
  intro w8 hX8 ho8
  have hb78 : Below w7.heap.size w7 w8 := ((Below.refl _ _).alloc (Nat.le_refl _) _).trans (ho8.below (Nat.le_refl _))
  have hB8 := hB7.below hb78 hB7.lt
  have hA8 := hA7.below hb78 hA7.lt
  have hL8 : Below w.heap.size w w8 := hL7.trans (hb78.mono hL7.size)
  have HTR8 := Lib.hid (HTR7.out.below hb78)
  have HRlt : Hid (∀ x, some (⟨gR, 0, none⟩ : Addr) = some x → 0 < nR → x.block < w7.heap.size) := fun x hx h0 => HTR7.out.block h0 x hx
  clear HTR7
  clear hB7 hA7 hL7 hn7 ho8 hb78 hal
  go_wp2_with fail
  refine (writeDesc_any 0 none 0 0 (fun _ => 0) (fun _ => false) (by decide) wds0 (by decide) _ (.inl rfl)).mono ?_
  rintro e w9 ⟨rfl, hb9⟩
  rw [show errOf (descOk 0 0 (fun _ => 0)) 2 = 2 by decide]
  have hB9 := hB8.below hb9 hB8.lt
  have hX9 := hX8.below hb9 hX8.lt
  have hL9 : Below w.heap.size w w9 := hL8.trans (hb9.mono hL8.size)
  have HTR9 := Lib.hid (HTR8.out.below hb9)
  clear HTR8
  clear hB8 hX8 hA8 hL8 hb9
  go_wp2_with (first | (refine wp_storeBlk rfl (.tmp 17) (.tmp 80) rfl w7.heap.size (descZ 0 0 (fun _ => 0) (fun _ => false)) _ rfl rfl hX9 ?_))
  intro w10 hX10 ho10
  have hB10 := hB9.only ho10 (by omega)
  have hL10 : Below w.heap.size w w10 := hL9.trans (ho10.below (by omega))
  have HTR10 : Hid (NumRow w10 (some ⟨gR, 0, none⟩) nR (revM z)) := HTR9.out.grown (grown_only ho10) (fun x hx h0 e => by have := HRlt.out x hx h0; injection e with e; omega)
  clear HTR9 HRlt
  clear hB9 hX9 hL9 ho10
  go_wp2_with fail
  refine (writeRevoke_any (wd z 2) (some ⟨gR, 0, none⟩) nR capR (revM z) hw2 (fun k => wd_wds hz _) (by omega) _ HTR10.out).mono ?_
  rintro e w11 ⟨rfl, hb11⟩
  rw [K2.out, K1.out, show errOf true 2 = 0 from rfl]
  have hB11 := hB10.below hb11 hB10.lt
  have hX11 := hX10.below hb11 hX10.lt
  have hL11 : Below w.heap.size w w11 := hL10.trans (hb11.mono hL10.size)
  clear hB10 hX10 hL10 hb11
  go_wp2_with (first | (refine wp_storeBlk rfl (.tmp 17) (.tmp 106) rfl w7.heap.size z _ rfl rfl hX11 ?_))
  intro w12 hX12 ho12
  have hB12 := hB11.only ho12 (by omega)
  have hL12 : Below w.heap.size w w12 := hL11.trans (ho12.below (by omega))
  clear hB11 hX11 hL11 ho12
  go_wp2_with (first | (refine wp_loadBlkG rfl (.tmp 17) rfl w7.heap.size z rfl hX12 ?_) | (refine wp_loadBlkG rfl (.tmp 1) rfl w.heap.size z rfl hB12 ?_))
  refine (writeCommit_any 0 0 0 _ (by decide) (by decide) (by decide)).mono ?_
  rintro e w13 ⟨rfl, hb13⟩
  rw [show errOf (commitOk 0 0) 2 = 2 by decide]
  have hB13 := hB12.below hb13 hB12.lt
  have hX13 := hX12.below hb13 hX12.lt
  have hL13 : Below w.heap.size w w13 := hL12.trans (hb13.mono hL12.size)
  clear hB12 hX12 hL12 hb13
  go_wp2_with (first | (refine wp_storeBlk rfl (.tmp 17) (.tmp 133) rfl w7.heap.size (commitZ 0 0 0) _ rfl rfl hX13 ?_))
  intro w14 hX14 ho14
  have hB14 := hB13.only ho14 (by omega)
  have hL14 : Below w.heap.size w w14 := hL13.trans (ho14.below (by omega))
  clear hB13 hX13 hL13 ho14
  go_wp2_with fail
  go_ret
  exact ⟨rfl, hL14⟩

set_option maxRecDepth 100000 in
set_option maxHeartbeats 8000000 in
theorem blocks_C (z : Nat → Int) (hz : Byt z) (w : World) (hH : headRd z = false) (hD : descRd z = false) (hR : revRd z = false) (hC : commitRd z = true) :
    Calls Try.prog 10 #[bval z] w fun e w' => e = .returned (.bool true) ∧ Below w.heap.size w w' := by
  obtain ⟨k1, k2, k3, k4⟩ := commit_back hz hC
  have K1 := Lib.hid k1
  have K2 := Lib.hid (bval_congr k2)
  have K3 := Lib.hid k3
  have K4 := Lib.hid k4
  clear k1 k2 k3 k4
  have HH := Lib.hid hH
  have HD := Lib.hid hD
  have HR := Lib.hid hR
  have HC := Lib.hid hC
  clear hH hD hR hC
  have hw2 := wd_wds hz 2
  have hw3 := wd_wds hz 3
  have hw4 := wd_wds hz 4
  have hs2 : (wd z 2 != wd z 2) = false := by simp
  have hs2' : (wd z 2 == wd z 2) = true := by simp
  have qn : ∀ W, (binOp .neq 28 (bval z) (bval z)).run Try.prog W = .ok (.bool false) W := fun W => by rw [run_neq_block, eqB_refl]; rfl
  have qe : ∀ W, (binOp .eql 28 (bval z) (bval z)).run Try.prog W = .ok (.bool true) W := fun W => by rw [run_eql_block, eqB_refl]
  have hB0 : Hid (Blk (w.alloc (.cells (Ks .u8 256 z).toArray 28)) w.heap.size 28 256 z) := Blk.new _ _ _ _
  have hL0 : Hid (Below w.heap.size w (w.alloc (.cells (Ks .u8 256 z).toArray 28))) := (Below.refl _ _).alloc (Nat.le_refl _) _
  go_enter Try.func10, Try.ntmps10
  go_wp2_with fail
  refine (awake9 _).mono ?_
  rintro e w1 ⟨rfl, hb1⟩
  have hB1 := hB0.out.below hb1 hB0.out.lt
  have hL1 : Below w.heap.size w w1 := hL0.out.trans (hb1.mono hL0.out.size)
  clear hB0 hL0 hb1
  go_wp2_with (first | (refine wp_loadBlk rfl (.tmp 1) rfl w.heap.size z rfl hB1 ?_))
  refine (kind_any z hz _).mono ?_
  rintro e w2 ⟨rfl, hb2⟩
  have hB2 := hB1.below hb2 hB1.lt
  have hL2 : Below w.heap.size w w2 := hL1.trans (hb2.mono hL1.size)
  clear hB1 hL1 hb2
  rw [K3.out, K4.out]
  go_wp2_with (first | (refine wp_loadBlk rfl (.tmp 1) rfl w.heap.size z rfl hB2 ?_))
  refine (readHead_any z hz _).mono ?_
  rintro e w3 ⟨rfl, hb3⟩
  rw [show hdS z = 0 by unfold hdS; rw [HH.out]; rfl, show hdT z = 0 by unfold hdT; rw [HH.out]; rfl, HH.out, show errOf false 90 = 90 from rfl]
  have hB3 := hB2.below hb3 hB2.lt
  have hL3 : Below w.heap.size w w3 := hL2.trans (hb3.mono hL2.size)
  have hz0 := zero_head
  have hA : Hid (At (w3.alloc (.cells #[.int .u32 0, .int .i64 0] 24)) w3.heap.size 24 #[.int .u32 0, .int .i64 0]) := At.new _ _ _
  have hBa := hB3.alloc (.cells #[.int .u32 0, .int .i64 0] 24)
  have hLa : Hid (Below w.heap.size w (w3.alloc (.cells #[.int .u32 0, .int .i64 0] 24))) := hL3.alloc hL3.size _
  have hlt3 := hB3.lt
  clear hB2 hL2 hb3 hB3 hL3
  go_wp2_with (first | (refine wp_loadBlk rfl (.tmp 1) rfl w.heap.size z rfl hBa ?_))
  refine (readDesc_any z hz _).mono ?_
  rintro e w4 ⟨hb4, ⟨hr4, rfl⟩ | ⟨hr4, gD, capD, rfl, hownD⟩⟩
  rotate_left
  · rw [HD.out] at hr4; cases hr4
  have hB4 := hBa.below hb4 hBa.lt
  have hA4 := hA.out.below hb4 hA.out.lt
  have hL4 : Below w.heap.size w w4 := hLa.out.trans (hb4.mono hLa.out.size)
  clear hBa hA hLa hb4 hr4 hz0
  go_wp2_with (first | (refine wp_loadBlk rfl (.tmp 1) rfl w.heap.size z rfl hB4 ?_))
  refine (readRevoke_any z hz _).mono ?_
  rintro e w5 ⟨hb5, ⟨hr5, rfl⟩ | ⟨hr5, gR, capR, rfl, hownR⟩⟩
  rotate_left
  · rw [HR.out] at hr5; cases hr5
  have hB5 := hB4.below hb5 hB4.lt
  have hA5 := hA4.below hb5 hA4.lt
  have hL5 : Below w.heap.size w w5 := hL4.trans (hb5.mono hL4.size)
  clear hB4 hA4 hL4 hb5 hr5
  go_wp2_with (first | (refine wp_loadBlk rfl (.tmp 1) rfl w.heap.size z rfl hB5 ?_))
  refine (readCommit_any z hz _).mono ?_
  rintro e w6 ⟨rfl, hb6⟩
  rw [commitV, HC.out, if_pos rfl, K4.out]
  have hB6 := hB5.below hb6 hB5.lt
  have hA6 := hA5.below hb6 hA5.lt
  have hL6 : Below w.heap.size w w6 := hL5.trans (hb6.mono hL5.size)
  clear hB5 hA5 hL5 hb6
  go_wp2_with (first | (refine wp_loadAtG rfl 24 (.tmp 5) rfl w3.heap.size #[.int .u32 0, .int .i64 0] _ rfl hA6 Try.underlying24 rfl (by kernel_rfl) ?_))
  refine (writeHead_any 0 0 _ (by omega) (by omega)).mono ?_
  rintro e w7 ⟨rfl, hb7⟩
  rw [show errOf (headOk 0 0) 2 = 2 by decide]
  have hB7 := hB6.below hb7 hB6.lt
  have hA7 := hA6.below hb7 hA6.lt
  have hL7 : Below w.heap.size w w7 := hL6.trans (hb7.mono hL6.size)
  have hn7 := Blk.new w7 28 256 (fun _ => 0)
  have hal := zero_block
  have hlt7 := hA7.lt
  clear hB6 hA6 hL6 hb7
  go_wp2_with (first | (refine wp_storeBlk rfl (.tmp 17) (.tmp 53) rfl w7.heap.size (headZ 0 0) _ rfl rfl hn7 ?_))
  intro w8 hX8 ho8
  have hb78 : Below w7.heap.size w7 w8 := ((Below.refl _ _).alloc (Nat.le_refl _) _).trans (ho8.below (Nat.le_refl _))
  have hB8 := hB7.below hb78 hB7.lt
  have hA8 := hA7.below hb78 hA7.lt
  have hL8 : Below w.heap.size w w8 := hL7.trans (hb78.mono hL7.size)
  clear hB7 hA7 hL7 hn7 ho8 hb78 hal
  go_wp2_with fail
  refine (writeDesc_any 0 none 0 0 (fun _ => 0) (fun _ => false) (by decide) wds0 (by decide) _ (.inl rfl)).mono ?_
  rintro e w9 ⟨rfl, hb9⟩
  rw [show errOf (descOk 0 0 (fun _ => 0)) 2 = 2 by decide]
  have hB9 := hB8.below hb9 hB8.lt
  have hX9 := hX8.below hb9 hX8.lt
  have hL9 : Below w.heap.size w w9 := hL8.trans (hb9.mono hL8.size)
  clear hB8 hX8 hA8 hL8 hb9
  go_wp2_with (first | (refine wp_storeBlk rfl (.tmp 17) (.tmp 80) rfl w7.heap.size (descZ 0 0 (fun _ => 0) (fun _ => false)) _ rfl rfl hX9 ?_))
  intro w10 hX10 ho10
  have hB10 := hB9.only ho10 (by omega)
  have hL10 : Below w.heap.size w w10 := hL9.trans (ho10.below (by omega))
  clear hB9 hX9 hL9 ho10
  go_wp2_with fail
  refine (writeRevoke_any 0 none 0 0 (fun _ => 0) (by decide) wds0 (by decide) _ (.inl rfl)).mono ?_
  rintro e w11 ⟨rfl, hb11⟩
  rw [show errOf (revOk 0 0 (fun _ => 0)) 2 = 2 by decide]
  have hB11 := hB10.below hb11 hB10.lt
  have hX11 := hX10.below hb11 hX10.lt
  have hL11 : Below w.heap.size w w11 := hL10.trans (hb11.mono hL10.size)
  clear hB10 hX10 hL10 hb11
  go_wp2_with (first | (refine wp_storeBlk rfl (.tmp 17) (.tmp 106) rfl w7.heap.size (revZ 0 0 (fun _ => 0)) _ rfl rfl hX11 ?_))
  intro w12 hX12 ho12
  have hB12 := hB11.only ho12 (by omega)
  have hL12 : Below w.heap.size w w12 := hL11.trans (ho12.below (by omega))
  clear hB11 hX11 hL11 ho12
  go_wp2_with fail
  refine (writeCommit_any (wd z 2) (wd z 3) (wd z 4) _ hw2 (by omega) hw4).mono ?_
  rintro e w13 ⟨rfl, hb13⟩
  rw [K2.out, K1.out, show errOf true 2 = 0 from rfl]
  have hB13 := hB12.below hb13 hB12.lt
  have hX13 := hX12.below hb13 hX12.lt
  have hL13 : Below w.heap.size w w13 := hL12.trans (hb13.mono hL12.size)
  clear hB12 hX12 hL12 hb13
  go_wp2_with (first | (refine wp_storeBlk rfl (.tmp 17) (.tmp 133) rfl w7.heap.size z _ rfl rfl hX13 ?_))
  intro w14 hX14 ho14
  have hB14 := hB13.only ho14 (by omega)
  have hL14 : Below w.heap.size w w14 := hL13.trans (ho14.below (by omega))
  clear hB13 hX13 hL13 ho14
  go_wp2_with (first | (refine wp_loadBlkG rfl (.tmp 17) rfl w7.heap.size z rfl hX14 ?_) | (refine wp_loadBlkG rfl (.tmp 1) rfl w.heap.size z rfl hB14 ?_))
  go_ret
  exact ⟨rfl, hL14⟩

theorem blocks_walk (z : Nat → Int) (hz : Byt z) (w : World) :
    Calls Try.prog 10 #[bval z] w fun e w' => e = .returned (.bool true) ∧ Below w.heap.size w w' := by
  rcases one_kind z with ⟨a, b, c, d⟩ | ⟨a, b, c, d⟩ | ⟨a, b, c, d⟩ | ⟨a, b, c, d⟩ | ⟨a, b, c, d⟩
  · exact blocks_N z hz w a b c d
  · exact blocks_H z hz w a b c d
  · exact blocks_D z hz w a b c d
  · exact blocks_R z hz w a b c d
  · exact blocks_C z hz w a b c d
end Go.Proofs.Ytahobhifafiaeaa
