/- The contract of quernlaw01.awake: it answers true. -/
import Derived.Test.YtchljjlpennniaaAppendB
import Derived.Test.YtchljjlpennniaaMore
namespace Go.Proofs.Ytchljjlpennniaa
open Go.RowKit
set_option linter.unusedVariables false

set_option maxHeartbeats 1000000 in
theorem awake1_any (w : World) :
    Calls Try.prog 25 #[] w fun e w' => e = .returned (.bool true) ∧ Below w.heap.size w w' := by
  have b3 : Hid (Byt (lz [1, 2, 3])) := byt_lz _ rfl
  have b5 : Hid (Byt (lz [1, 2, 3, 4, 255])) := byt_lz _ rfl
  have b0 : Hid (Byt (lz [0, 0, 0])) := byt_lz _ rfl
  go_enter Try.func25, Try.ntmps25
  go_wp2_with fail
  refine (get16_yes _ _ 3 _ 1 (lz [1, 2, 3]) _ (by omega) (by omega) (by omega) (by exact seg_at (by simp) rfl) b3.out).mono ?_
  rintro e w' ⟨rfl, rfl⟩
  rw [show g16 (lz [1, 2, 3]) (1 : Int).toNat = 770 from by decide]
  go_wp2_with fail
  refine (get32_yes _ _ 5 _ 1 (lz [1, 2, 3, 4, 255]) _ (by omega) (by omega) (by omega) (by exact seg_at (by simp) rfl) b5.out).mono ?_
  rintro e w' ⟨rfl, rfl⟩
  rw [show g32 (lz [1, 2, 3, 4, 255]) (1 : Int).toNat = 4278452994 from by decide]
  go_wp2_with fail
  refine (get32_no _ 5 _ 2 _ (by omega) (by omega)).mono ?_
  rintro e w' ⟨rfl, rfl⟩
  go_wp2_with fail
  refine (put16_yes _ _ 3 _ 1 65535 (lz [0, 0, 0]) _ (by omega) (by omega) (by omega) (by omega) (by omega) (by exact seg_at (by simp) rfl) (by exact soft_at (by simp))).mono ?_
  rintro e w1 ⟨rfl, hp⟩
  have hs1 := hp.seg (off := 0) (m := 3) (k := 1) (z := lz [0, 0, 0]) (by exact seg_at (by simp) rfl) rfl
  have hf1 := hp.soft (c := w.heap.size + 1 + 1 + 1) (off := 0) (m := 3) (by exact soft_at (by simp))
  have hb1 := (((((Below.refl w.heap.size w).alloc (Nat.le_refl _) (Obj.cells #[Value.int IntKind.u8 1, Value.int IntKind.u8 2, Value.int IntKind.u8 3] 5)).alloc (by simp) (Obj.cells #[Value.int IntKind.u8 1, Value.int IntKind.u8 2, Value.int IntKind.u8 3, Value.int IntKind.u8 4, Value.int IntKind.u8 255] 5)).alloc (by simp; omega) (Obj.cells #[Value.int IntKind.u8 1, Value.int IntKind.u8 2, Value.int IntKind.u8 3, Value.int IntKind.u8 4, Value.int IntKind.u8 255] 5)).alloc (by simp; omega) (Obj.cells #[Value.int IntKind.u8 0, Value.int IntKind.u8 0, Value.int IntKind.u8 0] 5)).trans (hp.only.below (by omega))
  clear hp
  have c0 := hs1 0 (by omega)
  have c1 := hs1 1 (by omega)
  have c2 := hs1 2 (by omega)
  rw [show over (lz [0, 0, 0]) 1 2 (byteOf 65535) 0 = 0 from by decide] at c0
  rw [show over (lz [0, 0, 0]) 1 2 (byteOf 65535) 1 = 255 from by decide] at c1
  rw [show over (lz [0, 0, 0]) 1 2 (byteOf 65535) 2 = 255 from by decide] at c2
  simp only [Nat.zero_add] at c0 c1 c2
  have hz1 : Hid (allZ (over (lz [0, 0, 0]) 1 2 (byteOf 65535)) 3 = false) := by show _ = _; decide
  generalize over (lz [0, 0, 0]) 1 2 (byteOf 65535) = y at hs1 hz1
  go_wp2_with fail
  refine (put16_no _ 3 _ 1 65536 _ (by omega) (by omega)).mono ?_
  rintro e w' ⟨rfl, rfl⟩
  go_wp2_with fail
  refine (zero_any _ 2 _ (lz [0, 0]) _ (by omega) (by exact row_at (by simp) rfl)).mono ?_
  rintro e w' ⟨rfl, rfl⟩
  rw [show allZ (lz [0, 0]) 2 = true from by decide]
  go_wp2_with fail
  refine (zero_any _ 3 _ y _ (by omega) (by exact .inr ⟨_, _, rfl, hs1.alloc _⟩)).mono ?_
  rintro e w' ⟨rfl, rfl⟩
  rw [hz1.out]
  go_wp2_with fail
  go_ret
  exact ⟨rfl, hb1.alloc hb1.size _⟩
end Go.Proofs.Ytchljjlpennniaa
