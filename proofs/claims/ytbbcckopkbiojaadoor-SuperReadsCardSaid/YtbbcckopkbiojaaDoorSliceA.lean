/- Slices of a block of 256 bytes, by a pointer to it, in this program's own numbers. -/
import Derived.Test.YtbbcckopkbiojaaDoorAppendB
import Derived.Test.YtbbcckopkbiojaaDoorMore
namespace Go.Proofs.YtbbcckopkbiojaaDoor
open Go.RowKit
set_option linter.unusedVariables false
theorem addr_add (g o k : Nat) : (⟨g, o, none⟩ : Addr).add k = ⟨g, o + k, none⟩ := by
  unfold Addr.add; split
  · next h => subst h; rfl
  · rfl
theorem run_sliceBlk (g o lo hi : Nat) (L H : Int) (hL : L = (lo : Int)) (hH : H = (hi : Int)) (h1 : lo ≤ hi) (h2 : hi ≤ 256) (h3 : lo < 256) (W : World) :
    (Instr.sliceAt 29 (.pointer (some ⟨g, o, none⟩)) (some (.int .i64 L)) (some (.int .i64 H)) none).run Tryd.prog W = .ok (.slice (some ⟨g, o + lo, none⟩) (hi - lo) (256 - lo)) W := by
  subst hL hH
  have hal : Tryd.prog.arrayLen 29 = 256 := by kernel_rfl
  have hsz : ∀ W, (sizeOf (Tryd.prog.elem 29)).run Tryd.prog W = .ok 1 W := fun W => by kernel_rfl
  rw [run_sliceAt_array_lh W 29 _ (by kernel_rfl) .i64 .i64 (lo : Int) (hi : Int) (by omega) (by omega) (by rw [hal]; omega), hsz, hal]
  simp only [Result.andThen, slicedAt, Int.toNat_natCast, Nat.mul_one]
  rw [if_neg (by omega), addr_add]
theorem run_sliceBlkAll (g o : Nat) (W : World) :
    (Instr.sliceAt 29 (.pointer (some ⟨g, o, none⟩)) none none none).run Tryd.prog W = .ok (.slice (some ⟨g, o, none⟩) 256 256) W := by
  have hal : Tryd.prog.arrayLen 29 = 256 := by kernel_rfl
  have hsz : ∀ W, (sizeOf (Tryd.prog.elem 29)).run Tryd.prog W = .ok 1 W := fun W => by kernel_rfl
  rw [run_sliceAt_array_all W 29 _ (by kernel_rfl), hsz, hal]
  simp only [Result.andThen, slicedAt]
  rfl
end Go.Proofs.YtbbcckopkbiojaaDoor
