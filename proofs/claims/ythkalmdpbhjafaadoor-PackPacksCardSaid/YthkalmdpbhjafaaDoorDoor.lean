/- The frame of a tied law: the listed table; geometries, superblocks, descriptors that came in. -/
import Derived.Test.YthkalmdpbhjafaaDoorOpen
import Derived.Test.YthkalmdpbhjafaaDoorMg1
import Derived.Test.YthkalmdpbhjafaaDoorMg1
import Derived.Deep.Slices
import Derived.ChangeSlices
import Derived.LaidMore
import Derived.MakeChecks
import Derived.Lib.LaidTab
namespace Go.Proofs.YthkalmdpbhjafaaDoor
open Go.RowKit Go.ChangeShapes Go.WideShapes Go.ChangeAt Go.Deep
set_option linter.unusedVariables false

theorem tab_of_laid {W : World} (h : laidMetH Tryd.prog [("quern/crc.steps", Rows.laid_quern_crc_steps)] W) : Tab W := by
  rw [MakeChecks.laidMetH_plain _ _ _ (by kernel_rfl)] at h
  have hT := Lib.tabIs_of_head (zs := tabN.map fun (x : Nat) => (x : Int)) (k := .u32) (g := 0) (by kernel_rfl) (by kernel_rfl) Tryd.underlying130 Tryd.underlying22 (by kernel_rfl) (by kernel_rfl) h
  intro i hi
  have := hT.cell (g := 0) (by kernel_rfl) i (by simpa [tabN] using hi)
  rw [this]
  have key : ∀ i, i < 16 → (tabN.map fun (x : Nat) => (x : Int)).getD i 0 = ((tabN.getD i 0 : Nat) : Int) := by decide
  rw [key i hi]
theorem door_met (os : Os) (args : Array Value) : laidMetH Tryd.prog [("quern/crc.steps", Rows.laid_quern_crc_steps)] ((World.doorLaid Tryd.prog 14 os).forCall (fun _ _ => 0) ⟨#[], args, []⟩).memory :=
  laidMetH_of_parts3 (fuel := 8) (laidMet_of_run' 8 (by kernel_rfl) (by kernel_rfl)) (by kernel_rfl) (by kernel_rfl)

end Go.Proofs.YthkalmdpbhjafaaDoor
