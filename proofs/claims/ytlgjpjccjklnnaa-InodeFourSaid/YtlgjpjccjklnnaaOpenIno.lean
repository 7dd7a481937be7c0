/- An inode that came in. -/
import Derived.Test.YtlgjpjccjklnnaaOpen
import Derived.Test.YtlgjpjccjklnnaaIno
namespace Go.Proofs.Ytlgjpjccjklnnaa
open Go.RowKit
set_option linter.unusedVariables false
theorem open_ino {W : World} {base : Nat} {v : Value} (h : Value.okWide Try.prog W .any base 27 v) : ∃ x : Ino, v = x.val ∧ x.Ok := by
  obtain ⟨z, rfl, hz, h0⟩ := open_row [.u8, .i64, .u32, .i64, .u32, .u32, .u32, .u32, .u32, .u32, .u32, .u32, .u32, .u32, .u32, .u32] h (by kernel_rfl) (by kernel_rfl) (by kernel_rfl)
  refine ⟨⟨z 0, z 1, z 2, z 3, fun i => if i < 11 then z (i + 4) else 0, z 15⟩, rfl, ?_⟩
  have g := fun i hi => kHas (hz i hi)
  have e0 := g 0 (by decide)
  have e1 := g 1 (by decide)
  have e2 := g 2 (by decide)
  have e3 := g 3 (by decide)
  have e15 := g 15 (by decide)
  simp [IntKind.min, IntKind.max, IntKind.signed, IntKind.bits] at e0 e1 e2 e3 e15
  refine ⟨by dsimp only; omega, by dsimp only; omega, by dsimp only; omega, by dsimp only; omega, fun i => ?_, by dsimp only; omega⟩
  dsimp only
  by_cases hi : i < 11
  · rw [if_pos hi]
    have e := g (i + 4) (by simp; omega)
    have : ([IntKind.u8, .i64, .u32, .i64, .u32, .u32, .u32, .u32, .u32, .u32, .u32, .u32, .u32, .u32, .u32, .u32] : List IntKind).getD (i + 4) .u8 = .u32 := by
      rcases (by omega : i = 0 ∨ i = 1 ∨ i = 2 ∨ i = 3 ∨ i = 4 ∨ i = 5 ∨ i = 6 ∨ i = 7 ∨ i = 8 ∨ i = 9 ∨ i = 10) with rfl | rfl | rfl | rfl | rfl | rfl | rfl | rfl | rfl | rfl | rfl <;> rfl
    rw [this] at e
    simp [IntKind.min, IntKind.max, IntKind.signed, IntKind.bits] at e
    omega
  · rw [if_neg hi]; omega
end Go.Proofs.Ytlgjpjccjklnnaa
