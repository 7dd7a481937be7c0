/- A geometry that came in. -/
import Derived.Test.YtbbcckopkbiojaaOpen
import Derived.Test.YtbbcckopkbiojaaGeo
namespace Go.Proofs.Ytbbcckopkbiojaa
open Go.RowKit
set_option linter.unusedVariables false
theorem open_geo {W : World} {base : Nat} {v : Value} (h : Value.okWide Try.prog W .any base 23 v) : ∃ G S I J : Int, v = gval G S I J ∧ ∀ x ∈ [G, S, I, J], -9223372036854775808 ≤ x ∧ x ≤ 9223372036854775807 := by
  obtain ⟨z, rfl, hz, _⟩ := open_row [.i64, .i64, .i64, .i64] h (by kernel_rfl) (by kernel_rfl) (by kernel_rfl)
  have k0 := kHas (hz 0 (by decide))
  have k1 := kHas (hz 1 (by decide))
  have k2 := kHas (hz 2 (by decide))
  have k3 := kHas (hz 3 (by decide))
  refine ⟨z 0, z 1, z 2, z 3, rfl, ?_⟩
  simp [List.getD, IntKind.min, IntKind.max, IntKind.signed, IntKind.bits] at k0 k1 k2 k3
  intro x hx
  simp only [List.mem_cons, List.not_mem_nil, or_false] at hx
  rcases hx with rfl | rfl | rfl | rfl <;> omega
end Go.Proofs.Ytbbcckopkbiojaa
