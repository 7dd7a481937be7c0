/- Slices of a block of 256 bytes, by a pointer to it, in this program's own numbers. -/
import Derived.Test.YtbbcckopkbiojaaAppendB
import Derived.Test.YtbbcckopkbiojaaMore
namespace Go.Proofs.Ytbbcckopkbiojaa
open Go.RowKit
set_option linter.unusedVariables false
theorem addr_add (g o k : Nat) : (⟨g, o, none⟩ : Addr).add k = ⟨g, o + k, none⟩ := by
  unfold Addr.add; split
  · next h => subst h; rfl
  · rfl
end Go.Proofs.Ytbbcckopkbiojaa
