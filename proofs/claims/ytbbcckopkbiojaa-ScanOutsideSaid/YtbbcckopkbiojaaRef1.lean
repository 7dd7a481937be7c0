/- Contracts of quernref01: what each function returns, and what it leaves in memory. -/
import Derived.Test.YtbbcckopkbiojaaNums
namespace Go.Proofs.Ytbbcckopkbiojaa
open Go.RowKit
set_option linter.unusedVariables false

end Go.Proofs.Ytbbcckopkbiojaa
