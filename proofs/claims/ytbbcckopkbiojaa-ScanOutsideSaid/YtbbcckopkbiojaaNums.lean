/- Contracts of package nums and of quernref01: what each function returns, and what it leaves in memory. -/
import Derived.Test.YtbbcckopkbiojaaRows
import Derived.Test.YtbbcckopkbiojaaMem
import Derived.WalkKit
import Derived.Outline
import Derived.Deep.QuietTactic
import Derived.BigQuiet
import Derived.IntWalk
namespace Go.Proofs.Ytbbcckopkbiojaa
open Go.RowKit
set_option linter.unusedVariables false

end Go.Proofs.Ytbbcckopkbiojaa
