/- append of bytes onto a row of bytes of one's own, in this program's own numbers. -/
import Derived.Test.YtbbcckopkbiojaaNumsAny
namespace Go.Proofs.Ytbbcckopkbiojaa
open Go.RowKit
theorem info8 : (Try.prog.info? 5).map (fun i => (i.zero, i.size, i.bytes)) = some (some (.int .u8 0), 1, 1) := by kernel_rfl
end Go.Proofs.Ytbbcckopkbiojaa
