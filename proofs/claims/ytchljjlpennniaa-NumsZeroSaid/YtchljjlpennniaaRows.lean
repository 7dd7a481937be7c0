/-
  No cell of these rows narrows 'for every input' (looked for: loops, veiled, ifaces, maps, wideKeys, modest, calm, conditions, laid).
  DERIVED. THE GIVEN ROWS OF THIS SEAT. 10 by the template 'for every input the law returns true; each argument reads behind the call as it read before'; 0 by the template 'total and deterministic' (their statements: YtchljjlpennniaaTotals.lean).
  GIVEN WITH THE SEED: the statements are not yours to turn. If you find one false, say at which input.
  Laid BY PROGRAM, IN A SANDBOX (cutbox-rows.mjs): the forced cells as the released guide's own fill.sh prints them over the translation 1175b95feeae7f8b… (all of the seat's roots in one cut). By AI agents, Wed Nov 11 2026. No macro, syntax, notation, axiom, sorry.
-/
import Derived.Test.YtchljjlpennniaaChecked
import GoSem.Claim
import GoSem.ClaimJoined
import GoSem.ClaimMapViews
import Derived.JoinedTies
import Derived.KernelRfl
namespace Go.Proofs.Ytchljjlpennniaa
/- THE CELL 'sum', in the pinned program and in every row, IS THE sha256 OF THE DUMP (.gsa) THAT YtchljjlpennniaaProg.lean LOADS. Nothing in Lean hashes anything: it is a label: what it is worth is what the hold of that sum in a sandbox is worth. -/
noncomputable def Try.pinned : Pinned := { name := "ytchljjlpennniaa", sum := "1175b95feeae7f8b4c7d5efc52abf6e9539a94113da264ca71fdee111bc246d7", checked := Try.checked }
namespace Rows
def none {H : Type} : Left H := { results := [], args := [] }

/-- 'quernlaw01.NumsPut': WHATEVER THE INPUT: true; the input reads as it did. -/
def numsPutSpec : ChangeSpec := { name := "numsPut", fn := fun _ => fun
  | [d1, d2, d3] => { results := [.lit (.bool true)], args := [d1, d2, d3] }
  | _ => none }
def numsPutRow : OpenClaim := { program := "ytchljjlpennniaa", sum := "1175b95feeae7f8b4c7d5efc52abf6e9539a94113da264ca71fdee111bc246d7", func := "quern/quernlaw01.NumsPut", spec := "numsPut", apart := false }
def NumsPutSaid : Prop := numsPutRow.holds Try.pinned (OpenSpec.ofChange numsPutSpec)

/-- ITS FALSE NEIGHBOUR: 'it returns false'. Refute it at one input. -/
def numsPutWrong : ChangeSpec := { name := "numsPut", fn := fun _ => fun
  | [d1, d2, d3] => { results := [.lit (.bool false)], args := [d1, d2, d3] }
  | _ => none }
def NumsPutWrongFalsely : Prop := numsPutRow.holds Try.pinned (OpenSpec.ofChange numsPutWrong)

/-- 'quernlaw01.NumsGet': WHATEVER THE INPUT: true; the input reads as it did. -/
def numsGetSpec : ChangeSpec := { name := "numsGet", fn := fun _ => fun
  | [d1, d2] => { results := [.lit (.bool true)], args := [d1, d2] }
  | _ => none }
def numsGetRow : OpenClaim := { program := "ytchljjlpennniaa", sum := "1175b95feeae7f8b4c7d5efc52abf6e9539a94113da264ca71fdee111bc246d7", func := "quern/quernlaw01.NumsGet", spec := "numsGet", apart := false }
def NumsGetSaid : Prop := numsGetRow.holds Try.pinned (OpenSpec.ofChange numsGetSpec)

/-- ITS FALSE NEIGHBOUR: 'it returns false'. Refute it at one input. -/
def numsGetWrong : ChangeSpec := { name := "numsGet", fn := fun _ => fun
  | [d1, d2] => { results := [.lit (.bool false)], args := [d1, d2] }
  | _ => none }
def NumsGetWrongFalsely : Prop := numsGetRow.holds Try.pinned (OpenSpec.ofChange numsGetWrong)

/-- 'quernlaw01.NumsTell': WHATEVER THE INPUT: true; the input reads as it did. -/
def numsTellSpec : ChangeSpec := { name := "numsTell", fn := fun _ => fun
  | [d1, d2] => { results := [.lit (.bool true)], args := [d1, d2] }
  | _ => none }
def numsTellRow : OpenClaim := { program := "ytchljjlpennniaa", sum := "1175b95feeae7f8b4c7d5efc52abf6e9539a94113da264ca71fdee111bc246d7", func := "quern/quernlaw01.NumsTell", spec := "numsTell", unfollowed := true, recurses := true, apart := false }
def NumsTellSaid : Prop := numsTellRow.holds Try.pinned (OpenSpec.ofChange numsTellSpec)

/-- ITS FALSE NEIGHBOUR: 'it returns false'. Refute it at one input. -/
def numsTellWrong : ChangeSpec := { name := "numsTell", fn := fun _ => fun
  | [d1, d2] => { results := [.lit (.bool false)], args := [d1, d2] }
  | _ => none }
def NumsTellWrongFalsely : Prop := numsTellRow.holds Try.pinned (OpenSpec.ofChange numsTellWrong)

/-- 'quernlaw01.NumsHalves': WHATEVER THE INPUT: true; the input reads as it did. -/
def numsHalvesSpec : ChangeSpec := { name := "numsHalves", fn := fun _ => fun
  | [d1, d2] => { results := [.lit (.bool true)], args := [d1, d2] }
  | _ => none }
def numsHalvesRow : OpenClaim := { program := "ytchljjlpennniaa", sum := "1175b95feeae7f8b4c7d5efc52abf6e9539a94113da264ca71fdee111bc246d7", func := "quern/quernlaw01.NumsHalves", spec := "numsHalves", apart := false }
def NumsHalvesSaid : Prop := numsHalvesRow.holds Try.pinned (OpenSpec.ofChange numsHalvesSpec)

/-- ITS FALSE NEIGHBOUR: 'it returns false'. Refute it at one input. -/
def numsHalvesWrong : ChangeSpec := { name := "numsHalves", fn := fun _ => fun
  | [d1, d2] => { results := [.lit (.bool false)], args := [d1, d2] }
  | _ => none }
def NumsHalvesWrongFalsely : Prop := numsHalvesRow.holds Try.pinned (OpenSpec.ofChange numsHalvesWrong)

/-- 'quernlaw01.NumsNoughts': WHATEVER THE INPUT: true; the input reads as it did. -/
def numsNoughtsSpec : ChangeSpec := { name := "numsNoughts", fn := fun _ => fun
  | [d1, d2, d3] => { results := [.lit (.bool true)], args := [d1, d2, d3] }
  | _ => none }
def numsNoughtsRow : OpenClaim := { program := "ytchljjlpennniaa", sum := "1175b95feeae7f8b4c7d5efc52abf6e9539a94113da264ca71fdee111bc246d7", func := "quern/quernlaw01.NumsNoughts", spec := "numsNoughts", apart := false }
def NumsNoughtsSaid : Prop := numsNoughtsRow.holds Try.pinned (OpenSpec.ofChange numsNoughtsSpec)

/-- ITS FALSE NEIGHBOUR: 'it returns false'. Refute it at one input. -/
def numsNoughtsWrong : ChangeSpec := { name := "numsNoughts", fn := fun _ => fun
  | [d1, d2, d3] => { results := [.lit (.bool false)], args := [d1, d2, d3] }
  | _ => none }
def NumsNoughtsWrongFalsely : Prop := numsNoughtsRow.holds Try.pinned (OpenSpec.ofChange numsNoughtsWrong)

/-- 'quernlaw01.NumsBack': WHATEVER THE INPUT: true; the input reads as it did. -/
def numsBackSpec : ChangeSpec := { name := "numsBack", fn := fun _ => fun
  | [d1, d2, d3] => { results := [.lit (.bool true)], args := [d1, d2, d3] }
  | _ => none }
def numsBackRow : OpenClaim := { program := "ytchljjlpennniaa", sum := "1175b95feeae7f8b4c7d5efc52abf6e9539a94113da264ca71fdee111bc246d7", func := "quern/quernlaw01.NumsBack", spec := "numsBack", apart := false }
def NumsBackSaid : Prop := numsBackRow.holds Try.pinned (OpenSpec.ofChange numsBackSpec)

/-- ITS FALSE NEIGHBOUR: 'it returns false'. Refute it at one input. -/
def numsBackWrong : ChangeSpec := { name := "numsBack", fn := fun _ => fun
  | [d1, d2, d3] => { results := [.lit (.bool false)], args := [d1, d2, d3] }
  | _ => none }
def NumsBackWrongFalsely : Prop := numsBackRow.holds Try.pinned (OpenSpec.ofChange numsBackWrong)

/-- 'quernlaw01.NumsOrder': WHATEVER THE INPUT: true; the input reads as it did. -/
def numsOrderSpec : ChangeSpec := { name := "numsOrder", fn := fun _ => fun
  | [d1, d2, d3, d4, d5] => { results := [.lit (.bool true)], args := [d1, d2, d3, d4, d5] }
  | _ => none }
def numsOrderRow : OpenClaim := { program := "ytchljjlpennniaa", sum := "1175b95feeae7f8b4c7d5efc52abf6e9539a94113da264ca71fdee111bc246d7", func := "quern/quernlaw01.NumsOrder", spec := "numsOrder", apart := false }
def NumsOrderSaid : Prop := numsOrderRow.holds Try.pinned (OpenSpec.ofChange numsOrderSpec)

/-- ITS FALSE NEIGHBOUR: 'it returns false'. Refute it at one input. -/
def numsOrderWrong : ChangeSpec := { name := "numsOrder", fn := fun _ => fun
  | [d1, d2, d3, d4, d5] => { results := [.lit (.bool false)], args := [d1, d2, d3, d4, d5] }
  | _ => none }
def NumsOrderWrongFalsely : Prop := numsOrderRow.holds Try.pinned (OpenSpec.ofChange numsOrderWrong)

/-- 'quernlaw01.NumsZero': WHATEVER THE INPUT: true; the input reads as it did. -/
def numsZeroSpec : ChangeSpec := { name := "numsZero", fn := fun _ => fun
  | [d] => { results := [.lit (.bool true)], args := [d] }
  | _ => none }
def numsZeroRow : OpenClaim := { program := "ytchljjlpennniaa", sum := "1175b95feeae7f8b4c7d5efc52abf6e9539a94113da264ca71fdee111bc246d7", func := "quern/quernlaw01.NumsZero", spec := "numsZero", unfollowed := true, recurses := true, apart := false }
def NumsZeroSaid : Prop := numsZeroRow.holds Try.pinned (OpenSpec.ofChange numsZeroSpec)

/-- ITS FALSE NEIGHBOUR: 'it returns false'. Refute it at one input. -/
def numsZeroWrong : ChangeSpec := { name := "numsZero", fn := fun _ => fun
  | [d] => { results := [.lit (.bool false)], args := [d] }
  | _ => none }
def NumsZeroWrongFalsely : Prop := numsZeroRow.holds Try.pinned (OpenSpec.ofChange numsZeroWrong)

/-- 'quernlaw15.PackSizes': WHATEVER THE INPUT: true; the input reads as it did. -/
def packSizesSpec : ChangeSpec := { name := "packSizes", fn := fun _ => fun
  | [d1, d2] => { results := [.lit (.bool true)], args := [d1, d2] }
  | _ => none }
def packSizesRow : OpenClaim := { program := "ytchljjlpennniaa", sum := "1175b95feeae7f8b4c7d5efc52abf6e9539a94113da264ca71fdee111bc246d7", func := "quern/quernlaw15.PackSizes", spec := "packSizes", apart := false }
def PackSizesSaid : Prop := packSizesRow.holds Try.pinned (OpenSpec.ofChange packSizesSpec)

/-- ITS FALSE NEIGHBOUR: 'it returns false'. Refute it at one input. -/
def packSizesWrong : ChangeSpec := { name := "packSizes", fn := fun _ => fun
  | [d1, d2] => { results := [.lit (.bool false)], args := [d1, d2] }
  | _ => none }
def PackSizesWrongFalsely : Prop := packSizesRow.holds Try.pinned (OpenSpec.ofChange packSizesWrong)

/-- 'quernlaw18.ScanOutside': WHATEVER THE INPUT: true; the input reads as it did. -/
def scanOutsideSpec : ChangeSpec := { name := "scanOutside", fn := fun _ => fun
  | [d1, d2] => { results := [.lit (.bool true)], args := [d1, d2] }
  | _ => none }
def scanOutsideRow : OpenClaim := { program := "ytchljjlpennniaa", sum := "1175b95feeae7f8b4c7d5efc52abf6e9539a94113da264ca71fdee111bc246d7", func := "quern/quernlaw18.ScanOutside", spec := "scanOutside", unfollowed := true, recurses := true, apart := false }
def ScanOutsideSaid : Prop := scanOutsideRow.holds Try.pinned (OpenSpec.ofChange scanOutsideSpec)

/-- ITS FALSE NEIGHBOUR: 'it returns false'. Refute it at one input. -/
def scanOutsideWrong : ChangeSpec := { name := "scanOutside", fn := fun _ => fun
  | [d1, d2] => { results := [.lit (.bool false)], args := [d1, d2] }
  | _ => none }
def ScanOutsideWrongFalsely : Prop := scanOutsideRow.holds Try.pinned (OpenSpec.ofChange scanOutsideWrong)

/- THE SECOND FORM. 'bulk': how many values and letters a reading holds, each counted each time it is reached (what is shared counts as often as it is met; a slice's spare places count too). A statement '..UptoSaid' is the law's where the arguments, and the package variables that the reading takes, are together of bulk at most 1048576: NARROWER than '..Said'. Prove '..Said' where nothing that the law and all that it calls make is longer than what came in: it says more and counts as full. Else prove '..UptoSaid'. A law counts once. -/
mutual
def uptoBulk {H : Type} : DataW H → Nat
  | .lit (.string bytes) => bytes.length + 1
  | .lit _ => 1
  | .nil => 1
  | .ptr d => uptoBulk d + 1
  | .slice elems spare => uptoBulkAll elems + uptoBulkAll spare + 1
  | .agg parts => uptoBulkAll parts + 1
  | .iface _ d => uptoBulk d + 1
  | .map entries => uptoBulkEntries entries + 1
  | .held _ => 1
def uptoBulkAll {H : Type} : List (DataW H) → Nat
  | [] => 0
  | d :: r => uptoBulk d + uptoBulkAll r
def uptoBulkEntries {H : Type} : List (Lit × DataW H) → Nat
  | [] => 0
  | x :: r => uptoBulkEntry x + uptoBulkEntries r
def uptoBulkEntry {H : Type} : Lit × DataW H → Nat
  | (.string bytes, d) => bytes.length + uptoBulk d + 1
  | (_, d) => uptoBulk d + 1
 end
def uptoSmall : (H : Type) → List (DataW H) → Bool := fun _ ds => decide (uptoBulkAll ds ≤ 1048576)
def OpenSpec.upto (s : _root_.Go.ChangeSpec) : _root_.Go.OpenSpec := { _root_.Go.OpenSpec.ofChange s with cond := some uptoSmall }

/-- 'quernlaw01.NumsPut', WHERE WHAT IT READS IS OF BULK AT MOST 1048576: true; the input reads as it did. -/
def numsPutUptoRow : OpenClaim := { program := "ytchljjlpennniaa", sum := "1175b95feeae7f8b4c7d5efc52abf6e9539a94113da264ca71fdee111bc246d7", func := "quern/quernlaw01.NumsPut", spec := "numsPut", apart := false, narrowed := true }
def NumsPutUptoSaid : Prop := numsPutUptoRow.holds Try.pinned (OpenSpec.upto numsPutSpec)

/-- 'quernlaw01.NumsGet', WHERE WHAT IT READS IS OF BULK AT MOST 1048576: true; the input reads as it did. -/
def numsGetUptoRow : OpenClaim := { program := "ytchljjlpennniaa", sum := "1175b95feeae7f8b4c7d5efc52abf6e9539a94113da264ca71fdee111bc246d7", func := "quern/quernlaw01.NumsGet", spec := "numsGet", apart := false, narrowed := true }
def NumsGetUptoSaid : Prop := numsGetUptoRow.holds Try.pinned (OpenSpec.upto numsGetSpec)

/-- 'quernlaw01.NumsTell', WHERE WHAT IT READS IS OF BULK AT MOST 1048576: true; the input reads as it did. -/
def numsTellUptoRow : OpenClaim := { program := "ytchljjlpennniaa", sum := "1175b95feeae7f8b4c7d5efc52abf6e9539a94113da264ca71fdee111bc246d7", func := "quern/quernlaw01.NumsTell", spec := "numsTell", unfollowed := true, recurses := true, apart := false, narrowed := true }
def NumsTellUptoSaid : Prop := numsTellUptoRow.holds Try.pinned (OpenSpec.upto numsTellSpec)

/-- 'quernlaw01.NumsHalves', WHERE WHAT IT READS IS OF BULK AT MOST 1048576: true; the input reads as it did. -/
def numsHalvesUptoRow : OpenClaim := { program := "ytchljjlpennniaa", sum := "1175b95feeae7f8b4c7d5efc52abf6e9539a94113da264ca71fdee111bc246d7", func := "quern/quernlaw01.NumsHalves", spec := "numsHalves", apart := false, narrowed := true }
def NumsHalvesUptoSaid : Prop := numsHalvesUptoRow.holds Try.pinned (OpenSpec.upto numsHalvesSpec)

/-- 'quernlaw01.NumsNoughts', WHERE WHAT IT READS IS OF BULK AT MOST 1048576: true; the input reads as it did. -/
def numsNoughtsUptoRow : OpenClaim := { program := "ytchljjlpennniaa", sum := "1175b95feeae7f8b4c7d5efc52abf6e9539a94113da264ca71fdee111bc246d7", func := "quern/quernlaw01.NumsNoughts", spec := "numsNoughts", apart := false, narrowed := true }
def NumsNoughtsUptoSaid : Prop := numsNoughtsUptoRow.holds Try.pinned (OpenSpec.upto numsNoughtsSpec)

/-- 'quernlaw01.NumsBack', WHERE WHAT IT READS IS OF BULK AT MOST 1048576: true; the input reads as it did. -/
def numsBackUptoRow : OpenClaim := { program := "ytchljjlpennniaa", sum := "1175b95feeae7f8b4c7d5efc52abf6e9539a94113da264ca71fdee111bc246d7", func := "quern/quernlaw01.NumsBack", spec := "numsBack", apart := false, narrowed := true }
def NumsBackUptoSaid : Prop := numsBackUptoRow.holds Try.pinned (OpenSpec.upto numsBackSpec)

/-- 'quernlaw01.NumsOrder', WHERE WHAT IT READS IS OF BULK AT MOST 1048576: true; the input reads as it did. -/
def numsOrderUptoRow : OpenClaim := { program := "ytchljjlpennniaa", sum := "1175b95feeae7f8b4c7d5efc52abf6e9539a94113da264ca71fdee111bc246d7", func := "quern/quernlaw01.NumsOrder", spec := "numsOrder", apart := false, narrowed := true }
def NumsOrderUptoSaid : Prop := numsOrderUptoRow.holds Try.pinned (OpenSpec.upto numsOrderSpec)

/-- 'quernlaw01.NumsZero', WHERE WHAT IT READS IS OF BULK AT MOST 1048576: true; the input reads as it did. -/
def numsZeroUptoRow : OpenClaim := { program := "ytchljjlpennniaa", sum := "1175b95feeae7f8b4c7d5efc52abf6e9539a94113da264ca71fdee111bc246d7", func := "quern/quernlaw01.NumsZero", spec := "numsZero", unfollowed := true, recurses := true, apart := false, narrowed := true }
def NumsZeroUptoSaid : Prop := numsZeroUptoRow.holds Try.pinned (OpenSpec.upto numsZeroSpec)

/-- 'quernlaw15.PackSizes', WHERE WHAT IT READS IS OF BULK AT MOST 1048576: true; the input reads as it did. -/
def packSizesUptoRow : OpenClaim := { program := "ytchljjlpennniaa", sum := "1175b95feeae7f8b4c7d5efc52abf6e9539a94113da264ca71fdee111bc246d7", func := "quern/quernlaw15.PackSizes", spec := "packSizes", apart := false, narrowed := true }
def PackSizesUptoSaid : Prop := packSizesUptoRow.holds Try.pinned (OpenSpec.upto packSizesSpec)

/-- 'quernlaw18.ScanOutside', WHERE WHAT IT READS IS OF BULK AT MOST 1048576: true; the input reads as it did. -/
def scanOutsideUptoRow : OpenClaim := { program := "ytchljjlpennniaa", sum := "1175b95feeae7f8b4c7d5efc52abf6e9539a94113da264ca71fdee111bc246d7", func := "quern/quernlaw18.ScanOutside", spec := "scanOutside", unfollowed := true, recurses := true, apart := false, narrowed := true }
def ScanOutsideUptoSaid : Prop := scanOutsideUptoRow.holds Try.pinned (OpenSpec.upto scanOutsideSpec)

end Rows
end Go.Proofs.Ytchljjlpennniaa
