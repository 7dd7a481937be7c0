/-
  NARROWER THAN 'FOR EVERY INPUT', by the rows' own cells (each row's printed sentence says how): MkfsMakes: laid · ScanWritten: laid · ScanFilled: laid · MkfsFree: laid.
  DERIVED. THE GIVEN ROWS OF THIS SEAT. 4 by the template 'for every input the law returns true; each argument reads behind the call as it read before'; 0 by the template 'total and deterministic' (their statements: YtnbmmhoofilmfaaDoorTotals.lean).
  GIVEN WITH THE SEED: the statements are not yours to turn. If you find one false, say at which input.
  Laid BY PROGRAM, IN A SANDBOX (cutbox-rows.mjs): the forced cells as the released guide's own fill.sh prints them over the translation 20dfec30bbb5b4ae… (all of the seat's roots in one cut). By AI agents, Wed Nov 11 2026. No macro, syntax, notation, axiom, sorry.
-/
import Derived.Test.YtnbmmhoofilmfaaDoorChecked
import GoSem.Claim
import GoSem.ClaimJoined
import GoSem.ClaimMapViews
import Derived.JoinedTies
import Derived.KernelRfl
namespace Go.Proofs.YtnbmmhoofilmfaaDoor
/- THE CELL 'sum', in the pinned program and in every row, IS THE sha256 OF THE DUMP (.gsa) THAT YtnbmmhoofilmfaaDoorProg.lean LOADS. Nothing in Lean hashes anything: it is a label: what it is worth is what the hold of that sum in a sandbox is worth. -/
noncomputable def Tryd.pinned : Pinned := { name := "ytnbmmhoofilmfaadoor", sum := "20dfec30bbb5b4aecf37a9c25678569b3c03962684991175a7dc98a40063d6af", checked := Tryd.checked }
namespace Rows
def none {H : Type} : Left H := { results := [], args := [] }

/- WHAT THE LISTED PACKAGE-LEVEL VARIABLES READ AS WHEN THE CALL BEGINS. Each datum BY PROGRAM (the guide's laid-datum.mjs) off the statement by which the dump's own 'gosem.cut.vars' lays the variable. In a bare row this is a premise. The card (YtnbmmhoofilmfaaDoorCards.lean) ties it to the program's text. -/
def laid_quern_crc_steps {H : Type} : DataW H := .agg [.lit (.int .u32 0), .lit (.int .u32 498536548), .lit (.int .u32 997073096), .lit (.int .u32 651767980), .lit (.int .u32 1994146192), .lit (.int .u32 1802195444), .lit (.int .u32 1303535960), .lit (.int .u32 1342533948), .lit (.int .u32 3988292384), .lit (.int .u32 4027552580), .lit (.int .u32 3604390888), .lit (.int .u32 3412177804), .lit (.int .u32 2607071920), .lit (.int .u32 2262029012), .lit (.int .u32 2685067896), .lit (.int .u32 3183342108)]

/-- 'quernlaw21.MkfsMakes': WHATEVER THE INPUT: true; the input reads as it did. -/
def mkfsMakesSpec : ChangeSpec := { name := "mkfsMakes", fn := fun _ => fun
  | [d] => { results := [.lit (.bool true)], args := [d] }
  | _ => none }
def mkfsMakesRow : OpenClaim := { program := "ytnbmmhoofilmfaadoor", sum := "20dfec30bbb5b4aecf37a9c25678569b3c03962684991175a7dc98a40063d6af", func := "quern/quernlaw21.MkfsMakes", spec := "mkfsMakes", unfollowed := true, recurses := true, named := ["quern/crc.steps"], apart := false, laid := [("quern/crc.steps", laid_quern_crc_steps)] }
def MkfsMakesSaid : Prop := mkfsMakesRow.holds Tryd.pinned (OpenSpec.ofChange mkfsMakesSpec)

/-- ITS FALSE NEIGHBOUR: 'it returns false'. Refute it at one input. -/
def mkfsMakesWrong : ChangeSpec := { name := "mkfsMakes", fn := fun _ => fun
  | [d] => { results := [.lit (.bool false)], args := [d] }
  | _ => none }
def MkfsMakesWrongFalsely : Prop := mkfsMakesRow.holds Tryd.pinned (OpenSpec.ofChange mkfsMakesWrong)

/-- 'quernlaw18.ScanWritten': WHATEVER THE INPUT: true; the input reads as it did. -/
def scanWrittenSpec : ChangeSpec := { name := "scanWritten", fn := fun _ => fun
  | [d1, d2] => { results := [.lit (.bool true)], args := [d1, d2] }
  | _ => none }
def scanWrittenRow : OpenClaim := { program := "ytnbmmhoofilmfaadoor", sum := "20dfec30bbb5b4aecf37a9c25678569b3c03962684991175a7dc98a40063d6af", func := "quern/quernlaw18.ScanWritten", spec := "scanWritten", unfollowed := true, recurses := true, named := ["quern/crc.steps"], apart := false, laid := [("quern/crc.steps", laid_quern_crc_steps)] }
def ScanWrittenSaid : Prop := scanWrittenRow.holds Tryd.pinned (OpenSpec.ofChange scanWrittenSpec)

/-- ITS FALSE NEIGHBOUR: 'it returns false'. Refute it at one input. -/
def scanWrittenWrong : ChangeSpec := { name := "scanWritten", fn := fun _ => fun
  | [d1, d2] => { results := [.lit (.bool false)], args := [d1, d2] }
  | _ => none }
def ScanWrittenWrongFalsely : Prop := scanWrittenRow.holds Tryd.pinned (OpenSpec.ofChange scanWrittenWrong)

/-- 'quernlaw18.ScanFilled': WHATEVER THE INPUT: true; the input reads as it did. -/
def scanFilledSpec : ChangeSpec := { name := "scanFilled", fn := fun _ => fun
  | [d1, d2, d3] => { results := [.lit (.bool true)], args := [d1, d2, d3] }
  | _ => none }
def scanFilledRow : OpenClaim := { program := "ytnbmmhoofilmfaadoor", sum := "20dfec30bbb5b4aecf37a9c25678569b3c03962684991175a7dc98a40063d6af", func := "quern/quernlaw18.ScanFilled", spec := "scanFilled", unfollowed := true, recurses := true, named := ["quern/crc.steps"], apart := false, laid := [("quern/crc.steps", laid_quern_crc_steps)] }
def ScanFilledSaid : Prop := scanFilledRow.holds Tryd.pinned (OpenSpec.ofChange scanFilledSpec)

/-- ITS FALSE NEIGHBOUR: 'it returns false'. Refute it at one input. -/
def scanFilledWrong : ChangeSpec := { name := "scanFilled", fn := fun _ => fun
  | [d1, d2, d3] => { results := [.lit (.bool false)], args := [d1, d2, d3] }
  | _ => none }
def ScanFilledWrongFalsely : Prop := scanFilledRow.holds Tryd.pinned (OpenSpec.ofChange scanFilledWrong)

/-- 'quernlaw21.MkfsFree': WHATEVER THE INPUT: true; the input reads as it did. -/
def mkfsFreeSpec : ChangeSpec := { name := "mkfsFree", fn := fun _ => fun
  | [d] => { results := [.lit (.bool true)], args := [d] }
  | _ => none }
def mkfsFreeRow : OpenClaim := { program := "ytnbmmhoofilmfaadoor", sum := "20dfec30bbb5b4aecf37a9c25678569b3c03962684991175a7dc98a40063d6af", func := "quern/quernlaw21.MkfsFree", spec := "mkfsFree", inPlace := ["internal/bytealg.IndexByteString"], unfollowed := true, recurses := true, named := ["quern/crc.steps"], apart := false, laid := [("quern/crc.steps", laid_quern_crc_steps)] }
def MkfsFreeSaid : Prop := mkfsFreeRow.holds Tryd.pinned (OpenSpec.ofChange mkfsFreeSpec)

/-- ITS FALSE NEIGHBOUR: 'it returns false'. Refute it at one input. -/
def mkfsFreeWrong : ChangeSpec := { name := "mkfsFree", fn := fun _ => fun
  | [d] => { results := [.lit (.bool false)], args := [d] }
  | _ => none }
def MkfsFreeWrongFalsely : Prop := mkfsFreeRow.holds Tryd.pinned (OpenSpec.ofChange mkfsFreeWrong)

/- THE SECOND FORM. 'bulk': how many values and letters a reading holds, each counted each time it is reached (what is shared counts as often as it is met; a slice's spare places count too). A statement '..UptoSaid' is the law's where the arguments, and the package variables that the reading takes, are together of bulk at most 1048576: NARROWER than '..Said'. Prove '..Said' where nothing that the law and all that it calls make is longer than what came in: it says more and counts as full. Else prove '..UptoSaid'. A law counts once. -/
mutual
def uptoBulk {H : Type} : DataW H → Nat
  | .lit (.string bytes) => bytes.length + 1
  | .lit _ => 1
  | .nil => 1
  | .ptr d => uptoBulk d + 1
  | .slice elems spare => uptoBulkAll elems + uptoBulkAll spare + 1
  | .agg parts => uptoBulkAll parts + 1
  | .iface _ d => uptoBulk d + 1
  | .map entries => uptoBulkEntries entries + 1
  | .held _ => 1
def uptoBulkAll {H : Type} : List (DataW H) → Nat
  | [] => 0
  | d :: r => uptoBulk d + uptoBulkAll r
def uptoBulkEntries {H : Type} : List (Lit × DataW H) → Nat
  | [] => 0
  | x :: r => uptoBulkEntry x + uptoBulkEntries r
def uptoBulkEntry {H : Type} : Lit × DataW H → Nat
  | (.string bytes, d) => bytes.length + uptoBulk d + 1
  | (_, d) => uptoBulk d + 1
 end
def uptoSmall : (H : Type) → List (DataW H) → Bool := fun _ ds => decide (uptoBulkAll ds ≤ 1048576)
def OpenSpec.upto (s : _root_.Go.ChangeSpec) : _root_.Go.OpenSpec := { _root_.Go.OpenSpec.ofChange s with cond := some uptoSmall }

/-- 'quernlaw21.MkfsMakes', WHERE WHAT IT READS IS OF BULK AT MOST 1048576: true; the input reads as it did. -/
def mkfsMakesUptoRow : OpenClaim := { program := "ytnbmmhoofilmfaadoor", sum := "20dfec30bbb5b4aecf37a9c25678569b3c03962684991175a7dc98a40063d6af", func := "quern/quernlaw21.MkfsMakes", spec := "mkfsMakes", unfollowed := true, recurses := true, named := ["quern/crc.steps"], apart := false, laid := [("quern/crc.steps", laid_quern_crc_steps)], narrowed := true }
def MkfsMakesUptoSaid : Prop := mkfsMakesUptoRow.holds Tryd.pinned (OpenSpec.upto mkfsMakesSpec)

/-- 'quernlaw18.ScanWritten', WHERE WHAT IT READS IS OF BULK AT MOST 1048576: true; the input reads as it did. -/
def scanWrittenUptoRow : OpenClaim := { program := "ytnbmmhoofilmfaadoor", sum := "20dfec30bbb5b4aecf37a9c25678569b3c03962684991175a7dc98a40063d6af", func := "quern/quernlaw18.ScanWritten", spec := "scanWritten", unfollowed := true, recurses := true, named := ["quern/crc.steps"], apart := false, laid := [("quern/crc.steps", laid_quern_crc_steps)], narrowed := true }
def ScanWrittenUptoSaid : Prop := scanWrittenUptoRow.holds Tryd.pinned (OpenSpec.upto scanWrittenSpec)

/-- 'quernlaw18.ScanFilled', WHERE WHAT IT READS IS OF BULK AT MOST 1048576: true; the input reads as it did. -/
def scanFilledUptoRow : OpenClaim := { program := "ytnbmmhoofilmfaadoor", sum := "20dfec30bbb5b4aecf37a9c25678569b3c03962684991175a7dc98a40063d6af", func := "quern/quernlaw18.ScanFilled", spec := "scanFilled", unfollowed := true, recurses := true, named := ["quern/crc.steps"], apart := false, laid := [("quern/crc.steps", laid_quern_crc_steps)], narrowed := true }
def ScanFilledUptoSaid : Prop := scanFilledUptoRow.holds Tryd.pinned (OpenSpec.upto scanFilledSpec)

/-- 'quernlaw21.MkfsFree', WHERE WHAT IT READS IS OF BULK AT MOST 1048576: true; the input reads as it did. -/
def mkfsFreeUptoRow : OpenClaim := { program := "ytnbmmhoofilmfaadoor", sum := "20dfec30bbb5b4aecf37a9c25678569b3c03962684991175a7dc98a40063d6af", func := "quern/quernlaw21.MkfsFree", spec := "mkfsFree", inPlace := ["internal/bytealg.IndexByteString"], unfollowed := true, recurses := true, named := ["quern/crc.steps"], apart := false, laid := [("quern/crc.steps", laid_quern_crc_steps)], narrowed := true }
def MkfsFreeUptoSaid : Prop := mkfsFreeUptoRow.holds Tryd.pinned (OpenSpec.upto mkfsFreeSpec)

end Rows
end Go.Proofs.YtnbmmhoofilmfaaDoor
