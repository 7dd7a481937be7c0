/-
  NARROWER THAN 'FOR EVERY INPUT', by the rows' own cells (each row's printed sentence says how): CheckRules: laid · CheckBlocks: laid · CheckOwners: laid · CheckTree: laid · CheckBytes: laid.
  DERIVED. THE GIVEN ROWS OF THIS SEAT. 5 by the template 'for every input the law returns true; each argument reads behind the call as it read before'; 0 by the template 'total and deterministic' (their statements: YtphamecphmbipaaGreatDoorTotals.lean).
  GIVEN WITH THE SEED: the statements are not yours to turn. If you find one false, say at which input.
  Laid BY PROGRAM, IN A SANDBOX (cutbox-rows.mjs): the forced cells as the released guide's own fill.sh prints them over the translation d2821a3adf0bcace… (all of the seat's roots in one cut). By AI agents, Wed Nov 11 2026. No macro, syntax, notation, axiom, sorry.
-/
import Derived.Test.YtphamecphmbipaaGreatDoorChecked
import GoSem.Claim
import GoSem.ClaimJoined
import GoSem.ClaimMapViews
import Derived.JoinedTies
import Derived.KernelRfl
namespace Go.Proofs.YtphamecphmbipaaGreatDoor
/- THE CELL 'sum', in the pinned program and in every row, IS THE sha256 OF THE DUMP (.gsa) THAT YtphamecphmbipaaGreatDoorProg.lean LOADS. Nothing in Lean hashes anything: it is a label: what it is worth is what the hold of that sum in a sandbox is worth. -/
noncomputable def Tryz.pinned : Pinned := { name := "ytphamecphmbipaagreatdoor", sum := "d2821a3adf0bcaceeb1e5e1631194b9d7df8455e5ccf46c87a3ad15aae7b3b02", checked := Tryz.checked }
namespace Rows
def none {H : Type} : Left H := { results := [], args := [] }

/- WHAT THE LISTED PACKAGE-LEVEL VARIABLES READ AS WHEN THE CALL BEGINS. Each datum BY PROGRAM (the guide's laid-datum.mjs) off the statement by which the dump's own 'gosem.cut.vars' lays the variable. In a bare row this is a premise. The card (YtphamecphmbipaaGreatDoorCards.lean) ties it to the program's text. -/
def laid_quern_crc_steps {H : Type} : DataW H := .agg [.lit (.int .u32 0), .lit (.int .u32 498536548), .lit (.int .u32 997073096), .lit (.int .u32 651767980), .lit (.int .u32 1994146192), .lit (.int .u32 1802195444), .lit (.int .u32 1303535960), .lit (.int .u32 1342533948), .lit (.int .u32 3988292384), .lit (.int .u32 4027552580), .lit (.int .u32 3604390888), .lit (.int .u32 3412177804), .lit (.int .u32 2607071920), .lit (.int .u32 2262029012), .lit (.int .u32 2685067896), .lit (.int .u32 3183342108)]

/-- 'quernlaw20.CheckRules': WHATEVER THE INPUT: true; the input reads as it did. -/
def checkRulesSpec : ChangeSpec := { name := "checkRules", fn := fun _ => fun
  | [d1, d2] => { results := [.lit (.bool true)], args := [d1, d2] }
  | _ => none }
def checkRulesRow : OpenClaim := { program := "ytphamecphmbipaagreatdoor", sum := "d2821a3adf0bcaceeb1e5e1631194b9d7df8455e5ccf46c87a3ad15aae7b3b02", func := "quern/quernlaw20.CheckRules", spec := "checkRules", inPlace := ["internal/bytealg.IndexByteString"], unfollowed := true, recurses := true, named := ["quern/crc.steps"], apart := false, laid := [("quern/crc.steps", laid_quern_crc_steps)] }
def CheckRulesSaid : Prop := checkRulesRow.holds Tryz.pinned (OpenSpec.ofChange checkRulesSpec)

/-- ITS FALSE NEIGHBOUR: 'it returns false'. Refute it at one input. -/
def checkRulesWrong : ChangeSpec := { name := "checkRules", fn := fun _ => fun
  | [d1, d2] => { results := [.lit (.bool false)], args := [d1, d2] }
  | _ => none }
def CheckRulesWrongFalsely : Prop := checkRulesRow.holds Tryz.pinned (OpenSpec.ofChange checkRulesWrong)

/-- 'quernlaw20.CheckBlocks': WHATEVER THE INPUT: true; the input reads as it did. -/
def checkBlocksSpec : ChangeSpec := { name := "checkBlocks", fn := fun _ => fun
  | [d1, d2, d3, d4] => { results := [.lit (.bool true)], args := [d1, d2, d3, d4] }
  | _ => none }
def checkBlocksRow : OpenClaim := { program := "ytphamecphmbipaagreatdoor", sum := "d2821a3adf0bcaceeb1e5e1631194b9d7df8455e5ccf46c87a3ad15aae7b3b02", func := "quern/quernlaw20.CheckBlocks", spec := "checkBlocks", inPlace := ["internal/bytealg.IndexByteString"], unfollowed := true, recurses := true, named := ["quern/crc.steps"], apart := false, laid := [("quern/crc.steps", laid_quern_crc_steps)] }
def CheckBlocksSaid : Prop := checkBlocksRow.holds Tryz.pinned (OpenSpec.ofChange checkBlocksSpec)

/-- ITS FALSE NEIGHBOUR: 'it returns false'. Refute it at one input. -/
def checkBlocksWrong : ChangeSpec := { name := "checkBlocks", fn := fun _ => fun
  | [d1, d2, d3, d4] => { results := [.lit (.bool false)], args := [d1, d2, d3, d4] }
  | _ => none }
def CheckBlocksWrongFalsely : Prop := checkBlocksRow.holds Tryz.pinned (OpenSpec.ofChange checkBlocksWrong)

/-- 'quernlaw20.CheckOwners': WHATEVER THE INPUT: true; the input reads as it did. -/
def checkOwnersSpec : ChangeSpec := { name := "checkOwners", fn := fun _ => fun
  | [d] => { results := [.lit (.bool true)], args := [d] }
  | _ => none }
def checkOwnersRow : OpenClaim := { program := "ytphamecphmbipaagreatdoor", sum := "d2821a3adf0bcaceeb1e5e1631194b9d7df8455e5ccf46c87a3ad15aae7b3b02", func := "quern/quernlaw20.CheckOwners", spec := "checkOwners", inPlace := ["internal/bytealg.IndexByteString"], unfollowed := true, recurses := true, named := ["quern/crc.steps"], apart := false, laid := [("quern/crc.steps", laid_quern_crc_steps)] }
def CheckOwnersSaid : Prop := checkOwnersRow.holds Tryz.pinned (OpenSpec.ofChange checkOwnersSpec)

/-- ITS FALSE NEIGHBOUR: 'it returns false'. Refute it at one input. -/
def checkOwnersWrong : ChangeSpec := { name := "checkOwners", fn := fun _ => fun
  | [d] => { results := [.lit (.bool false)], args := [d] }
  | _ => none }
def CheckOwnersWrongFalsely : Prop := checkOwnersRow.holds Tryz.pinned (OpenSpec.ofChange checkOwnersWrong)

/-- 'quernlaw20.CheckTree': WHATEVER THE INPUT: true; the input reads as it did. -/
def checkTreeSpec : ChangeSpec := { name := "checkTree", fn := fun _ => fun
  | [d] => { results := [.lit (.bool true)], args := [d] }
  | _ => none }
def checkTreeRow : OpenClaim := { program := "ytphamecphmbipaagreatdoor", sum := "d2821a3adf0bcaceeb1e5e1631194b9d7df8455e5ccf46c87a3ad15aae7b3b02", func := "quern/quernlaw20.CheckTree", spec := "checkTree", inPlace := ["internal/bytealg.IndexByteString"], unfollowed := true, recurses := true, named := ["quern/crc.steps"], apart := false, laid := [("quern/crc.steps", laid_quern_crc_steps)] }
def CheckTreeSaid : Prop := checkTreeRow.holds Tryz.pinned (OpenSpec.ofChange checkTreeSpec)

/-- ITS FALSE NEIGHBOUR: 'it returns false'. Refute it at one input. -/
def checkTreeWrong : ChangeSpec := { name := "checkTree", fn := fun _ => fun
  | [d] => { results := [.lit (.bool false)], args := [d] }
  | _ => none }
def CheckTreeWrongFalsely : Prop := checkTreeRow.holds Tryz.pinned (OpenSpec.ofChange checkTreeWrong)

/-- 'quernlaw20.CheckBytes': WHATEVER THE INPUT: true; the input reads as it did. -/
def checkBytesSpec : ChangeSpec := { name := "checkBytes", fn := fun _ => fun
  | [d1, d2, d3] => { results := [.lit (.bool true)], args := [d1, d2, d3] }
  | _ => none }
def checkBytesRow : OpenClaim := { program := "ytphamecphmbipaagreatdoor", sum := "d2821a3adf0bcaceeb1e5e1631194b9d7df8455e5ccf46c87a3ad15aae7b3b02", func := "quern/quernlaw20.CheckBytes", spec := "checkBytes", inPlace := ["internal/bytealg.IndexByteString"], unfollowed := true, recurses := true, named := ["quern/crc.steps"], apart := false, laid := [("quern/crc.steps", laid_quern_crc_steps)] }
def CheckBytesSaid : Prop := checkBytesRow.holds Tryz.pinned (OpenSpec.ofChange checkBytesSpec)

/-- ITS FALSE NEIGHBOUR: 'it returns false'. Refute it at one input. -/
def checkBytesWrong : ChangeSpec := { name := "checkBytes", fn := fun _ => fun
  | [d1, d2, d3] => { results := [.lit (.bool false)], args := [d1, d2, d3] }
  | _ => none }
def CheckBytesWrongFalsely : Prop := checkBytesRow.holds Tryz.pinned (OpenSpec.ofChange checkBytesWrong)

/- THE SECOND FORM. 'bulk': how many values and letters a reading holds, each counted each time it is reached (what is shared counts as often as it is met; a slice's spare places count too). A statement '..UptoSaid' is the law's where the arguments, and the package variables that the reading takes, are together of bulk at most 1048576: NARROWER than '..Said'. Prove '..Said' where nothing that the law and all that it calls make is longer than what came in: it says more and counts as full. Else prove '..UptoSaid'. A law counts once. -/
mutual
def uptoBulk {H : Type} : DataW H → Nat
  | .lit (.string bytes) => bytes.length + 1
  | .lit _ => 1
  | .nil => 1
  | .ptr d => uptoBulk d + 1
  | .slice elems spare => uptoBulkAll elems + uptoBulkAll spare + 1
  | .agg parts => uptoBulkAll parts + 1
  | .iface _ d => uptoBulk d + 1
  | .map entries => uptoBulkEntries entries + 1
  | .held _ => 1
def uptoBulkAll {H : Type} : List (DataW H) → Nat
  | [] => 0
  | d :: r => uptoBulk d + uptoBulkAll r
def uptoBulkEntries {H : Type} : List (Lit × DataW H) → Nat
  | [] => 0
  | x :: r => uptoBulkEntry x + uptoBulkEntries r
def uptoBulkEntry {H : Type} : Lit × DataW H → Nat
  | (.string bytes, d) => bytes.length + uptoBulk d + 1
  | (_, d) => uptoBulk d + 1
 end
def uptoSmall : (H : Type) → List (DataW H) → Bool := fun _ ds => decide (uptoBulkAll ds ≤ 1048576)
def OpenSpec.upto (s : _root_.Go.ChangeSpec) : _root_.Go.OpenSpec := { _root_.Go.OpenSpec.ofChange s with cond := some uptoSmall }

/-- 'quernlaw20.CheckRules', WHERE WHAT IT READS IS OF BULK AT MOST 1048576: true; the input reads as it did. -/
def checkRulesUptoRow : OpenClaim := { program := "ytphamecphmbipaagreatdoor", sum := "d2821a3adf0bcaceeb1e5e1631194b9d7df8455e5ccf46c87a3ad15aae7b3b02", func := "quern/quernlaw20.CheckRules", spec := "checkRules", inPlace := ["internal/bytealg.IndexByteString"], unfollowed := true, recurses := true, named := ["quern/crc.steps"], apart := false, laid := [("quern/crc.steps", laid_quern_crc_steps)], narrowed := true }
def CheckRulesUptoSaid : Prop := checkRulesUptoRow.holds Tryz.pinned (OpenSpec.upto checkRulesSpec)

/-- 'quernlaw20.CheckBlocks', WHERE WHAT IT READS IS OF BULK AT MOST 1048576: true; the input reads as it did. -/
def checkBlocksUptoRow : OpenClaim := { program := "ytphamecphmbipaagreatdoor", sum := "d2821a3adf0bcaceeb1e5e1631194b9d7df8455e5ccf46c87a3ad15aae7b3b02", func := "quern/quernlaw20.CheckBlocks", spec := "checkBlocks", inPlace := ["internal/bytealg.IndexByteString"], unfollowed := true, recurses := true, named := ["quern/crc.steps"], apart := false, laid := [("quern/crc.steps", laid_quern_crc_steps)], narrowed := true }
def CheckBlocksUptoSaid : Prop := checkBlocksUptoRow.holds Tryz.pinned (OpenSpec.upto checkBlocksSpec)

/-- 'quernlaw20.CheckOwners', WHERE WHAT IT READS IS OF BULK AT MOST 1048576: true; the input reads as it did. -/
def checkOwnersUptoRow : OpenClaim := { program := "ytphamecphmbipaagreatdoor", sum := "d2821a3adf0bcaceeb1e5e1631194b9d7df8455e5ccf46c87a3ad15aae7b3b02", func := "quern/quernlaw20.CheckOwners", spec := "checkOwners", inPlace := ["internal/bytealg.IndexByteString"], unfollowed := true, recurses := true, named := ["quern/crc.steps"], apart := false, laid := [("quern/crc.steps", laid_quern_crc_steps)], narrowed := true }
def CheckOwnersUptoSaid : Prop := checkOwnersUptoRow.holds Tryz.pinned (OpenSpec.upto checkOwnersSpec)

/-- 'quernlaw20.CheckTree', WHERE WHAT IT READS IS OF BULK AT MOST 1048576: true; the input reads as it did. -/
def checkTreeUptoRow : OpenClaim := { program := "ytphamecphmbipaagreatdoor", sum := "d2821a3adf0bcaceeb1e5e1631194b9d7df8455e5ccf46c87a3ad15aae7b3b02", func := "quern/quernlaw20.CheckTree", spec := "checkTree", inPlace := ["internal/bytealg.IndexByteString"], unfollowed := true, recurses := true, named := ["quern/crc.steps"], apart := false, laid := [("quern/crc.steps", laid_quern_crc_steps)], narrowed := true }
def CheckTreeUptoSaid : Prop := checkTreeUptoRow.holds Tryz.pinned (OpenSpec.upto checkTreeSpec)

/-- 'quernlaw20.CheckBytes', WHERE WHAT IT READS IS OF BULK AT MOST 1048576: true; the input reads as it did. -/
def checkBytesUptoRow : OpenClaim := { program := "ytphamecphmbipaagreatdoor", sum := "d2821a3adf0bcaceeb1e5e1631194b9d7df8455e5ccf46c87a3ad15aae7b3b02", func := "quern/quernlaw20.CheckBytes", spec := "checkBytes", inPlace := ["internal/bytealg.IndexByteString"], unfollowed := true, recurses := true, named := ["quern/crc.steps"], apart := false, laid := [("quern/crc.steps", laid_quern_crc_steps)], narrowed := true }
def CheckBytesUptoSaid : Prop := checkBytesUptoRow.holds Tryz.pinned (OpenSpec.upto checkBytesSpec)

end Rows
end Go.Proofs.YtphamecphmbipaaGreatDoor
