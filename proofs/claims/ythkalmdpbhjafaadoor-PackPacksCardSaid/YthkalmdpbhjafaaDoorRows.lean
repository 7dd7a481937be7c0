/-
  NARROWER THAN 'FOR EVERY INPUT', by the rows' own cells (each row's printed sentence says how): PackPacks: laid · PackUnpacks: laid · PackBack: laid · PackWhole: laid · PackRead: laid · PackTwo: laid · PackGrows: laid · PackSeq: laid.
  DERIVED. THE GIVEN ROWS OF THIS SEAT. 8 by the template 'for every input the law returns true; each argument reads behind the call as it read before'; 0 by the template 'total and deterministic' (their statements: YthkalmdpbhjafaaDoorTotals.lean).
  GIVEN WITH THE SEED: the statements are not yours to turn. If you find one false, say at which input.
  Laid BY PROGRAM, IN A SANDBOX (cutbox-rows.mjs): the forced cells as the released guide's own fill.sh prints them over the translation 351d1c638a3a8bf3… (all of the seat's roots in one cut). By AI agents, Wed Nov 11 2026. No macro, syntax, notation, axiom, sorry.
-/
import Derived.Test.YthkalmdpbhjafaaDoorChecked
import GoSem.Claim
import GoSem.ClaimJoined
import GoSem.ClaimMapViews
import Derived.JoinedTies
import Derived.KernelRfl
namespace Go.Proofs.YthkalmdpbhjafaaDoor
/- THE CELL 'sum', in the pinned program and in every row, IS THE sha256 OF THE DUMP (.gsa) THAT YthkalmdpbhjafaaDoorProg.lean LOADS. Nothing in Lean hashes anything: it is a label: what it is worth is what the hold of that sum in a sandbox is worth. -/
noncomputable def Tryd.pinned : Pinned := { name := "ythkalmdpbhjafaadoor", sum := "351d1c638a3a8bf3fe1d76f1a5e913f307f14b7cb1084fab59841ce814e17af9", checked := Tryd.checked }
namespace Rows
def none {H : Type} : Left H := { results := [], args := [] }

/- WHAT THE LISTED PACKAGE-LEVEL VARIABLES READ AS WHEN THE CALL BEGINS. Each datum BY PROGRAM (the guide's laid-datum.mjs) off the statement by which the dump's own 'gosem.cut.vars' lays the variable. In a bare row this is a premise. The card (YthkalmdpbhjafaaDoorCards.lean) ties it to the program's text. -/
def laid_quern_crc_steps {H : Type} : DataW H := .agg [.lit (.int .u32 0), .lit (.int .u32 498536548), .lit (.int .u32 997073096), .lit (.int .u32 651767980), .lit (.int .u32 1994146192), .lit (.int .u32 1802195444), .lit (.int .u32 1303535960), .lit (.int .u32 1342533948), .lit (.int .u32 3988292384), .lit (.int .u32 4027552580), .lit (.int .u32 3604390888), .lit (.int .u32 3412177804), .lit (.int .u32 2607071920), .lit (.int .u32 2262029012), .lit (.int .u32 2685067896), .lit (.int .u32 3183342108)]

/-- 'quernlaw15.PackPacks': WHATEVER THE INPUT: true; the input reads as it did. -/
def packPacksSpec : ChangeSpec := { name := "packPacks", fn := fun _ => fun
  | [d1, d2, d3] => { results := [.lit (.bool true)], args := [d1, d2, d3] }
  | _ => none }
def packPacksRow : OpenClaim := { program := "ythkalmdpbhjafaadoor", sum := "351d1c638a3a8bf3fe1d76f1a5e913f307f14b7cb1084fab59841ce814e17af9", func := "quern/quernlaw15.PackPacks", spec := "packPacks", unfollowed := true, recurses := true, named := ["quern/crc.steps"], apart := false, laid := [("quern/crc.steps", laid_quern_crc_steps)] }
def PackPacksSaid : Prop := packPacksRow.holds Tryd.pinned (OpenSpec.ofChange packPacksSpec)

/-- ITS FALSE NEIGHBOUR: 'it returns false'. Refute it at one input. -/
def packPacksWrong : ChangeSpec := { name := "packPacks", fn := fun _ => fun
  | [d1, d2, d3] => { results := [.lit (.bool false)], args := [d1, d2, d3] }
  | _ => none }
def PackPacksWrongFalsely : Prop := packPacksRow.holds Tryd.pinned (OpenSpec.ofChange packPacksWrong)

/-- 'quernlaw15.PackUnpacks': WHATEVER THE INPUT: true; the input reads as it did. -/
def packUnpacksSpec : ChangeSpec := { name := "packUnpacks", fn := fun _ => fun
  | [d1, d2, d3, d4, d5, d6, d7] => { results := [.lit (.bool true)], args := [d1, d2, d3, d4, d5, d6, d7] }
  | _ => none }
def packUnpacksRow : OpenClaim := { program := "ythkalmdpbhjafaadoor", sum := "351d1c638a3a8bf3fe1d76f1a5e913f307f14b7cb1084fab59841ce814e17af9", func := "quern/quernlaw15.PackUnpacks", spec := "packUnpacks", unfollowed := true, recurses := true, named := ["quern/crc.steps"], apart := false, laid := [("quern/crc.steps", laid_quern_crc_steps)] }
def PackUnpacksSaid : Prop := packUnpacksRow.holds Tryd.pinned (OpenSpec.ofChange packUnpacksSpec)

/-- ITS FALSE NEIGHBOUR: 'it returns false'. Refute it at one input. -/
def packUnpacksWrong : ChangeSpec := { name := "packUnpacks", fn := fun _ => fun
  | [d1, d2, d3, d4, d5, d6, d7] => { results := [.lit (.bool false)], args := [d1, d2, d3, d4, d5, d6, d7] }
  | _ => none }
def PackUnpacksWrongFalsely : Prop := packUnpacksRow.holds Tryd.pinned (OpenSpec.ofChange packUnpacksWrong)

/-- 'quernlaw15.PackBack': WHATEVER THE INPUT: true; the input reads as it did. -/
def packBackSpec : ChangeSpec := { name := "packBack", fn := fun _ => fun
  | [d1, d2, d3, d4] => { results := [.lit (.bool true)], args := [d1, d2, d3, d4] }
  | _ => none }
def packBackRow : OpenClaim := { program := "ythkalmdpbhjafaadoor", sum := "351d1c638a3a8bf3fe1d76f1a5e913f307f14b7cb1084fab59841ce814e17af9", func := "quern/quernlaw15.PackBack", spec := "packBack", unfollowed := true, recurses := true, named := ["quern/crc.steps"], apart := false, laid := [("quern/crc.steps", laid_quern_crc_steps)] }
def PackBackSaid : Prop := packBackRow.holds Tryd.pinned (OpenSpec.ofChange packBackSpec)

/-- ITS FALSE NEIGHBOUR: 'it returns false'. Refute it at one input. -/
def packBackWrong : ChangeSpec := { name := "packBack", fn := fun _ => fun
  | [d1, d2, d3, d4] => { results := [.lit (.bool false)], args := [d1, d2, d3, d4] }
  | _ => none }
def PackBackWrongFalsely : Prop := packBackRow.holds Tryd.pinned (OpenSpec.ofChange packBackWrong)

/-- 'quernlaw15.PackWhole': WHATEVER THE INPUT: true; the input reads as it did. -/
def packWholeSpec : ChangeSpec := { name := "packWhole", fn := fun _ => fun
  | [d1, d2, d3, d4] => { results := [.lit (.bool true)], args := [d1, d2, d3, d4] }
  | _ => none }
def packWholeRow : OpenClaim := { program := "ythkalmdpbhjafaadoor", sum := "351d1c638a3a8bf3fe1d76f1a5e913f307f14b7cb1084fab59841ce814e17af9", func := "quern/quernlaw15.PackWhole", spec := "packWhole", unfollowed := true, recurses := true, named := ["quern/crc.steps"], apart := false, laid := [("quern/crc.steps", laid_quern_crc_steps)] }
def PackWholeSaid : Prop := packWholeRow.holds Tryd.pinned (OpenSpec.ofChange packWholeSpec)

/-- ITS FALSE NEIGHBOUR: 'it returns false'. Refute it at one input. -/
def packWholeWrong : ChangeSpec := { name := "packWhole", fn := fun _ => fun
  | [d1, d2, d3, d4] => { results := [.lit (.bool false)], args := [d1, d2, d3, d4] }
  | _ => none }
def PackWholeWrongFalsely : Prop := packWholeRow.holds Tryd.pinned (OpenSpec.ofChange packWholeWrong)

/-- 'quernlaw15.PackRead': WHATEVER THE INPUT: true; the input reads as it did. -/
def packReadSpec : ChangeSpec := { name := "packRead", fn := fun _ => fun
  | [d1, d2, d3, d4, d5, d6] => { results := [.lit (.bool true)], args := [d1, d2, d3, d4, d5, d6] }
  | _ => none }
def packReadRow : OpenClaim := { program := "ythkalmdpbhjafaadoor", sum := "351d1c638a3a8bf3fe1d76f1a5e913f307f14b7cb1084fab59841ce814e17af9", func := "quern/quernlaw15.PackRead", spec := "packRead", unfollowed := true, recurses := true, named := ["quern/crc.steps"], apart := false, laid := [("quern/crc.steps", laid_quern_crc_steps)] }
def PackReadSaid : Prop := packReadRow.holds Tryd.pinned (OpenSpec.ofChange packReadSpec)

/-- ITS FALSE NEIGHBOUR: 'it returns false'. Refute it at one input. -/
def packReadWrong : ChangeSpec := { name := "packRead", fn := fun _ => fun
  | [d1, d2, d3, d4, d5, d6] => { results := [.lit (.bool false)], args := [d1, d2, d3, d4, d5, d6] }
  | _ => none }
def PackReadWrongFalsely : Prop := packReadRow.holds Tryd.pinned (OpenSpec.ofChange packReadWrong)

/-- 'quernlaw15.PackTwo': WHATEVER THE INPUT: true; the input reads as it did. -/
def packTwoSpec : ChangeSpec := { name := "packTwo", fn := fun _ => fun
  | [d1, d2, d3, d4, d5] => { results := [.lit (.bool true)], args := [d1, d2, d3, d4, d5] }
  | _ => none }
def packTwoRow : OpenClaim := { program := "ythkalmdpbhjafaadoor", sum := "351d1c638a3a8bf3fe1d76f1a5e913f307f14b7cb1084fab59841ce814e17af9", func := "quern/quernlaw15.PackTwo", spec := "packTwo", unfollowed := true, recurses := true, named := ["quern/crc.steps"], apart := false, laid := [("quern/crc.steps", laid_quern_crc_steps)] }
def PackTwoSaid : Prop := packTwoRow.holds Tryd.pinned (OpenSpec.ofChange packTwoSpec)

/-- ITS FALSE NEIGHBOUR: 'it returns false'. Refute it at one input. -/
def packTwoWrong : ChangeSpec := { name := "packTwo", fn := fun _ => fun
  | [d1, d2, d3, d4, d5] => { results := [.lit (.bool false)], args := [d1, d2, d3, d4, d5] }
  | _ => none }
def PackTwoWrongFalsely : Prop := packTwoRow.holds Tryd.pinned (OpenSpec.ofChange packTwoWrong)

/-- 'quernlaw15.PackGrows': WHATEVER THE INPUT: true; the input reads as it did. -/
def packGrowsSpec : ChangeSpec := { name := "packGrows", fn := fun _ => fun
  | [d1, d2] => { results := [.lit (.bool true)], args := [d1, d2] }
  | _ => none }
def packGrowsRow : OpenClaim := { program := "ythkalmdpbhjafaadoor", sum := "351d1c638a3a8bf3fe1d76f1a5e913f307f14b7cb1084fab59841ce814e17af9", func := "quern/quernlaw15.PackGrows", spec := "packGrows", unfollowed := true, recurses := true, named := ["quern/crc.steps"], apart := false, laid := [("quern/crc.steps", laid_quern_crc_steps)] }
def PackGrowsSaid : Prop := packGrowsRow.holds Tryd.pinned (OpenSpec.ofChange packGrowsSpec)

/-- ITS FALSE NEIGHBOUR: 'it returns false'. Refute it at one input. -/
def packGrowsWrong : ChangeSpec := { name := "packGrows", fn := fun _ => fun
  | [d1, d2] => { results := [.lit (.bool false)], args := [d1, d2] }
  | _ => none }
def PackGrowsWrongFalsely : Prop := packGrowsRow.holds Tryd.pinned (OpenSpec.ofChange packGrowsWrong)

/-- 'quernlaw15.PackSeq': WHATEVER THE INPUT: true; the input reads as it did. -/
def packSeqSpec : ChangeSpec := { name := "packSeq", fn := fun _ => fun
  | [d1, d2, d3, d4] => { results := [.lit (.bool true)], args := [d1, d2, d3, d4] }
  | _ => none }
def packSeqRow : OpenClaim := { program := "ythkalmdpbhjafaadoor", sum := "351d1c638a3a8bf3fe1d76f1a5e913f307f14b7cb1084fab59841ce814e17af9", func := "quern/quernlaw15.PackSeq", spec := "packSeq", unfollowed := true, recurses := true, named := ["quern/crc.steps"], apart := false, laid := [("quern/crc.steps", laid_quern_crc_steps)] }
def PackSeqSaid : Prop := packSeqRow.holds Tryd.pinned (OpenSpec.ofChange packSeqSpec)

/-- ITS FALSE NEIGHBOUR: 'it returns false'. Refute it at one input. -/
def packSeqWrong : ChangeSpec := { name := "packSeq", fn := fun _ => fun
  | [d1, d2, d3, d4] => { results := [.lit (.bool false)], args := [d1, d2, d3, d4] }
  | _ => none }
def PackSeqWrongFalsely : Prop := packSeqRow.holds Tryd.pinned (OpenSpec.ofChange packSeqWrong)

/- THE SECOND FORM. 'bulk': how many values and letters a reading holds, each counted each time it is reached (what is shared counts as often as it is met; a slice's spare places count too). A statement '..UptoSaid' is the law's where the arguments, and the package variables that the reading takes, are together of bulk at most 1048576: NARROWER than '..Said'. Prove '..Said' where nothing that the law and all that it calls make is longer than what came in: it says more and counts as full. Else prove '..UptoSaid'. A law counts once. -/
mutual
def uptoBulk {H : Type} : DataW H → Nat
  | .lit (.string bytes) => bytes.length + 1
  | .lit _ => 1
  | .nil => 1
  | .ptr d => uptoBulk d + 1
  | .slice elems spare => uptoBulkAll elems + uptoBulkAll spare + 1
  | .agg parts => uptoBulkAll parts + 1
  | .iface _ d => uptoBulk d + 1
  | .map entries => uptoBulkEntries entries + 1
  | .held _ => 1
def uptoBulkAll {H : Type} : List (DataW H) → Nat
  | [] => 0
  | d :: r => uptoBulk d + uptoBulkAll r
def uptoBulkEntries {H : Type} : List (Lit × DataW H) → Nat
  | [] => 0
  | x :: r => uptoBulkEntry x + uptoBulkEntries r
def uptoBulkEntry {H : Type} : Lit × DataW H → Nat
  | (.string bytes, d) => bytes.length + uptoBulk d + 1
  | (_, d) => uptoBulk d + 1
 end
def uptoSmall : (H : Type) → List (DataW H) → Bool := fun _ ds => decide (uptoBulkAll ds ≤ 1048576)
def OpenSpec.upto (s : _root_.Go.ChangeSpec) : _root_.Go.OpenSpec := { _root_.Go.OpenSpec.ofChange s with cond := some uptoSmall }

/-- 'quernlaw15.PackPacks', WHERE WHAT IT READS IS OF BULK AT MOST 1048576: true; the input reads as it did. -/
def packPacksUptoRow : OpenClaim := { program := "ythkalmdpbhjafaadoor", sum := "351d1c638a3a8bf3fe1d76f1a5e913f307f14b7cb1084fab59841ce814e17af9", func := "quern/quernlaw15.PackPacks", spec := "packPacks", unfollowed := true, recurses := true, named := ["quern/crc.steps"], apart := false, laid := [("quern/crc.steps", laid_quern_crc_steps)], narrowed := true }
def PackPacksUptoSaid : Prop := packPacksUptoRow.holds Tryd.pinned (OpenSpec.upto packPacksSpec)

/-- 'quernlaw15.PackUnpacks', WHERE WHAT IT READS IS OF BULK AT MOST 1048576: true; the input reads as it did. -/
def packUnpacksUptoRow : OpenClaim := { program := "ythkalmdpbhjafaadoor", sum := "351d1c638a3a8bf3fe1d76f1a5e913f307f14b7cb1084fab59841ce814e17af9", func := "quern/quernlaw15.PackUnpacks", spec := "packUnpacks", unfollowed := true, recurses := true, named := ["quern/crc.steps"], apart := false, laid := [("quern/crc.steps", laid_quern_crc_steps)], narrowed := true }
def PackUnpacksUptoSaid : Prop := packUnpacksUptoRow.holds Tryd.pinned (OpenSpec.upto packUnpacksSpec)

/-- 'quernlaw15.PackBack', WHERE WHAT IT READS IS OF BULK AT MOST 1048576: true; the input reads as it did. -/
def packBackUptoRow : OpenClaim := { program := "ythkalmdpbhjafaadoor", sum := "351d1c638a3a8bf3fe1d76f1a5e913f307f14b7cb1084fab59841ce814e17af9", func := "quern/quernlaw15.PackBack", spec := "packBack", unfollowed := true, recurses := true, named := ["quern/crc.steps"], apart := false, laid := [("quern/crc.steps", laid_quern_crc_steps)], narrowed := true }
def PackBackUptoSaid : Prop := packBackUptoRow.holds Tryd.pinned (OpenSpec.upto packBackSpec)

/-- 'quernlaw15.PackWhole', WHERE WHAT IT READS IS OF BULK AT MOST 1048576: true; the input reads as it did. -/
def packWholeUptoRow : OpenClaim := { program := "ythkalmdpbhjafaadoor", sum := "351d1c638a3a8bf3fe1d76f1a5e913f307f14b7cb1084fab59841ce814e17af9", func := "quern/quernlaw15.PackWhole", spec := "packWhole", unfollowed := true, recurses := true, named := ["quern/crc.steps"], apart := false, laid := [("quern/crc.steps", laid_quern_crc_steps)], narrowed := true }
def PackWholeUptoSaid : Prop := packWholeUptoRow.holds Tryd.pinned (OpenSpec.upto packWholeSpec)

/-- 'quernlaw15.PackRead', WHERE WHAT IT READS IS OF BULK AT MOST 1048576: true; the input reads as it did. -/
def packReadUptoRow : OpenClaim := { program := "ythkalmdpbhjafaadoor", sum := "351d1c638a3a8bf3fe1d76f1a5e913f307f14b7cb1084fab59841ce814e17af9", func := "quern/quernlaw15.PackRead", spec := "packRead", unfollowed := true, recurses := true, named := ["quern/crc.steps"], apart := false, laid := [("quern/crc.steps", laid_quern_crc_steps)], narrowed := true }
def PackReadUptoSaid : Prop := packReadUptoRow.holds Tryd.pinned (OpenSpec.upto packReadSpec)

/-- 'quernlaw15.PackTwo', WHERE WHAT IT READS IS OF BULK AT MOST 1048576: true; the input reads as it did. -/
def packTwoUptoRow : OpenClaim := { program := "ythkalmdpbhjafaadoor", sum := "351d1c638a3a8bf3fe1d76f1a5e913f307f14b7cb1084fab59841ce814e17af9", func := "quern/quernlaw15.PackTwo", spec := "packTwo", unfollowed := true, recurses := true, named := ["quern/crc.steps"], apart := false, laid := [("quern/crc.steps", laid_quern_crc_steps)], narrowed := true }
def PackTwoUptoSaid : Prop := packTwoUptoRow.holds Tryd.pinned (OpenSpec.upto packTwoSpec)

/-- 'quernlaw15.PackGrows', WHERE WHAT IT READS IS OF BULK AT MOST 1048576: true; the input reads as it did. -/
def packGrowsUptoRow : OpenClaim := { program := "ythkalmdpbhjafaadoor", sum := "351d1c638a3a8bf3fe1d76f1a5e913f307f14b7cb1084fab59841ce814e17af9", func := "quern/quernlaw15.PackGrows", spec := "packGrows", unfollowed := true, recurses := true, named := ["quern/crc.steps"], apart := false, laid := [("quern/crc.steps", laid_quern_crc_steps)], narrowed := true }
def PackGrowsUptoSaid : Prop := packGrowsUptoRow.holds Tryd.pinned (OpenSpec.upto packGrowsSpec)

/-- 'quernlaw15.PackSeq', WHERE WHAT IT READS IS OF BULK AT MOST 1048576: true; the input reads as it did. -/
def packSeqUptoRow : OpenClaim := { program := "ythkalmdpbhjafaadoor", sum := "351d1c638a3a8bf3fe1d76f1a5e913f307f14b7cb1084fab59841ce814e17af9", func := "quern/quernlaw15.PackSeq", spec := "packSeq", unfollowed := true, recurses := true, named := ["quern/crc.steps"], apart := false, laid := [("quern/crc.steps", laid_quern_crc_steps)], narrowed := true }
def PackSeqUptoSaid : Prop := packSeqUptoRow.holds Tryd.pinned (OpenSpec.upto packSeqSpec)

end Rows
end Go.Proofs.YthkalmdpbhjafaaDoor
