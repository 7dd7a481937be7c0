/-
  No cell of these rows narrows 'for every input' (looked for: loops, veiled, ifaces, maps, wideKeys, modest, calm, conditions, laid).
  DERIVED. THE GIVEN ROWS OF THIS SEAT. 8 by the template 'for every input the law returns true; each argument reads behind the call as it read before'; 0 by the template 'total and deterministic' (their statements: YtahobhifafiaeaaTotals.lean).
  GIVEN WITH THE SEED: the statements are not yours to turn. If you find one false, say at which input.
  Laid BY PROGRAM, IN A SANDBOX (cutbox-rows.mjs): the forced cells as the released guide's own fill.sh prints them over the translation 303449a637480a5b… (all of the seat's roots in one cut). By AI agents, Wed Nov 11 2026. No macro, syntax, notation, axiom, sorry.
-/
import Derived.Test.YtahobhifafiaeaaChecked
import GoSem.Claim
import GoSem.ClaimJoined
import GoSem.ClaimMapViews
import Derived.JoinedTies
import Derived.KernelRfl
namespace Go.Proofs.Ytahobhifafiaeaa
/- THE CELL 'sum', in the pinned program and in every row, IS THE sha256 OF THE DUMP (.gsa) THAT YtahobhifafiaeaaProg.lean LOADS. Nothing in Lean hashes anything: it is a label: what it is worth is what the hold of that sum in a sandbox is worth. -/
noncomputable def Try.pinned : Pinned := { name := "ytahobhifafiaeaa", sum := "303449a637480a5b7558c33b5fecda7748644999e20444ef897767f57237789b", checked := Try.checked }
namespace Rows
def none {H : Type} : Left H := { results := [], args := [] }

/-- 'quernlaw09.JblockWrites': WHATEVER THE INPUT: true; the input reads as it did. -/
def jblockWritesSpec : ChangeSpec := { name := "jblockWrites", fn := fun _ => fun
  | [d1, d2, d3, d4, d5] => { results := [.lit (.bool true)], args := [d1, d2, d3, d4, d5] }
  | _ => none }
def jblockWritesRow : OpenClaim := { program := "ytahobhifafiaeaa", sum := "303449a637480a5b7558c33b5fecda7748644999e20444ef897767f57237789b", func := "quern/quernlaw09.JblockWrites", spec := "jblockWrites", unfollowed := true, recurses := true, apart := false }
def JblockWritesSaid : Prop := jblockWritesRow.holds Try.pinned (OpenSpec.ofChange jblockWritesSpec)

/-- ITS FALSE NEIGHBOUR: 'it returns false'. Refute it at one input. -/
def jblockWritesWrong : ChangeSpec := { name := "jblockWrites", fn := fun _ => fun
  | [d1, d2, d3, d4, d5] => { results := [.lit (.bool false)], args := [d1, d2, d3, d4, d5] }
  | _ => none }
def JblockWritesWrongFalsely : Prop := jblockWritesRow.holds Try.pinned (OpenSpec.ofChange jblockWritesWrong)

/-- 'quernlaw09.JblockHeads': WHATEVER THE INPUT: true; the input reads as it did. -/
def jblockHeadsSpec : ChangeSpec := { name := "jblockHeads", fn := fun _ => fun
  | [d1, d2] => { results := [.lit (.bool true)], args := [d1, d2] }
  | _ => none }
def jblockHeadsRow : OpenClaim := { program := "ytahobhifafiaeaa", sum := "303449a637480a5b7558c33b5fecda7748644999e20444ef897767f57237789b", func := "quern/quernlaw09.JblockHeads", spec := "jblockHeads", unfollowed := true, recurses := true, apart := false }
def JblockHeadsSaid : Prop := jblockHeadsRow.holds Try.pinned (OpenSpec.ofChange jblockHeadsSpec)

/-- ITS FALSE NEIGHBOUR: 'it returns false'. Refute it at one input. -/
def jblockHeadsWrong : ChangeSpec := { name := "jblockHeads", fn := fun _ => fun
  | [d1, d2] => { results := [.lit (.bool false)], args := [d1, d2] }
  | _ => none }
def JblockHeadsWrongFalsely : Prop := jblockHeadsRow.holds Try.pinned (OpenSpec.ofChange jblockHeadsWrong)

/-- 'quernlaw09.JblockCopies': WHATEVER THE INPUT: true; the input reads as it did. -/
def jblockCopiesSpec : ChangeSpec := { name := "jblockCopies", fn := fun _ => fun
  | [d] => { results := [.lit (.bool true)], args := [d] }
  | _ => none }
def jblockCopiesRow : OpenClaim := { program := "ytahobhifafiaeaa", sum := "303449a637480a5b7558c33b5fecda7748644999e20444ef897767f57237789b", func := "quern/quernlaw09.JblockCopies", spec := "jblockCopies", unfollowed := true, recurses := true, apart := false }
def JblockCopiesSaid : Prop := jblockCopiesRow.holds Try.pinned (OpenSpec.ofChange jblockCopiesSpec)

/-- ITS FALSE NEIGHBOUR: 'it returns false'. Refute it at one input. -/
def jblockCopiesWrong : ChangeSpec := { name := "jblockCopies", fn := fun _ => fun
  | [d] => { results := [.lit (.bool false)], args := [d] }
  | _ => none }
def JblockCopiesWrongFalsely : Prop := jblockCopiesRow.holds Try.pinned (OpenSpec.ofChange jblockCopiesWrong)

/-- 'quernlaw09.JblockCommits': WHATEVER THE INPUT: true; the input reads as it did. -/
def jblockCommitsSpec : ChangeSpec := { name := "jblockCommits", fn := fun _ => fun
  | [d1, d2, d3] => { results := [.lit (.bool true)], args := [d1, d2, d3] }
  | _ => none }
def jblockCommitsRow : OpenClaim := { program := "ytahobhifafiaeaa", sum := "303449a637480a5b7558c33b5fecda7748644999e20444ef897767f57237789b", func := "quern/quernlaw09.JblockCommits", spec := "jblockCommits", unfollowed := true, recurses := true, apart := false }
def JblockCommitsSaid : Prop := jblockCommitsRow.holds Try.pinned (OpenSpec.ofChange jblockCommitsSpec)

/-- ITS FALSE NEIGHBOUR: 'it returns false'. Refute it at one input. -/
def jblockCommitsWrong : ChangeSpec := { name := "jblockCommits", fn := fun _ => fun
  | [d1, d2, d3] => { results := [.lit (.bool false)], args := [d1, d2, d3] }
  | _ => none }
def JblockCommitsWrongFalsely : Prop := jblockCommitsRow.holds Try.pinned (OpenSpec.ofChange jblockCommitsWrong)

/-- 'quernlaw09.JblockReads': WHATEVER THE INPUT: true; the input reads as it did. -/
def jblockReadsSpec : ChangeSpec := { name := "jblockReads", fn := fun _ => fun
  | [d] => { results := [.lit (.bool true)], args := [d] }
  | _ => none }
def jblockReadsRow : OpenClaim := { program := "ytahobhifafiaeaa", sum := "303449a637480a5b7558c33b5fecda7748644999e20444ef897767f57237789b", func := "quern/quernlaw09.JblockReads", spec := "jblockReads", unfollowed := true, recurses := true, apart := false }
def JblockReadsSaid : Prop := jblockReadsRow.holds Try.pinned (OpenSpec.ofChange jblockReadsSpec)

/-- ITS FALSE NEIGHBOUR: 'it returns false'. Refute it at one input. -/
def jblockReadsWrong : ChangeSpec := { name := "jblockReads", fn := fun _ => fun
  | [d] => { results := [.lit (.bool false)], args := [d] }
  | _ => none }
def JblockReadsWrongFalsely : Prop := jblockReadsRow.holds Try.pinned (OpenSpec.ofChange jblockReadsWrong)

/-- 'quernlaw09.JblockRows': WHATEVER THE INPUT: true; the input reads as it did. -/
def jblockRowsSpec : ChangeSpec := { name := "jblockRows", fn := fun _ => fun
  | [d1, d2] => { results := [.lit (.bool true)], args := [d1, d2] }
  | _ => none }
def jblockRowsRow : OpenClaim := { program := "ytahobhifafiaeaa", sum := "303449a637480a5b7558c33b5fecda7748644999e20444ef897767f57237789b", func := "quern/quernlaw09.JblockRows", spec := "jblockRows", unfollowed := true, recurses := true, apart := false }
def JblockRowsSaid : Prop := jblockRowsRow.holds Try.pinned (OpenSpec.ofChange jblockRowsSpec)

/-- ITS FALSE NEIGHBOUR: 'it returns false'. Refute it at one input. -/
def jblockRowsWrong : ChangeSpec := { name := "jblockRows", fn := fun _ => fun
  | [d1, d2] => { results := [.lit (.bool false)], args := [d1, d2] }
  | _ => none }
def JblockRowsWrongFalsely : Prop := jblockRowsRow.holds Try.pinned (OpenSpec.ofChange jblockRowsWrong)

/-- 'quernlaw09.JblockBack': WHATEVER THE INPUT: true; the input reads as it did. -/
def jblockBackSpec : ChangeSpec := { name := "jblockBack", fn := fun _ => fun
  | [d1, d2, d3, d4, d5] => { results := [.lit (.bool true)], args := [d1, d2, d3, d4, d5] }
  | _ => none }
def jblockBackRow : OpenClaim := { program := "ytahobhifafiaeaa", sum := "303449a637480a5b7558c33b5fecda7748644999e20444ef897767f57237789b", func := "quern/quernlaw09.JblockBack", spec := "jblockBack", unfollowed := true, recurses := true, apart := false }
def JblockBackSaid : Prop := jblockBackRow.holds Try.pinned (OpenSpec.ofChange jblockBackSpec)

/-- ITS FALSE NEIGHBOUR: 'it returns false'. Refute it at one input. -/
def jblockBackWrong : ChangeSpec := { name := "jblockBack", fn := fun _ => fun
  | [d1, d2, d3, d4, d5] => { results := [.lit (.bool false)], args := [d1, d2, d3, d4, d5] }
  | _ => none }
def JblockBackWrongFalsely : Prop := jblockBackRow.holds Try.pinned (OpenSpec.ofChange jblockBackWrong)

/-- 'quernlaw09.JblockBlocks': WHATEVER THE INPUT: true; the input reads as it did. -/
def jblockBlocksSpec : ChangeSpec := { name := "jblockBlocks", fn := fun _ => fun
  | [d] => { results := [.lit (.bool true)], args := [d] }
  | _ => none }
def jblockBlocksRow : OpenClaim := { program := "ytahobhifafiaeaa", sum := "303449a637480a5b7558c33b5fecda7748644999e20444ef897767f57237789b", func := "quern/quernlaw09.JblockBlocks", spec := "jblockBlocks", unfollowed := true, recurses := true, apart := false }
def JblockBlocksSaid : Prop := jblockBlocksRow.holds Try.pinned (OpenSpec.ofChange jblockBlocksSpec)

/-- ITS FALSE NEIGHBOUR: 'it returns false'. Refute it at one input. -/
def jblockBlocksWrong : ChangeSpec := { name := "jblockBlocks", fn := fun _ => fun
  | [d] => { results := [.lit (.bool false)], args := [d] }
  | _ => none }
def JblockBlocksWrongFalsely : Prop := jblockBlocksRow.holds Try.pinned (OpenSpec.ofChange jblockBlocksWrong)

/- THE SECOND FORM. 'bulk': how many values and letters a reading holds, each counted each time it is reached (what is shared counts as often as it is met; a slice's spare places count too). A statement '..UptoSaid' is the law's where the arguments, and the package variables that the reading takes, are together of bulk at most 1048576: NARROWER than '..Said'. Prove '..Said' where nothing that the law and all that it calls make is longer than what came in: it says more and counts as full. Else prove '..UptoSaid'. A law counts once. -/
mutual
def uptoBulk {H : Type} : DataW H → Nat
  | .lit (.string bytes) => bytes.length + 1
  | .lit _ => 1
  | .nil => 1
  | .ptr d => uptoBulk d + 1
  | .slice elems spare => uptoBulkAll elems + uptoBulkAll spare + 1
  | .agg parts => uptoBulkAll parts + 1
  | .iface _ d => uptoBulk d + 1
  | .map entries => uptoBulkEntries entries + 1
  | .held _ => 1
def uptoBulkAll {H : Type} : List (DataW H) → Nat
  | [] => 0
  | d :: r => uptoBulk d + uptoBulkAll r
def uptoBulkEntries {H : Type} : List (Lit × DataW H) → Nat
  | [] => 0
  | x :: r => uptoBulkEntry x + uptoBulkEntries r
def uptoBulkEntry {H : Type} : Lit × DataW H → Nat
  | (.string bytes, d) => bytes.length + uptoBulk d + 1
  | (_, d) => uptoBulk d + 1
 end
def uptoSmall : (H : Type) → List (DataW H) → Bool := fun _ ds => decide (uptoBulkAll ds ≤ 1048576)
def OpenSpec.upto (s : _root_.Go.ChangeSpec) : _root_.Go.OpenSpec := { _root_.Go.OpenSpec.ofChange s with cond := some uptoSmall }

/-- 'quernlaw09.JblockWrites', WHERE WHAT IT READS IS OF BULK AT MOST 1048576: true; the input reads as it did. -/
def jblockWritesUptoRow : OpenClaim := { program := "ytahobhifafiaeaa", sum := "303449a637480a5b7558c33b5fecda7748644999e20444ef897767f57237789b", func := "quern/quernlaw09.JblockWrites", spec := "jblockWrites", unfollowed := true, recurses := true, apart := false, narrowed := true }
def JblockWritesUptoSaid : Prop := jblockWritesUptoRow.holds Try.pinned (OpenSpec.upto jblockWritesSpec)

/-- 'quernlaw09.JblockHeads', WHERE WHAT IT READS IS OF BULK AT MOST 1048576: true; the input reads as it did. -/
def jblockHeadsUptoRow : OpenClaim := { program := "ytahobhifafiaeaa", sum := "303449a637480a5b7558c33b5fecda7748644999e20444ef897767f57237789b", func := "quern/quernlaw09.JblockHeads", spec := "jblockHeads", unfollowed := true, recurses := true, apart := false, narrowed := true }
def JblockHeadsUptoSaid : Prop := jblockHeadsUptoRow.holds Try.pinned (OpenSpec.upto jblockHeadsSpec)

/-- 'quernlaw09.JblockCopies', WHERE WHAT IT READS IS OF BULK AT MOST 1048576: true; the input reads as it did. -/
def jblockCopiesUptoRow : OpenClaim := { program := "ytahobhifafiaeaa", sum := "303449a637480a5b7558c33b5fecda7748644999e20444ef897767f57237789b", func := "quern/quernlaw09.JblockCopies", spec := "jblockCopies", unfollowed := true, recurses := true, apart := false, narrowed := true }
def JblockCopiesUptoSaid : Prop := jblockCopiesUptoRow.holds Try.pinned (OpenSpec.upto jblockCopiesSpec)

/-- 'quernlaw09.JblockCommits', WHERE WHAT IT READS IS OF BULK AT MOST 1048576: true; the input reads as it did. -/
def jblockCommitsUptoRow : OpenClaim := { program := "ytahobhifafiaeaa", sum := "303449a637480a5b7558c33b5fecda7748644999e20444ef897767f57237789b", func := "quern/quernlaw09.JblockCommits", spec := "jblockCommits", unfollowed := true, recurses := true, apart := false, narrowed := true }
def JblockCommitsUptoSaid : Prop := jblockCommitsUptoRow.holds Try.pinned (OpenSpec.upto jblockCommitsSpec)

/-- 'quernlaw09.JblockReads', WHERE WHAT IT READS IS OF BULK AT MOST 1048576: true; the input reads as it did. -/
def jblockReadsUptoRow : OpenClaim := { program := "ytahobhifafiaeaa", sum := "303449a637480a5b7558c33b5fecda7748644999e20444ef897767f57237789b", func := "quern/quernlaw09.JblockReads", spec := "jblockReads", unfollowed := true, recurses := true, apart := false, narrowed := true }
def JblockReadsUptoSaid : Prop := jblockReadsUptoRow.holds Try.pinned (OpenSpec.upto jblockReadsSpec)

/-- 'quernlaw09.JblockRows', WHERE WHAT IT READS IS OF BULK AT MOST 1048576: true; the input reads as it did. -/
def jblockRowsUptoRow : OpenClaim := { program := "ytahobhifafiaeaa", sum := "303449a637480a5b7558c33b5fecda7748644999e20444ef897767f57237789b", func := "quern/quernlaw09.JblockRows", spec := "jblockRows", unfollowed := true, recurses := true, apart := false, narrowed := true }
def JblockRowsUptoSaid : Prop := jblockRowsUptoRow.holds Try.pinned (OpenSpec.upto jblockRowsSpec)

/-- 'quernlaw09.JblockBack', WHERE WHAT IT READS IS OF BULK AT MOST 1048576: true; the input reads as it did. -/
def jblockBackUptoRow : OpenClaim := { program := "ytahobhifafiaeaa", sum := "303449a637480a5b7558c33b5fecda7748644999e20444ef897767f57237789b", func := "quern/quernlaw09.JblockBack", spec := "jblockBack", unfollowed := true, recurses := true, apart := false, narrowed := true }
def JblockBackUptoSaid : Prop := jblockBackUptoRow.holds Try.pinned (OpenSpec.upto jblockBackSpec)

/-- 'quernlaw09.JblockBlocks', WHERE WHAT IT READS IS OF BULK AT MOST 1048576: true; the input reads as it did. -/
def jblockBlocksUptoRow : OpenClaim := { program := "ytahobhifafiaeaa", sum := "303449a637480a5b7558c33b5fecda7748644999e20444ef897767f57237789b", func := "quern/quernlaw09.JblockBlocks", spec := "jblockBlocks", unfollowed := true, recurses := true, apart := false, narrowed := true }
def JblockBlocksUptoSaid : Prop := jblockBlocksUptoRow.holds Try.pinned (OpenSpec.upto jblockBlocksSpec)

end Rows
end Go.Proofs.Ytahobhifafiaeaa
