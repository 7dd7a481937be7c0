/-
  No cell of these rows narrows 'for every input' (looked for: loops, veiled, ifaces, maps, wideKeys, modest, calm, conditions, laid).
  DERIVED. THE GIVEN ROWS OF THIS SEAT. 7 by the template 'for every input the law returns true; each argument reads behind the call as it read before'; 0 by the template 'total and deterministic' (their statements: YtlgjpjccjklnnaaTotals.lean).
  GIVEN WITH THE SEED: the statements are not yours to turn. If you find one false, say at which input.
  Laid BY PROGRAM, IN A SANDBOX (cutbox-rows.mjs): the forced cells as the released guide's own fill.sh prints them over the translation 7ef2a49acc950ea4… (all of the seat's roots in one cut). By AI agents, Wed Nov 11 2026. No macro, syntax, notation, axiom, sorry.
-/
import Derived.Test.YtlgjpjccjklnnaaChecked
import GoSem.Claim
import GoSem.ClaimJoined
import GoSem.ClaimMapViews
import Derived.JoinedTies
import Derived.KernelRfl
namespace Go.Proofs.Ytlgjpjccjklnnaa
/- THE CELL 'sum', in the pinned program and in every row, IS THE sha256 OF THE DUMP (.gsa) THAT YtlgjpjccjklnnaaProg.lean LOADS. Nothing in Lean hashes anything: it is a label: what it is worth is what the hold of that sum in a sandbox is worth. -/
noncomputable def Try.pinned : Pinned := { name := "ytlgjpjccjklnnaa", sum := "7ef2a49acc950ea47dc228871519baf35143942150f7b911b0ad956b2ab6fba9", checked := Try.checked }
namespace Rows
def none {H : Type} : Left H := { results := [], args := [] }

/-- 'quernlaw07.InodePuts': WHATEVER THE INPUT: true; the input reads as it did. -/
def inodePutsSpec : ChangeSpec := { name := "inodePuts", fn := fun _ => fun
  | [d1, d2, d3] => { results := [.lit (.bool true)], args := [d1, d2, d3] }
  | _ => none }
def inodePutsRow : OpenClaim := { program := "ytlgjpjccjklnnaa", sum := "7ef2a49acc950ea47dc228871519baf35143942150f7b911b0ad956b2ab6fba9", func := "quern/quernlaw07.InodePuts", spec := "inodePuts", unfollowed := true, recurses := true, apart := false }
def InodePutsSaid : Prop := inodePutsRow.holds Try.pinned (OpenSpec.ofChange inodePutsSpec)

/-- ITS FALSE NEIGHBOUR: 'it returns false'. Refute it at one input. -/
def inodePutsWrong : ChangeSpec := { name := "inodePuts", fn := fun _ => fun
  | [d1, d2, d3] => { results := [.lit (.bool false)], args := [d1, d2, d3] }
  | _ => none }
def InodePutsWrongFalsely : Prop := inodePutsRow.holds Try.pinned (OpenSpec.ofChange inodePutsWrong)

/-- 'quernlaw07.InodeGets': WHATEVER THE INPUT: true; the input reads as it did. -/
def inodeGetsSpec : ChangeSpec := { name := "inodeGets", fn := fun _ => fun
  | [d1, d2] => { results := [.lit (.bool true)], args := [d1, d2] }
  | _ => none }
def inodeGetsRow : OpenClaim := { program := "ytlgjpjccjklnnaa", sum := "7ef2a49acc950ea47dc228871519baf35143942150f7b911b0ad956b2ab6fba9", func := "quern/quernlaw07.InodeGets", spec := "inodeGets", unfollowed := true, recurses := true, apart := false }
def InodeGetsSaid : Prop := inodeGetsRow.holds Try.pinned (OpenSpec.ofChange inodeGetsSpec)

/-- ITS FALSE NEIGHBOUR: 'it returns false'. Refute it at one input. -/
def inodeGetsWrong : ChangeSpec := { name := "inodeGets", fn := fun _ => fun
  | [d1, d2] => { results := [.lit (.bool false)], args := [d1, d2] }
  | _ => none }
def InodeGetsWrongFalsely : Prop := inodeGetsRow.holds Try.pinned (OpenSpec.ofChange inodeGetsWrong)

/-- 'quernlaw07.InodeBack': WHATEVER THE INPUT: true; the input reads as it did. -/
def inodeBackSpec : ChangeSpec := { name := "inodeBack", fn := fun _ => fun
  | [d1, d2, d3] => { results := [.lit (.bool true)], args := [d1, d2, d3] }
  | _ => none }
def inodeBackRow : OpenClaim := { program := "ytlgjpjccjklnnaa", sum := "7ef2a49acc950ea47dc228871519baf35143942150f7b911b0ad956b2ab6fba9", func := "quern/quernlaw07.InodeBack", spec := "inodeBack", unfollowed := true, recurses := true, apart := false }
def InodeBackSaid : Prop := inodeBackRow.holds Try.pinned (OpenSpec.ofChange inodeBackSpec)

/-- ITS FALSE NEIGHBOUR: 'it returns false'. Refute it at one input. -/
def inodeBackWrong : ChangeSpec := { name := "inodeBack", fn := fun _ => fun
  | [d1, d2, d3] => { results := [.lit (.bool false)], args := [d1, d2, d3] }
  | _ => none }
def InodeBackWrongFalsely : Prop := inodeBackRow.holds Try.pinned (OpenSpec.ofChange inodeBackWrong)

/-- 'quernlaw07.InodeApart': WHATEVER THE INPUT: true; the input reads as it did. -/
def inodeApartSpec : ChangeSpec := { name := "inodeApart", fn := fun _ => fun
  | [d1, d2, d3, d4, d5] => { results := [.lit (.bool true)], args := [d1, d2, d3, d4, d5] }
  | _ => none }
def inodeApartRow : OpenClaim := { program := "ytlgjpjccjklnnaa", sum := "7ef2a49acc950ea47dc228871519baf35143942150f7b911b0ad956b2ab6fba9", func := "quern/quernlaw07.InodeApart", spec := "inodeApart", unfollowed := true, recurses := true, apart := false }
def InodeApartSaid : Prop := inodeApartRow.holds Try.pinned (OpenSpec.ofChange inodeApartSpec)

/-- ITS FALSE NEIGHBOUR: 'it returns false'. Refute it at one input. -/
def inodeApartWrong : ChangeSpec := { name := "inodeApart", fn := fun _ => fun
  | [d1, d2, d3, d4, d5] => { results := [.lit (.bool false)], args := [d1, d2, d3, d4, d5] }
  | _ => none }
def InodeApartWrongFalsely : Prop := inodeApartRow.holds Try.pinned (OpenSpec.ofChange inodeApartWrong)

/-- 'quernlaw07.InodeUnlike': WHATEVER THE INPUT: true; the input reads as it did. -/
def inodeUnlikeSpec : ChangeSpec := { name := "inodeUnlike", fn := fun _ => fun
  | [d1, d2, d3] => { results := [.lit (.bool true)], args := [d1, d2, d3] }
  | _ => none }
def inodeUnlikeRow : OpenClaim := { program := "ytlgjpjccjklnnaa", sum := "7ef2a49acc950ea47dc228871519baf35143942150f7b911b0ad956b2ab6fba9", func := "quern/quernlaw07.InodeUnlike", spec := "inodeUnlike", unfollowed := true, recurses := true, apart := false }
def InodeUnlikeSaid : Prop := inodeUnlikeRow.holds Try.pinned (OpenSpec.ofChange inodeUnlikeSpec)

/-- ITS FALSE NEIGHBOUR: 'it returns false'. Refute it at one input. -/
def inodeUnlikeWrong : ChangeSpec := { name := "inodeUnlike", fn := fun _ => fun
  | [d1, d2, d3] => { results := [.lit (.bool false)], args := [d1, d2, d3] }
  | _ => none }
def InodeUnlikeWrongFalsely : Prop := inodeUnlikeRow.holds Try.pinned (OpenSpec.ofChange inodeUnlikeWrong)

/-- 'quernlaw07.InodeFour': WHATEVER THE INPUT: true; the input reads as it did. -/
def inodeFourSpec : ChangeSpec := { name := "inodeFour", fn := fun _ => fun
  | [d1, d2, d3, d4, d5] => { results := [.lit (.bool true)], args := [d1, d2, d3, d4, d5] }
  | _ => none }
def inodeFourRow : OpenClaim := { program := "ytlgjpjccjklnnaa", sum := "7ef2a49acc950ea47dc228871519baf35143942150f7b911b0ad956b2ab6fba9", func := "quern/quernlaw07.InodeFour", spec := "inodeFour", unfollowed := true, recurses := true, apart := false }
def InodeFourSaid : Prop := inodeFourRow.holds Try.pinned (OpenSpec.ofChange inodeFourSpec)

/-- ITS FALSE NEIGHBOUR: 'it returns false'. Refute it at one input. -/
def inodeFourWrong : ChangeSpec := { name := "inodeFour", fn := fun _ => fun
  | [d1, d2, d3, d4, d5] => { results := [.lit (.bool false)], args := [d1, d2, d3, d4, d5] }
  | _ => none }
def InodeFourWrongFalsely : Prop := inodeFourRow.holds Try.pinned (OpenSpec.ofChange inodeFourWrong)

/-- 'quernlaw07.InodeBounds': WHATEVER THE INPUT: true; the input reads as it did. -/
def inodeBoundsSpec : ChangeSpec := { name := "inodeBounds", fn := fun _ => fun
  | [d1, d2] => { results := [.lit (.bool true)], args := [d1, d2] }
  | _ => none }
def inodeBoundsRow : OpenClaim := { program := "ytlgjpjccjklnnaa", sum := "7ef2a49acc950ea47dc228871519baf35143942150f7b911b0ad956b2ab6fba9", func := "quern/quernlaw07.InodeBounds", spec := "inodeBounds", unfollowed := true, recurses := true, apart := false }
def InodeBoundsSaid : Prop := inodeBoundsRow.holds Try.pinned (OpenSpec.ofChange inodeBoundsSpec)

/-- ITS FALSE NEIGHBOUR: 'it returns false'. Refute it at one input. -/
def inodeBoundsWrong : ChangeSpec := { name := "inodeBounds", fn := fun _ => fun
  | [d1, d2] => { results := [.lit (.bool false)], args := [d1, d2] }
  | _ => none }
def InodeBoundsWrongFalsely : Prop := inodeBoundsRow.holds Try.pinned (OpenSpec.ofChange inodeBoundsWrong)

/- THE SECOND FORM. 'bulk': how many values and letters a reading holds, each counted each time it is reached (what is shared counts as often as it is met; a slice's spare places count too). A statement '..UptoSaid' is the law's where the arguments, and the package variables that the reading takes, are together of bulk at most 1048576: NARROWER than '..Said'. Prove '..Said' where nothing that the law and all that it calls make is longer than what came in: it says more and counts as full. Else prove '..UptoSaid'. A law counts once. -/
mutual
def uptoBulk {H : Type} : DataW H → Nat
  | .lit (.string bytes) => bytes.length + 1
  | .lit _ => 1
  | .nil => 1
  | .ptr d => uptoBulk d + 1
  | .slice elems spare => uptoBulkAll elems + uptoBulkAll spare + 1
  | .agg parts => uptoBulkAll parts + 1
  | .iface _ d => uptoBulk d + 1
  | .map entries => uptoBulkEntries entries + 1
  | .held _ => 1
def uptoBulkAll {H : Type} : List (DataW H) → Nat
  | [] => 0
  | d :: r => uptoBulk d + uptoBulkAll r
def uptoBulkEntries {H : Type} : List (Lit × DataW H) → Nat
  | [] => 0
  | x :: r => uptoBulkEntry x + uptoBulkEntries r
def uptoBulkEntry {H : Type} : Lit × DataW H → Nat
  | (.string bytes, d) => bytes.length + uptoBulk d + 1
  | (_, d) => uptoBulk d + 1
 end
def uptoSmall : (H : Type) → List (DataW H) → Bool := fun _ ds => decide (uptoBulkAll ds ≤ 1048576)
def OpenSpec.upto (s : _root_.Go.ChangeSpec) : _root_.Go.OpenSpec := { _root_.Go.OpenSpec.ofChange s with cond := some uptoSmall }

/-- 'quernlaw07.InodePuts', WHERE WHAT IT READS IS OF BULK AT MOST 1048576: true; the input reads as it did. -/
def inodePutsUptoRow : OpenClaim := { program := "ytlgjpjccjklnnaa", sum := "7ef2a49acc950ea47dc228871519baf35143942150f7b911b0ad956b2ab6fba9", func := "quern/quernlaw07.InodePuts", spec := "inodePuts", unfollowed := true, recurses := true, apart := false, narrowed := true }
def InodePutsUptoSaid : Prop := inodePutsUptoRow.holds Try.pinned (OpenSpec.upto inodePutsSpec)

/-- 'quernlaw07.InodeGets', WHERE WHAT IT READS IS OF BULK AT MOST 1048576: true; the input reads as it did. -/
def inodeGetsUptoRow : OpenClaim := { program := "ytlgjpjccjklnnaa", sum := "7ef2a49acc950ea47dc228871519baf35143942150f7b911b0ad956b2ab6fba9", func := "quern/quernlaw07.InodeGets", spec := "inodeGets", unfollowed := true, recurses := true, apart := false, narrowed := true }
def InodeGetsUptoSaid : Prop := inodeGetsUptoRow.holds Try.pinned (OpenSpec.upto inodeGetsSpec)

/-- 'quernlaw07.InodeBack', WHERE WHAT IT READS IS OF BULK AT MOST 1048576: true; the input reads as it did. -/
def inodeBackUptoRow : OpenClaim := { program := "ytlgjpjccjklnnaa", sum := "7ef2a49acc950ea47dc228871519baf35143942150f7b911b0ad956b2ab6fba9", func := "quern/quernlaw07.InodeBack", spec := "inodeBack", unfollowed := true, recurses := true, apart := false, narrowed := true }
def InodeBackUptoSaid : Prop := inodeBackUptoRow.holds Try.pinned (OpenSpec.upto inodeBackSpec)

/-- 'quernlaw07.InodeApart', WHERE WHAT IT READS IS OF BULK AT MOST 1048576: true; the input reads as it did. -/
def inodeApartUptoRow : OpenClaim := { program := "ytlgjpjccjklnnaa", sum := "7ef2a49acc950ea47dc228871519baf35143942150f7b911b0ad956b2ab6fba9", func := "quern/quernlaw07.InodeApart", spec := "inodeApart", unfollowed := true, recurses := true, apart := false, narrowed := true }
def InodeApartUptoSaid : Prop := inodeApartUptoRow.holds Try.pinned (OpenSpec.upto inodeApartSpec)

/-- 'quernlaw07.InodeUnlike', WHERE WHAT IT READS IS OF BULK AT MOST 1048576: true; the input reads as it did. -/
def inodeUnlikeUptoRow : OpenClaim := { program := "ytlgjpjccjklnnaa", sum := "7ef2a49acc950ea47dc228871519baf35143942150f7b911b0ad956b2ab6fba9", func := "quern/quernlaw07.InodeUnlike", spec := "inodeUnlike", unfollowed := true, recurses := true, apart := false, narrowed := true }
def InodeUnlikeUptoSaid : Prop := inodeUnlikeUptoRow.holds Try.pinned (OpenSpec.upto inodeUnlikeSpec)

/-- 'quernlaw07.InodeFour', WHERE WHAT IT READS IS OF BULK AT MOST 1048576: true; the input reads as it did. -/
def inodeFourUptoRow : OpenClaim := { program := "ytlgjpjccjklnnaa", sum := "7ef2a49acc950ea47dc228871519baf35143942150f7b911b0ad956b2ab6fba9", func := "quern/quernlaw07.InodeFour", spec := "inodeFour", unfollowed := true, recurses := true, apart := false, narrowed := true }
def InodeFourUptoSaid : Prop := inodeFourUptoRow.holds Try.pinned (OpenSpec.upto inodeFourSpec)

/-- 'quernlaw07.InodeBounds', WHERE WHAT IT READS IS OF BULK AT MOST 1048576: true; the input reads as it did. -/
def inodeBoundsUptoRow : OpenClaim := { program := "ytlgjpjccjklnnaa", sum := "7ef2a49acc950ea47dc228871519baf35143942150f7b911b0ad956b2ab6fba9", func := "quern/quernlaw07.InodeBounds", spec := "inodeBounds", unfollowed := true, recurses := true, apart := false, narrowed := true }
def InodeBoundsUptoSaid : Prop := inodeBoundsUptoRow.holds Try.pinned (OpenSpec.upto inodeBoundsSpec)

end Rows
end Go.Proofs.Ytlgjpjccjklnnaa
