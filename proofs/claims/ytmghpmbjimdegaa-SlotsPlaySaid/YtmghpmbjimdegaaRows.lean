/-
  No cell of these rows narrows 'for every input' (looked for: loops, veiled, ifaces, maps, wideKeys, modest, calm, conditions, laid).
  DERIVED. THE GIVEN ROWS OF THIS SEAT. 7 by the template 'for every input the law returns true; each argument reads behind the call as it read before'; 0 by the template 'total and deterministic' (their statements: YtmghpmbjimdegaaTotals.lean).
  GIVEN WITH THE SEED: the statements are not yours to turn. If you find one false, say at which input.
  Laid BY PROGRAM, IN A SANDBOX (cutbox-rows.mjs): the forced cells as the released guide's own fill.sh prints them over the translation 49bd7a967137ab00… (all of the seat's roots in one cut). By AI agents, Wed Nov 11 2026. No macro, syntax, notation, axiom, sorry.
-/
import Derived.Test.YtmghpmbjimdegaaChecked
import GoSem.Claim
import GoSem.ClaimJoined
import GoSem.ClaimMapViews
import Derived.JoinedTies
import Derived.KernelRfl
namespace Go.Proofs.Ytmghpmbjimdegaa
/- THE CELL 'sum', in the pinned program and in every row, IS THE sha256 OF THE DUMP (.gsa) THAT YtmghpmbjimdegaaProg.lean LOADS. Nothing in Lean hashes anything: it is a label: what it is worth is what the hold of that sum in a sandbox is worth. -/
noncomputable def Try.pinned : Pinned := { name := "ytmghpmbjimdegaa", sum := "49bd7a967137ab0032175194c512a69c23f892c7ac8c6f3921e7f38e3f93f498", checked := Try.checked }
namespace Rows
def none {H : Type} : Left H := { results := [], args := [] }

/-- 'quernlaw08.SlotsTell': WHATEVER THE INPUT: true; the input reads as it did. -/
def slotsTellSpec : ChangeSpec := { name := "slotsTell", fn := fun _ => fun
  | [d1, d2] => { results := [.lit (.bool true)], args := [d1, d2] }
  | _ => none }
def slotsTellRow : OpenClaim := { program := "ytmghpmbjimdegaa", sum := "49bd7a967137ab0032175194c512a69c23f892c7ac8c6f3921e7f38e3f93f498", func := "quern/quernlaw08.SlotsTell", spec := "slotsTell", inPlace := ["internal/bytealg.IndexByteString"], apart := false }
def SlotsTellSaid : Prop := slotsTellRow.holds Try.pinned (OpenSpec.ofChange slotsTellSpec)

/-- ITS FALSE NEIGHBOUR: 'it returns false'. Refute it at one input. -/
def slotsTellWrong : ChangeSpec := { name := "slotsTell", fn := fun _ => fun
  | [d1, d2] => { results := [.lit (.bool false)], args := [d1, d2] }
  | _ => none }
def SlotsTellWrongFalsely : Prop := slotsTellRow.holds Try.pinned (OpenSpec.ofChange slotsTellWrong)

/-- 'quernlaw08.SlotsTurn': WHATEVER THE INPUT: true; the input reads as it did. -/
def slotsTurnSpec : ChangeSpec := { name := "slotsTurn", fn := fun _ => fun
  | [d1, d2, d3] => { results := [.lit (.bool true)], args := [d1, d2, d3] }
  | _ => none }
def slotsTurnRow : OpenClaim := { program := "ytmghpmbjimdegaa", sum := "49bd7a967137ab0032175194c512a69c23f892c7ac8c6f3921e7f38e3f93f498", func := "quern/quernlaw08.SlotsTurn", spec := "slotsTurn", inPlace := ["internal/bytealg.IndexByteString"], apart := false }
def SlotsTurnSaid : Prop := slotsTurnRow.holds Try.pinned (OpenSpec.ofChange slotsTurnSpec)

/-- ITS FALSE NEIGHBOUR: 'it returns false'. Refute it at one input. -/
def slotsTurnWrong : ChangeSpec := { name := "slotsTurn", fn := fun _ => fun
  | [d1, d2, d3] => { results := [.lit (.bool false)], args := [d1, d2, d3] }
  | _ => none }
def SlotsTurnWrongFalsely : Prop := slotsTurnRow.holds Try.pinned (OpenSpec.ofChange slotsTurnWrong)

/-- 'quernlaw08.SlotsWords': WHATEVER THE INPUT: true; the input reads as it did. -/
def slotsWordsSpec : ChangeSpec := { name := "slotsWords", fn := fun _ => fun
  | [d] => { results := [.lit (.bool true)], args := [d] }
  | _ => none }
def slotsWordsRow : OpenClaim := { program := "ytmghpmbjimdegaa", sum := "49bd7a967137ab0032175194c512a69c23f892c7ac8c6f3921e7f38e3f93f498", func := "quern/quernlaw08.SlotsWords", spec := "slotsWords", inPlace := ["internal/bytealg.IndexByteString"], apart := false }
def SlotsWordsSaid : Prop := slotsWordsRow.holds Try.pinned (OpenSpec.ofChange slotsWordsSpec)

/-- ITS FALSE NEIGHBOUR: 'it returns false'. Refute it at one input. -/
def slotsWordsWrong : ChangeSpec := { name := "slotsWords", fn := fun _ => fun
  | [d] => { results := [.lit (.bool false)], args := [d] }
  | _ => none }
def SlotsWordsWrongFalsely : Prop := slotsWordsRow.holds Try.pinned (OpenSpec.ofChange slotsWordsWrong)

/-- 'quernlaw08.SlotsPlay': WHATEVER THE INPUT: true; the input reads as it did. -/
def slotsPlaySpec : ChangeSpec := { name := "slotsPlay", fn := fun _ => fun
  | [d] => { results := [.lit (.bool true)], args := [d] }
  | _ => none }
def slotsPlayRow : OpenClaim := { program := "ytmghpmbjimdegaa", sum := "49bd7a967137ab0032175194c512a69c23f892c7ac8c6f3921e7f38e3f93f498", func := "quern/quernlaw08.SlotsPlay", spec := "slotsPlay", inPlace := ["internal/bytealg.IndexByteString"], apart := false }
def SlotsPlaySaid : Prop := slotsPlayRow.holds Try.pinned (OpenSpec.ofChange slotsPlaySpec)

/-- ITS FALSE NEIGHBOUR: 'it returns false'. Refute it at one input. -/
def slotsPlayWrong : ChangeSpec := { name := "slotsPlay", fn := fun _ => fun
  | [d] => { results := [.lit (.bool false)], args := [d] }
  | _ => none }
def SlotsPlayWrongFalsely : Prop := slotsPlayRow.holds Try.pinned (OpenSpec.ofChange slotsPlayWrong)

/-- 'quernlaw08.SlotsBack': WHATEVER THE INPUT: true; the input reads as it did. -/
def slotsBackSpec : ChangeSpec := { name := "slotsBack", fn := fun _ => fun
  | [d1, d2, d3] => { results := [.lit (.bool true)], args := [d1, d2, d3] }
  | _ => none }
def slotsBackRow : OpenClaim := { program := "ytmghpmbjimdegaa", sum := "49bd7a967137ab0032175194c512a69c23f892c7ac8c6f3921e7f38e3f93f498", func := "quern/quernlaw08.SlotsBack", spec := "slotsBack", inPlace := ["internal/bytealg.IndexByteString"], apart := false }
def SlotsBackSaid : Prop := slotsBackRow.holds Try.pinned (OpenSpec.ofChange slotsBackSpec)

/-- ITS FALSE NEIGHBOUR: 'it returns false'. Refute it at one input. -/
def slotsBackWrong : ChangeSpec := { name := "slotsBack", fn := fun _ => fun
  | [d1, d2, d3] => { results := [.lit (.bool false)], args := [d1, d2, d3] }
  | _ => none }
def SlotsBackWrongFalsely : Prop := slotsBackRow.holds Try.pinned (OpenSpec.ofChange slotsBackWrong)

/-- 'quernlaw08.SlotsEight': WHATEVER THE INPUT: true; the input reads as it did. -/
def slotsEightSpec : ChangeSpec := { name := "slotsEight", fn := fun _ => fun
  | [d] => { results := [.lit (.bool true)], args := [d] }
  | _ => none }
def slotsEightRow : OpenClaim := { program := "ytmghpmbjimdegaa", sum := "49bd7a967137ab0032175194c512a69c23f892c7ac8c6f3921e7f38e3f93f498", func := "quern/quernlaw08.SlotsEight", spec := "slotsEight", inPlace := ["internal/bytealg.IndexByteString"], apart := false }
def SlotsEightSaid : Prop := slotsEightRow.holds Try.pinned (OpenSpec.ofChange slotsEightSpec)

/-- ITS FALSE NEIGHBOUR: 'it returns false'. Refute it at one input. -/
def slotsEightWrong : ChangeSpec := { name := "slotsEight", fn := fun _ => fun
  | [d] => { results := [.lit (.bool false)], args := [d] }
  | _ => none }
def SlotsEightWrongFalsely : Prop := slotsEightRow.holds Try.pinned (OpenSpec.ofChange slotsEightWrong)

/-- 'quernlaw08.SlotsGone': WHATEVER THE INPUT: true; the input reads as it did. -/
def slotsGoneSpec : ChangeSpec := { name := "slotsGone", fn := fun _ => fun
  | [d1, d2, d3, d4] => { results := [.lit (.bool true)], args := [d1, d2, d3, d4] }
  | _ => none }
def slotsGoneRow : OpenClaim := { program := "ytmghpmbjimdegaa", sum := "49bd7a967137ab0032175194c512a69c23f892c7ac8c6f3921e7f38e3f93f498", func := "quern/quernlaw08.SlotsGone", spec := "slotsGone", inPlace := ["internal/bytealg.IndexByteString"], apart := false }
def SlotsGoneSaid : Prop := slotsGoneRow.holds Try.pinned (OpenSpec.ofChange slotsGoneSpec)

/-- ITS FALSE NEIGHBOUR: 'it returns false'. Refute it at one input. -/
def slotsGoneWrong : ChangeSpec := { name := "slotsGone", fn := fun _ => fun
  | [d1, d2, d3, d4] => { results := [.lit (.bool false)], args := [d1, d2, d3, d4] }
  | _ => none }
def SlotsGoneWrongFalsely : Prop := slotsGoneRow.holds Try.pinned (OpenSpec.ofChange slotsGoneWrong)

/- THE SECOND FORM. 'bulk': how many values and letters a reading holds, each counted each time it is reached (what is shared counts as often as it is met; a slice's spare places count too). A statement '..UptoSaid' is the law's where the arguments, and the package variables that the reading takes, are together of bulk at most 1048576: NARROWER than '..Said'. Prove '..Said' where nothing that the law and all that it calls make is longer than what came in: it says more and counts as full. Else prove '..UptoSaid'. A law counts once. -/
mutual
def uptoBulk {H : Type} : DataW H → Nat
  | .lit (.string bytes) => bytes.length + 1
  | .lit _ => 1
  | .nil => 1
  | .ptr d => uptoBulk d + 1
  | .slice elems spare => uptoBulkAll elems + uptoBulkAll spare + 1
  | .agg parts => uptoBulkAll parts + 1
  | .iface _ d => uptoBulk d + 1
  | .map entries => uptoBulkEntries entries + 1
  | .held _ => 1
def uptoBulkAll {H : Type} : List (DataW H) → Nat
  | [] => 0
  | d :: r => uptoBulk d + uptoBulkAll r
def uptoBulkEntries {H : Type} : List (Lit × DataW H) → Nat
  | [] => 0
  | x :: r => uptoBulkEntry x + uptoBulkEntries r
def uptoBulkEntry {H : Type} : Lit × DataW H → Nat
  | (.string bytes, d) => bytes.length + uptoBulk d + 1
  | (_, d) => uptoBulk d + 1
 end
def uptoSmall : (H : Type) → List (DataW H) → Bool := fun _ ds => decide (uptoBulkAll ds ≤ 1048576)
def OpenSpec.upto (s : _root_.Go.ChangeSpec) : _root_.Go.OpenSpec := { _root_.Go.OpenSpec.ofChange s with cond := some uptoSmall }

/-- 'quernlaw08.SlotsTell', WHERE WHAT IT READS IS OF BULK AT MOST 1048576: true; the input reads as it did. -/
def slotsTellUptoRow : OpenClaim := { program := "ytmghpmbjimdegaa", sum := "49bd7a967137ab0032175194c512a69c23f892c7ac8c6f3921e7f38e3f93f498", func := "quern/quernlaw08.SlotsTell", spec := "slotsTell", inPlace := ["internal/bytealg.IndexByteString"], apart := false, narrowed := true }
def SlotsTellUptoSaid : Prop := slotsTellUptoRow.holds Try.pinned (OpenSpec.upto slotsTellSpec)

/-- 'quernlaw08.SlotsTurn', WHERE WHAT IT READS IS OF BULK AT MOST 1048576: true; the input reads as it did. -/
def slotsTurnUptoRow : OpenClaim := { program := "ytmghpmbjimdegaa", sum := "49bd7a967137ab0032175194c512a69c23f892c7ac8c6f3921e7f38e3f93f498", func := "quern/quernlaw08.SlotsTurn", spec := "slotsTurn", inPlace := ["internal/bytealg.IndexByteString"], apart := false, narrowed := true }
def SlotsTurnUptoSaid : Prop := slotsTurnUptoRow.holds Try.pinned (OpenSpec.upto slotsTurnSpec)

/-- 'quernlaw08.SlotsWords', WHERE WHAT IT READS IS OF BULK AT MOST 1048576: true; the input reads as it did. -/
def slotsWordsUptoRow : OpenClaim := { program := "ytmghpmbjimdegaa", sum := "49bd7a967137ab0032175194c512a69c23f892c7ac8c6f3921e7f38e3f93f498", func := "quern/quernlaw08.SlotsWords", spec := "slotsWords", inPlace := ["internal/bytealg.IndexByteString"], apart := false, narrowed := true }
def SlotsWordsUptoSaid : Prop := slotsWordsUptoRow.holds Try.pinned (OpenSpec.upto slotsWordsSpec)

/-- 'quernlaw08.SlotsPlay', WHERE WHAT IT READS IS OF BULK AT MOST 1048576: true; the input reads as it did. -/
def slotsPlayUptoRow : OpenClaim := { program := "ytmghpmbjimdegaa", sum := "49bd7a967137ab0032175194c512a69c23f892c7ac8c6f3921e7f38e3f93f498", func := "quern/quernlaw08.SlotsPlay", spec := "slotsPlay", inPlace := ["internal/bytealg.IndexByteString"], apart := false, narrowed := true }
def SlotsPlayUptoSaid : Prop := slotsPlayUptoRow.holds Try.pinned (OpenSpec.upto slotsPlaySpec)

/-- 'quernlaw08.SlotsBack', WHERE WHAT IT READS IS OF BULK AT MOST 1048576: true; the input reads as it did. -/
def slotsBackUptoRow : OpenClaim := { program := "ytmghpmbjimdegaa", sum := "49bd7a967137ab0032175194c512a69c23f892c7ac8c6f3921e7f38e3f93f498", func := "quern/quernlaw08.SlotsBack", spec := "slotsBack", inPlace := ["internal/bytealg.IndexByteString"], apart := false, narrowed := true }
def SlotsBackUptoSaid : Prop := slotsBackUptoRow.holds Try.pinned (OpenSpec.upto slotsBackSpec)

/-- 'quernlaw08.SlotsEight', WHERE WHAT IT READS IS OF BULK AT MOST 1048576: true; the input reads as it did. -/
def slotsEightUptoRow : OpenClaim := { program := "ytmghpmbjimdegaa", sum := "49bd7a967137ab0032175194c512a69c23f892c7ac8c6f3921e7f38e3f93f498", func := "quern/quernlaw08.SlotsEight", spec := "slotsEight", inPlace := ["internal/bytealg.IndexByteString"], apart := false, narrowed := true }
def SlotsEightUptoSaid : Prop := slotsEightUptoRow.holds Try.pinned (OpenSpec.upto slotsEightSpec)

/-- 'quernlaw08.SlotsGone', WHERE WHAT IT READS IS OF BULK AT MOST 1048576: true; the input reads as it did. -/
def slotsGoneUptoRow : OpenClaim := { program := "ytmghpmbjimdegaa", sum := "49bd7a967137ab0032175194c512a69c23f892c7ac8c6f3921e7f38e3f93f498", func := "quern/quernlaw08.SlotsGone", spec := "slotsGone", inPlace := ["internal/bytealg.IndexByteString"], apart := false, narrowed := true }
def SlotsGoneUptoSaid : Prop := slotsGoneUptoRow.holds Try.pinned (OpenSpec.upto slotsGoneSpec)

end Rows
end Go.Proofs.Ytmghpmbjimdegaa
