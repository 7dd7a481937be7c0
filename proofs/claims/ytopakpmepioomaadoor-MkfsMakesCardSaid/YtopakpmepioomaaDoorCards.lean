/-
  DERIVED. GIVEN WITH THE SEED: THE CARDS: each row of YtopakpmepioomaaDoorRows.lean that lists a variable, with what it lists TIED to the program's text (the seventh form; the later family's looks); each row that meets fmt, with fmt's text TOLD by the authors' own Lean function (tested against real Go, not proved from fmt's source: count such statements apart). THE CARD IS WHAT COUNTS. Prove the row's statement (the work); the ties are given (YtopakpmepioomaaDoorTie.lean); close each card by the builder's one call (the guide's Derived/Test/ToyasCard.lean, 'card_holds'). Laid BY PROGRAM, IN A SANDBOX (cutbox-door.mjs). By AI agents, Wed Nov 11 2026. No macro, syntax, notation, axiom, sorry.
-/
import Derived.Test.YtopakpmepioomaaDoorRows
import GoSem.ClaimSeven
namespace Go.Proofs.YtopakpmepioomaaDoor
namespace Rows

/-- THE TIED CARD OF 'quernlaw21.MkfsMakes'. -/
def mkfsMakesCard : Claim7 := { stood := { row := mkfsMakesRow, standIns := [], harness := (true, "9fd6f80e17b5024af6300538f65e291437fb564cd7d3cd7971548a812c9a46a5"), looks := true }, kinds := [], alts := [], laidByText := true, laidKinds := [.data], laidTests := true, laidLooks := .later }
def MkfsMakesCardSaid : Prop := Claim7.holds Tryd.pinned (.plain (OpenSpec.ofChange mkfsMakesSpec)) mkfsMakesCard

/-- THE TIED CARD OF 'quernlaw21.MkfsGroups'. -/
def mkfsGroupsCard : Claim7 := { stood := { row := mkfsGroupsRow, standIns := [], harness := (true, "9fd6f80e17b5024af6300538f65e291437fb564cd7d3cd7971548a812c9a46a5"), looks := true }, kinds := [], alts := [], laidByText := true, laidKinds := [.data], laidTests := true, laidLooks := .later }
def MkfsGroupsCardSaid : Prop := Claim7.holds Tryd.pinned (.plain (OpenSpec.ofChange mkfsGroupsSpec)) mkfsGroupsCard

/-- THE TIED CARD OF 'quernlaw21.MkfsNoughts'. -/
def mkfsNoughtsCard : Claim7 := { stood := { row := mkfsNoughtsRow, standIns := [], harness := (true, "9fd6f80e17b5024af6300538f65e291437fb564cd7d3cd7971548a812c9a46a5"), looks := true }, kinds := [], alts := [], laidByText := true, laidKinds := [.data], laidTests := true, laidLooks := .later }
def MkfsNoughtsCardSaid : Prop := Claim7.holds Tryd.pinned (.plain (OpenSpec.ofChange mkfsNoughtsSpec)) mkfsNoughtsCard

/-- THE TIED CARD OF 'quernlaw21.MkfsTells'. -/
def mkfsTellsCard : Claim7 := { stood := { row := mkfsTellsRow, standIns := [], harness := (true, "9fd6f80e17b5024af6300538f65e291437fb564cd7d3cd7971548a812c9a46a5"), looks := true }, kinds := [], alts := [], laidByText := true, laidKinds := [.data], laidTests := true, laidLooks := .later }
def MkfsTellsCardSaid : Prop := Claim7.holds Tryd.pinned (.plain (OpenSpec.ofChange mkfsTellsSpec)) mkfsTellsCard

/-- THE TIED CARD OF 'quernlaw21.MkfsFree'. -/
def mkfsFreeCard : Claim7 := { stood := { row := mkfsFreeRow, standIns := [], harness := (true, "9fd6f80e17b5024af6300538f65e291437fb564cd7d3cd7971548a812c9a46a5"), looks := true }, kinds := [], alts := [], laidByText := true, laidKinds := [.data], laidTests := true, laidLooks := .later }
def MkfsFreeCardSaid : Prop := Claim7.holds Tryd.pinned (.plain (OpenSpec.ofChange mkfsFreeSpec)) mkfsFreeCard

/-- THE SECOND FORM's CARD OF 'quernlaw21.MkfsMakes'. -/
def mkfsMakesUptoCard : Claim7 := { stood := { row := mkfsMakesUptoRow, standIns := [], harness := (true, "9fd6f80e17b5024af6300538f65e291437fb564cd7d3cd7971548a812c9a46a5"), looks := true }, kinds := [], alts := [], laidByText := true, laidKinds := [.data], laidTests := true, laidLooks := .later }
def MkfsMakesUptoCardSaid : Prop := Claim7.holds Tryd.pinned (.plain (OpenSpec.upto mkfsMakesSpec)) mkfsMakesUptoCard

/-- THE SECOND FORM's CARD OF 'quernlaw21.MkfsGroups'. -/
def mkfsGroupsUptoCard : Claim7 := { stood := { row := mkfsGroupsUptoRow, standIns := [], harness := (true, "9fd6f80e17b5024af6300538f65e291437fb564cd7d3cd7971548a812c9a46a5"), looks := true }, kinds := [], alts := [], laidByText := true, laidKinds := [.data], laidTests := true, laidLooks := .later }
def MkfsGroupsUptoCardSaid : Prop := Claim7.holds Tryd.pinned (.plain (OpenSpec.upto mkfsGroupsSpec)) mkfsGroupsUptoCard

/-- THE SECOND FORM's CARD OF 'quernlaw21.MkfsNoughts'. -/
def mkfsNoughtsUptoCard : Claim7 := { stood := { row := mkfsNoughtsUptoRow, standIns := [], harness := (true, "9fd6f80e17b5024af6300538f65e291437fb564cd7d3cd7971548a812c9a46a5"), looks := true }, kinds := [], alts := [], laidByText := true, laidKinds := [.data], laidTests := true, laidLooks := .later }
def MkfsNoughtsUptoCardSaid : Prop := Claim7.holds Tryd.pinned (.plain (OpenSpec.upto mkfsNoughtsSpec)) mkfsNoughtsUptoCard

/-- THE SECOND FORM's CARD OF 'quernlaw21.MkfsTells'. -/
def mkfsTellsUptoCard : Claim7 := { stood := { row := mkfsTellsUptoRow, standIns := [], harness := (true, "9fd6f80e17b5024af6300538f65e291437fb564cd7d3cd7971548a812c9a46a5"), looks := true }, kinds := [], alts := [], laidByText := true, laidKinds := [.data], laidTests := true, laidLooks := .later }
def MkfsTellsUptoCardSaid : Prop := Claim7.holds Tryd.pinned (.plain (OpenSpec.upto mkfsTellsSpec)) mkfsTellsUptoCard

/-- THE SECOND FORM's CARD OF 'quernlaw21.MkfsFree'. -/
def mkfsFreeUptoCard : Claim7 := { stood := { row := mkfsFreeUptoRow, standIns := [], harness := (true, "9fd6f80e17b5024af6300538f65e291437fb564cd7d3cd7971548a812c9a46a5"), looks := true }, kinds := [], alts := [], laidByText := true, laidKinds := [.data], laidTests := true, laidLooks := .later }
def MkfsFreeUptoCardSaid : Prop := Claim7.holds Tryd.pinned (.plain (OpenSpec.upto mkfsFreeSpec)) mkfsFreeUptoCard
end Rows
end Go.Proofs.YtopakpmepioomaaDoor
