/-
  DERIVED. GIVEN WITH THE SEED: THE CARDS: each row of YtnbmmhoofilmfaaDoorRows.lean that lists a variable, with what it lists TIED to the program's text (the seventh form; the later family's looks); each row that meets fmt, with fmt's text TOLD by the authors' own Lean function (tested against real Go, not proved from fmt's source: count such statements apart). THE CARD IS WHAT COUNTS. Prove the row's statement (the work); the ties are given (YtnbmmhoofilmfaaDoorTie.lean); close each card by the builder's one call (the guide's Derived/Test/ToyasCard.lean, 'card_holds'). Laid BY PROGRAM, IN A SANDBOX (cutbox-door.mjs). By AI agents, Wed Nov 11 2026. No macro, syntax, notation, axiom, sorry.
-/
import Derived.Test.YtnbmmhoofilmfaaDoorRows
import GoSem.ClaimSeven
namespace Go.Proofs.YtnbmmhoofilmfaaDoor
namespace Rows

/-- THE TIED CARD OF 'quernlaw21.MkfsMakes'. -/
def mkfsMakesCard : Claim7 := { stood := { row := mkfsMakesRow, standIns := [], harness := (true, "e62fe9b97c728b5ca8d5b0b448fafbd252e69415793d3a57c84486dd5efb1765"), looks := true }, kinds := [], alts := [], laidByText := true, laidKinds := [.data], laidTests := true, laidLooks := .later }
def MkfsMakesCardSaid : Prop := Claim7.holds Tryd.pinned (.plain (OpenSpec.ofChange mkfsMakesSpec)) mkfsMakesCard

/-- THE TIED CARD OF 'quernlaw18.ScanWritten'. -/
def scanWrittenCard : Claim7 := { stood := { row := scanWrittenRow, standIns := [], harness := (true, "e62fe9b97c728b5ca8d5b0b448fafbd252e69415793d3a57c84486dd5efb1765"), looks := true }, kinds := [], alts := [], laidByText := true, laidKinds := [.data], laidTests := true, laidLooks := .later }
def ScanWrittenCardSaid : Prop := Claim7.holds Tryd.pinned (.plain (OpenSpec.ofChange scanWrittenSpec)) scanWrittenCard

/-- THE TIED CARD OF 'quernlaw18.ScanFilled'. -/
def scanFilledCard : Claim7 := { stood := { row := scanFilledRow, standIns := [], harness := (true, "e62fe9b97c728b5ca8d5b0b448fafbd252e69415793d3a57c84486dd5efb1765"), looks := true }, kinds := [], alts := [], laidByText := true, laidKinds := [.data], laidTests := true, laidLooks := .later }
def ScanFilledCardSaid : Prop := Claim7.holds Tryd.pinned (.plain (OpenSpec.ofChange scanFilledSpec)) scanFilledCard

/-- THE TIED CARD OF 'quernlaw21.MkfsFree'. -/
def mkfsFreeCard : Claim7 := { stood := { row := mkfsFreeRow, standIns := [], harness := (true, "e62fe9b97c728b5ca8d5b0b448fafbd252e69415793d3a57c84486dd5efb1765"), looks := true }, kinds := [], alts := [], laidByText := true, laidKinds := [.data], laidTests := true, laidLooks := .later }
def MkfsFreeCardSaid : Prop := Claim7.holds Tryd.pinned (.plain (OpenSpec.ofChange mkfsFreeSpec)) mkfsFreeCard

/-- THE SECOND FORM's CARD OF 'quernlaw21.MkfsMakes'. -/
def mkfsMakesUptoCard : Claim7 := { stood := { row := mkfsMakesUptoRow, standIns := [], harness := (true, "e62fe9b97c728b5ca8d5b0b448fafbd252e69415793d3a57c84486dd5efb1765"), looks := true }, kinds := [], alts := [], laidByText := true, laidKinds := [.data], laidTests := true, laidLooks := .later }
def MkfsMakesUptoCardSaid : Prop := Claim7.holds Tryd.pinned (.plain (OpenSpec.upto mkfsMakesSpec)) mkfsMakesUptoCard

/-- THE SECOND FORM's CARD OF 'quernlaw18.ScanWritten'. -/
def scanWrittenUptoCard : Claim7 := { stood := { row := scanWrittenUptoRow, standIns := [], harness := (true, "e62fe9b97c728b5ca8d5b0b448fafbd252e69415793d3a57c84486dd5efb1765"), looks := true }, kinds := [], alts := [], laidByText := true, laidKinds := [.data], laidTests := true, laidLooks := .later }
def ScanWrittenUptoCardSaid : Prop := Claim7.holds Tryd.pinned (.plain (OpenSpec.upto scanWrittenSpec)) scanWrittenUptoCard

/-- THE SECOND FORM's CARD OF 'quernlaw18.ScanFilled'. -/
def scanFilledUptoCard : Claim7 := { stood := { row := scanFilledUptoRow, standIns := [], harness := (true, "e62fe9b97c728b5ca8d5b0b448fafbd252e69415793d3a57c84486dd5efb1765"), looks := true }, kinds := [], alts := [], laidByText := true, laidKinds := [.data], laidTests := true, laidLooks := .later }
def ScanFilledUptoCardSaid : Prop := Claim7.holds Tryd.pinned (.plain (OpenSpec.upto scanFilledSpec)) scanFilledUptoCard

/-- THE SECOND FORM's CARD OF 'quernlaw21.MkfsFree'. -/
def mkfsFreeUptoCard : Claim7 := { stood := { row := mkfsFreeUptoRow, standIns := [], harness := (true, "e62fe9b97c728b5ca8d5b0b448fafbd252e69415793d3a57c84486dd5efb1765"), looks := true }, kinds := [], alts := [], laidByText := true, laidKinds := [.data], laidTests := true, laidLooks := .later }
def MkfsFreeUptoCardSaid : Prop := Claim7.holds Tryd.pinned (.plain (OpenSpec.upto mkfsFreeSpec)) mkfsFreeUptoCard
end Rows
end Go.Proofs.YtnbmmhoofilmfaaDoor
