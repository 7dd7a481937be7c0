/-
  DERIVED. GIVEN WITH THE SEED: THE CARDS: each row of YtnbmmhoofilmfaaGreatDoorRows.lean that lists a variable, with what it lists TIED to the program's text (the seventh form; the later family's looks); each row that meets fmt, with fmt's text TOLD by the authors' own Lean function (tested against real Go, not proved from fmt's source: count such statements apart). THE CARD IS WHAT COUNTS. Prove the row's statement (the work); the ties are given (YtnbmmhoofilmfaaGreatDoorTie.lean); close each card by the builder's one call (the guide's Derived/Test/ToyasCard.lean, 'card_holds'). Laid BY PROGRAM, IN A SANDBOX (cutbox-door.mjs). By AI agents, Wed Nov 11 2026. No macro, syntax, notation, axiom, sorry.
-/
import Derived.Test.YtnbmmhoofilmfaaGreatDoorRows
import GoSem.ClaimSeven
namespace Go.Proofs.YtnbmmhoofilmfaaGreatDoor
namespace Rows

/-- THE TIED CARD OF 'quernlaw20.CheckRules'. -/
def checkRulesCard : Claim7 := { stood := { row := checkRulesRow, standIns := [], harness := (true, "4a25a3c710b91d861c6258d10af6f6700458be572535980358bd7fef5c7ac732"), looks := true }, kinds := [], alts := [], laidByText := true, laidKinds := [.data], laidTests := true, laidLooks := .later }
def CheckRulesCardSaid : Prop := Claim7.holds Tryz.pinned (.plain (OpenSpec.ofChange checkRulesSpec)) checkRulesCard

/-- THE TIED CARD OF 'quernlaw20.CheckBlocks'. -/
def checkBlocksCard : Claim7 := { stood := { row := checkBlocksRow, standIns := [], harness := (true, "4a25a3c710b91d861c6258d10af6f6700458be572535980358bd7fef5c7ac732"), looks := true }, kinds := [], alts := [], laidByText := true, laidKinds := [.data], laidTests := true, laidLooks := .later }
def CheckBlocksCardSaid : Prop := Claim7.holds Tryz.pinned (.plain (OpenSpec.ofChange checkBlocksSpec)) checkBlocksCard

/-- THE TIED CARD OF 'quernlaw20.CheckOwners'. -/
def checkOwnersCard : Claim7 := { stood := { row := checkOwnersRow, standIns := [], harness := (true, "4a25a3c710b91d861c6258d10af6f6700458be572535980358bd7fef5c7ac732"), looks := true }, kinds := [], alts := [], laidByText := true, laidKinds := [.data], laidTests := true, laidLooks := .later }
def CheckOwnersCardSaid : Prop := Claim7.holds Tryz.pinned (.plain (OpenSpec.ofChange checkOwnersSpec)) checkOwnersCard

/-- THE TIED CARD OF 'quernlaw20.CheckTree'. -/
def checkTreeCard : Claim7 := { stood := { row := checkTreeRow, standIns := [], harness := (true, "4a25a3c710b91d861c6258d10af6f6700458be572535980358bd7fef5c7ac732"), looks := true }, kinds := [], alts := [], laidByText := true, laidKinds := [.data], laidTests := true, laidLooks := .later }
def CheckTreeCardSaid : Prop := Claim7.holds Tryz.pinned (.plain (OpenSpec.ofChange checkTreeSpec)) checkTreeCard

/-- THE TIED CARD OF 'quernlaw20.CheckBytes'. -/
def checkBytesCard : Claim7 := { stood := { row := checkBytesRow, standIns := [], harness := (true, "4a25a3c710b91d861c6258d10af6f6700458be572535980358bd7fef5c7ac732"), looks := true }, kinds := [], alts := [], laidByText := true, laidKinds := [.data], laidTests := true, laidLooks := .later }
def CheckBytesCardSaid : Prop := Claim7.holds Tryz.pinned (.plain (OpenSpec.ofChange checkBytesSpec)) checkBytesCard

/-- THE TIED CARD OF 'quernlaw20.CheckAnswers'. -/
def checkAnswersCard : Claim7 := { stood := { row := checkAnswersRow, standIns := [], harness := (true, "4a25a3c710b91d861c6258d10af6f6700458be572535980358bd7fef5c7ac732"), looks := true }, kinds := [], alts := [], laidByText := true, laidKinds := [.data], laidTests := true, laidLooks := .later }
def CheckAnswersCardSaid : Prop := Claim7.holds Tryz.pinned (.plain (OpenSpec.ofChange checkAnswersSpec)) checkAnswersCard

/-- THE TIED CARD OF 'quernlaw20.CheckBit'. -/
def checkBitCard : Claim7 := { stood := { row := checkBitRow, standIns := [], harness := (true, "4a25a3c710b91d861c6258d10af6f6700458be572535980358bd7fef5c7ac732"), looks := true }, kinds := [], alts := [], laidByText := true, laidKinds := [.data], laidTests := true, laidLooks := .later }
def CheckBitCardSaid : Prop := Claim7.holds Tryz.pinned (.plain (OpenSpec.ofChange checkBitSpec)) checkBitCard

/-- THE TIED CARD OF 'quernlaw21.MkfsWhole'. -/
def mkfsWholeCard : Claim7 := { stood := { row := mkfsWholeRow, standIns := [], harness := (true, "4a25a3c710b91d861c6258d10af6f6700458be572535980358bd7fef5c7ac732"), looks := true }, kinds := [], alts := [], laidByText := true, laidKinds := [.data], laidTests := true, laidLooks := .later }
def MkfsWholeCardSaid : Prop := Claim7.holds Tryz.pinned (.plain (OpenSpec.ofChange mkfsWholeSpec)) mkfsWholeCard

/-- THE SECOND FORM's CARD OF 'quernlaw20.CheckRules'. -/
def checkRulesUptoCard : Claim7 := { stood := { row := checkRulesUptoRow, standIns := [], harness := (true, "4a25a3c710b91d861c6258d10af6f6700458be572535980358bd7fef5c7ac732"), looks := true }, kinds := [], alts := [], laidByText := true, laidKinds := [.data], laidTests := true, laidLooks := .later }
def CheckRulesUptoCardSaid : Prop := Claim7.holds Tryz.pinned (.plain (OpenSpec.upto checkRulesSpec)) checkRulesUptoCard

/-- THE SECOND FORM's CARD OF 'quernlaw20.CheckBlocks'. -/
def checkBlocksUptoCard : Claim7 := { stood := { row := checkBlocksUptoRow, standIns := [], harness := (true, "4a25a3c710b91d861c6258d10af6f6700458be572535980358bd7fef5c7ac732"), looks := true }, kinds := [], alts := [], laidByText := true, laidKinds := [.data], laidTests := true, laidLooks := .later }
def CheckBlocksUptoCardSaid : Prop := Claim7.holds Tryz.pinned (.plain (OpenSpec.upto checkBlocksSpec)) checkBlocksUptoCard

/-- THE SECOND FORM's CARD OF 'quernlaw20.CheckOwners'. -/
def checkOwnersUptoCard : Claim7 := { stood := { row := checkOwnersUptoRow, standIns := [], harness := (true, "4a25a3c710b91d861c6258d10af6f6700458be572535980358bd7fef5c7ac732"), looks := true }, kinds := [], alts := [], laidByText := true, laidKinds := [.data], laidTests := true, laidLooks := .later }
def CheckOwnersUptoCardSaid : Prop := Claim7.holds Tryz.pinned (.plain (OpenSpec.upto checkOwnersSpec)) checkOwnersUptoCard

/-- THE SECOND FORM's CARD OF 'quernlaw20.CheckTree'. -/
def checkTreeUptoCard : Claim7 := { stood := { row := checkTreeUptoRow, standIns := [], harness := (true, "4a25a3c710b91d861c6258d10af6f6700458be572535980358bd7fef5c7ac732"), looks := true }, kinds := [], alts := [], laidByText := true, laidKinds := [.data], laidTests := true, laidLooks := .later }
def CheckTreeUptoCardSaid : Prop := Claim7.holds Tryz.pinned (.plain (OpenSpec.upto checkTreeSpec)) checkTreeUptoCard

/-- THE SECOND FORM's CARD OF 'quernlaw20.CheckBytes'. -/
def checkBytesUptoCard : Claim7 := { stood := { row := checkBytesUptoRow, standIns := [], harness := (true, "4a25a3c710b91d861c6258d10af6f6700458be572535980358bd7fef5c7ac732"), looks := true }, kinds := [], alts := [], laidByText := true, laidKinds := [.data], laidTests := true, laidLooks := .later }
def CheckBytesUptoCardSaid : Prop := Claim7.holds Tryz.pinned (.plain (OpenSpec.upto checkBytesSpec)) checkBytesUptoCard

/-- THE SECOND FORM's CARD OF 'quernlaw20.CheckAnswers'. -/
def checkAnswersUptoCard : Claim7 := { stood := { row := checkAnswersUptoRow, standIns := [], harness := (true, "4a25a3c710b91d861c6258d10af6f6700458be572535980358bd7fef5c7ac732"), looks := true }, kinds := [], alts := [], laidByText := true, laidKinds := [.data], laidTests := true, laidLooks := .later }
def CheckAnswersUptoCardSaid : Prop := Claim7.holds Tryz.pinned (.plain (OpenSpec.upto checkAnswersSpec)) checkAnswersUptoCard

/-- THE SECOND FORM's CARD OF 'quernlaw20.CheckBit'. -/
def checkBitUptoCard : Claim7 := { stood := { row := checkBitUptoRow, standIns := [], harness := (true, "4a25a3c710b91d861c6258d10af6f6700458be572535980358bd7fef5c7ac732"), looks := true }, kinds := [], alts := [], laidByText := true, laidKinds := [.data], laidTests := true, laidLooks := .later }
def CheckBitUptoCardSaid : Prop := Claim7.holds Tryz.pinned (.plain (OpenSpec.upto checkBitSpec)) checkBitUptoCard

/-- THE SECOND FORM's CARD OF 'quernlaw21.MkfsWhole'. -/
def mkfsWholeUptoCard : Claim7 := { stood := { row := mkfsWholeUptoRow, standIns := [], harness := (true, "4a25a3c710b91d861c6258d10af6f6700458be572535980358bd7fef5c7ac732"), looks := true }, kinds := [], alts := [], laidByText := true, laidKinds := [.data], laidTests := true, laidLooks := .later }
def MkfsWholeUptoCardSaid : Prop := Claim7.holds Tryz.pinned (.plain (OpenSpec.upto mkfsWholeSpec)) mkfsWholeUptoCard
end Rows
end Go.Proofs.YtnbmmhoofilmfaaGreatDoor
