/-
  DERIVED. GIVEN WITH THE SEED: THE CARDS: each row of YtphamecphmbipaaGreatDoorRows.lean that lists a variable, with what it lists TIED to the program's text (the seventh form; the later family's looks); each row that meets fmt, with fmt's text TOLD by the authors' own Lean function (tested against real Go, not proved from fmt's source: count such statements apart). THE CARD IS WHAT COUNTS. Prove the row's statement (the work); the ties are given (YtphamecphmbipaaGreatDoorTie.lean); close each card by the builder's one call (the guide's Derived/Test/ToyasCard.lean, 'card_holds'). Laid BY PROGRAM, IN A SANDBOX (cutbox-door.mjs). By AI agents, Wed Nov 11 2026. No macro, syntax, notation, axiom, sorry.
-/
import Derived.Test.YtphamecphmbipaaGreatDoorRows
import GoSem.ClaimSeven
namespace Go.Proofs.YtphamecphmbipaaGreatDoor
namespace Rows

/-- THE TIED CARD OF 'quernlaw20.CheckRules'. -/
def checkRulesCard : Claim7 := { stood := { row := checkRulesRow, standIns := [], harness := (true, "d31372804fba50e009911ab415bfc1b2018ed5950f7866130cfeef28b015fb25"), looks := true }, kinds := [], alts := [], laidByText := true, laidKinds := [.data], laidTests := true, laidLooks := .later }
def CheckRulesCardSaid : Prop := Claim7.holds Tryz.pinned (.plain (OpenSpec.ofChange checkRulesSpec)) checkRulesCard

/-- THE TIED CARD OF 'quernlaw20.CheckBlocks'. -/
def checkBlocksCard : Claim7 := { stood := { row := checkBlocksRow, standIns := [], harness := (true, "d31372804fba50e009911ab415bfc1b2018ed5950f7866130cfeef28b015fb25"), looks := true }, kinds := [], alts := [], laidByText := true, laidKinds := [.data], laidTests := true, laidLooks := .later }
def CheckBlocksCardSaid : Prop := Claim7.holds Tryz.pinned (.plain (OpenSpec.ofChange checkBlocksSpec)) checkBlocksCard

/-- THE TIED CARD OF 'quernlaw20.CheckOwners'. -/
def checkOwnersCard : Claim7 := { stood := { row := checkOwnersRow, standIns := [], harness := (true, "d31372804fba50e009911ab415bfc1b2018ed5950f7866130cfeef28b015fb25"), looks := true }, kinds := [], alts := [], laidByText := true, laidKinds := [.data], laidTests := true, laidLooks := .later }
def CheckOwnersCardSaid : Prop := Claim7.holds Tryz.pinned (.plain (OpenSpec.ofChange checkOwnersSpec)) checkOwnersCard

/-- THE TIED CARD OF 'quernlaw20.CheckTree'. -/
def checkTreeCard : Claim7 := { stood := { row := checkTreeRow, standIns := [], harness := (true, "d31372804fba50e009911ab415bfc1b2018ed5950f7866130cfeef28b015fb25"), looks := true }, kinds := [], alts := [], laidByText := true, laidKinds := [.data], laidTests := true, laidLooks := .later }
def CheckTreeCardSaid : Prop := Claim7.holds Tryz.pinned (.plain (OpenSpec.ofChange checkTreeSpec)) checkTreeCard

/-- THE TIED CARD OF 'quernlaw20.CheckBytes'. -/
def checkBytesCard : Claim7 := { stood := { row := checkBytesRow, standIns := [], harness := (true, "d31372804fba50e009911ab415bfc1b2018ed5950f7866130cfeef28b015fb25"), looks := true }, kinds := [], alts := [], laidByText := true, laidKinds := [.data], laidTests := true, laidLooks := .later }
def CheckBytesCardSaid : Prop := Claim7.holds Tryz.pinned (.plain (OpenSpec.ofChange checkBytesSpec)) checkBytesCard

/-- THE SECOND FORM's CARD OF 'quernlaw20.CheckRules'. -/
def checkRulesUptoCard : Claim7 := { stood := { row := checkRulesUptoRow, standIns := [], harness := (true, "d31372804fba50e009911ab415bfc1b2018ed5950f7866130cfeef28b015fb25"), looks := true }, kinds := [], alts := [], laidByText := true, laidKinds := [.data], laidTests := true, laidLooks := .later }
def CheckRulesUptoCardSaid : Prop := Claim7.holds Tryz.pinned (.plain (OpenSpec.upto checkRulesSpec)) checkRulesUptoCard

/-- THE SECOND FORM's CARD OF 'quernlaw20.CheckBlocks'. -/
def checkBlocksUptoCard : Claim7 := { stood := { row := checkBlocksUptoRow, standIns := [], harness := (true, "d31372804fba50e009911ab415bfc1b2018ed5950f7866130cfeef28b015fb25"), looks := true }, kinds := [], alts := [], laidByText := true, laidKinds := [.data], laidTests := true, laidLooks := .later }
def CheckBlocksUptoCardSaid : Prop := Claim7.holds Tryz.pinned (.plain (OpenSpec.upto checkBlocksSpec)) checkBlocksUptoCard

/-- THE SECOND FORM's CARD OF 'quernlaw20.CheckOwners'. -/
def checkOwnersUptoCard : Claim7 := { stood := { row := checkOwnersUptoRow, standIns := [], harness := (true, "d31372804fba50e009911ab415bfc1b2018ed5950f7866130cfeef28b015fb25"), looks := true }, kinds := [], alts := [], laidByText := true, laidKinds := [.data], laidTests := true, laidLooks := .later }
def CheckOwnersUptoCardSaid : Prop := Claim7.holds Tryz.pinned (.plain (OpenSpec.upto checkOwnersSpec)) checkOwnersUptoCard

/-- THE SECOND FORM's CARD OF 'quernlaw20.CheckTree'. -/
def checkTreeUptoCard : Claim7 := { stood := { row := checkTreeUptoRow, standIns := [], harness := (true, "d31372804fba50e009911ab415bfc1b2018ed5950f7866130cfeef28b015fb25"), looks := true }, kinds := [], alts := [], laidByText := true, laidKinds := [.data], laidTests := true, laidLooks := .later }
def CheckTreeUptoCardSaid : Prop := Claim7.holds Tryz.pinned (.plain (OpenSpec.upto checkTreeSpec)) checkTreeUptoCard

/-- THE SECOND FORM's CARD OF 'quernlaw20.CheckBytes'. -/
def checkBytesUptoCard : Claim7 := { stood := { row := checkBytesUptoRow, standIns := [], harness := (true, "d31372804fba50e009911ab415bfc1b2018ed5950f7866130cfeef28b015fb25"), looks := true }, kinds := [], alts := [], laidByText := true, laidKinds := [.data], laidTests := true, laidLooks := .later }
def CheckBytesUptoCardSaid : Prop := Claim7.holds Tryz.pinned (.plain (OpenSpec.upto checkBytesSpec)) checkBytesUptoCard
end Rows
end Go.Proofs.YtphamecphmbipaaGreatDoor
