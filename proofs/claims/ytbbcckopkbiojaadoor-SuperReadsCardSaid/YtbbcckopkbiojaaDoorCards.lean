/-
  DERIVED. GIVEN WITH THE SEED: THE CARDS: each row of YtbbcckopkbiojaaDoorRows.lean that lists a variable, with what it lists TIED to the program's text (the seventh form; the later family's looks); each row that meets fmt, with fmt's text TOLD by the authors' own Lean function (tested against real Go, not proved from fmt's source: count such statements apart). THE CARD IS WHAT COUNTS. Prove the row's statement (the work); the ties are given (YtbbcckopkbiojaaDoorTie.lean); close each card by the builder's one call (the guide's Derived/Test/ToyasCard.lean, 'card_holds'). Laid BY PROGRAM, IN A SANDBOX (cutbox-door.mjs). By AI agents, Wed Nov 11 2026. No macro, syntax, notation, axiom, sorry.
-/
import Derived.Test.YtbbcckopkbiojaaDoorRows
import GoSem.ClaimSeven
namespace Go.Proofs.YtbbcckopkbiojaaDoor
namespace Rows

/-- THE TIED CARD OF 'quernlaw06.SuperWrites'. -/
def superWritesCard : Claim7 := { stood := { row := superWritesRow, standIns := [], harness := (true, "c7e32af27daa634c3ebe212bf9ae967398bdc7c5641f097d7435c40ec8bd4c9b"), looks := false }, kinds := [], alts := [], laidByText := true, laidKinds := [.data], laidTests := true, laidLooks := .later }
def SuperWritesCardSaid : Prop := Claim7.holds Tryd.pinned (.plain (OpenSpec.ofChange superWritesSpec)) superWritesCard

/-- THE TIED CARD OF 'quernlaw06.SuperReads'. -/
def superReadsCard : Claim7 := { stood := { row := superReadsRow, standIns := [], harness := (true, "c7e32af27daa634c3ebe212bf9ae967398bdc7c5641f097d7435c40ec8bd4c9b"), looks := false }, kinds := [], alts := [], laidByText := true, laidKinds := [.data], laidTests := true, laidLooks := .later }
def SuperReadsCardSaid : Prop := Claim7.holds Tryd.pinned (.plain (OpenSpec.ofChange superReadsSpec)) superReadsCard

/-- THE TIED CARD OF 'quernlaw06.SuperUnlike'. -/
def superUnlikeCard : Claim7 := { stood := { row := superUnlikeRow, standIns := [], harness := (true, "c7e32af27daa634c3ebe212bf9ae967398bdc7c5641f097d7435c40ec8bd4c9b"), looks := false }, kinds := [], alts := [], laidByText := true, laidKinds := [.data], laidTests := true, laidLooks := .later }
def SuperUnlikeCardSaid : Prop := Claim7.holds Tryd.pinned (.plain (OpenSpec.ofChange superUnlikeSpec)) superUnlikeCard

/-- THE TIED CARD OF 'quernlaw06.SuperBack'. -/
def superBackCard : Claim7 := { stood := { row := superBackRow, standIns := [], harness := (true, "c7e32af27daa634c3ebe212bf9ae967398bdc7c5641f097d7435c40ec8bd4c9b"), looks := false }, kinds := [], alts := [], laidByText := true, laidKinds := [.data], laidTests := true, laidLooks := .later }
def SuperBackCardSaid : Prop := Claim7.holds Tryd.pinned (.plain (OpenSpec.ofChange superBackSpec)) superBackCard

/-- THE TIED CARD OF 'quernlaw06.SuperByte'. -/
def superByteCard : Claim7 := { stood := { row := superByteRow, standIns := [], harness := (true, "c7e32af27daa634c3ebe212bf9ae967398bdc7c5641f097d7435c40ec8bd4c9b"), looks := false }, kinds := [], alts := [], laidByText := true, laidKinds := [.data], laidTests := true, laidLooks := .later }
def SuperByteCardSaid : Prop := Claim7.holds Tryd.pinned (.plain (OpenSpec.ofChange superByteSpec)) superByteCard

/-- THE TIED CARD OF 'quernlaw06.SuperNone'. -/
def superNoneCard : Claim7 := { stood := { row := superNoneRow, standIns := [], harness := (true, "c7e32af27daa634c3ebe212bf9ae967398bdc7c5641f097d7435c40ec8bd4c9b"), looks := false }, kinds := [], alts := [], laidByText := true, laidKinds := [.data], laidTests := true, laidLooks := .later }
def SuperNoneCardSaid : Prop := Claim7.holds Tryd.pinned (.plain (OpenSpec.ofChange superNoneSpec)) superNoneCard

/-- THE TIED CARD OF 'quernlaw06.SuperKinds'. -/
def superKindsCard : Claim7 := { stood := { row := superKindsRow, standIns := [], harness := (true, "c7e32af27daa634c3ebe212bf9ae967398bdc7c5641f097d7435c40ec8bd4c9b"), looks := false }, kinds := [], alts := [], laidByText := true, laidKinds := [.data], laidTests := true, laidLooks := .later }
def SuperKindsCardSaid : Prop := Claim7.holds Tryd.pinned (.plain (OpenSpec.ofChange superKindsSpec)) superKindsCard

/-- THE TIED CARD OF 'quernlaw06.SuperRow'. -/
def superRowCard : Claim7 := { stood := { row := superRowRow, standIns := [], harness := (true, "c7e32af27daa634c3ebe212bf9ae967398bdc7c5641f097d7435c40ec8bd4c9b"), looks := false }, kinds := [], alts := [], laidByText := true, laidKinds := [.data], laidTests := true, laidLooks := .later }
def SuperRowCardSaid : Prop := Claim7.holds Tryd.pinned (.plain (OpenSpec.ofChange superRowSpec)) superRowCard

/-- THE SECOND FORM's CARD OF 'quernlaw06.SuperWrites'. -/
def superWritesUptoCard : Claim7 := { stood := { row := superWritesUptoRow, standIns := [], harness := (true, "c7e32af27daa634c3ebe212bf9ae967398bdc7c5641f097d7435c40ec8bd4c9b"), looks := false }, kinds := [], alts := [], laidByText := true, laidKinds := [.data], laidTests := true, laidLooks := .later }
def SuperWritesUptoCardSaid : Prop := Claim7.holds Tryd.pinned (.plain (OpenSpec.upto superWritesSpec)) superWritesUptoCard

/-- THE SECOND FORM's CARD OF 'quernlaw06.SuperReads'. -/
def superReadsUptoCard : Claim7 := { stood := { row := superReadsUptoRow, standIns := [], harness := (true, "c7e32af27daa634c3ebe212bf9ae967398bdc7c5641f097d7435c40ec8bd4c9b"), looks := false }, kinds := [], alts := [], laidByText := true, laidKinds := [.data], laidTests := true, laidLooks := .later }
def SuperReadsUptoCardSaid : Prop := Claim7.holds Tryd.pinned (.plain (OpenSpec.upto superReadsSpec)) superReadsUptoCard

/-- THE SECOND FORM's CARD OF 'quernlaw06.SuperUnlike'. -/
def superUnlikeUptoCard : Claim7 := { stood := { row := superUnlikeUptoRow, standIns := [], harness := (true, "c7e32af27daa634c3ebe212bf9ae967398bdc7c5641f097d7435c40ec8bd4c9b"), looks := false }, kinds := [], alts := [], laidByText := true, laidKinds := [.data], laidTests := true, laidLooks := .later }
def SuperUnlikeUptoCardSaid : Prop := Claim7.holds Tryd.pinned (.plain (OpenSpec.upto superUnlikeSpec)) superUnlikeUptoCard

/-- THE SECOND FORM's CARD OF 'quernlaw06.SuperBack'. -/
def superBackUptoCard : Claim7 := { stood := { row := superBackUptoRow, standIns := [], harness := (true, "c7e32af27daa634c3ebe212bf9ae967398bdc7c5641f097d7435c40ec8bd4c9b"), looks := false }, kinds := [], alts := [], laidByText := true, laidKinds := [.data], laidTests := true, laidLooks := .later }
def SuperBackUptoCardSaid : Prop := Claim7.holds Tryd.pinned (.plain (OpenSpec.upto superBackSpec)) superBackUptoCard

/-- THE SECOND FORM's CARD OF 'quernlaw06.SuperByte'. -/
def superByteUptoCard : Claim7 := { stood := { row := superByteUptoRow, standIns := [], harness := (true, "c7e32af27daa634c3ebe212bf9ae967398bdc7c5641f097d7435c40ec8bd4c9b"), looks := false }, kinds := [], alts := [], laidByText := true, laidKinds := [.data], laidTests := true, laidLooks := .later }
def SuperByteUptoCardSaid : Prop := Claim7.holds Tryd.pinned (.plain (OpenSpec.upto superByteSpec)) superByteUptoCard

/-- THE SECOND FORM's CARD OF 'quernlaw06.SuperNone'. -/
def superNoneUptoCard : Claim7 := { stood := { row := superNoneUptoRow, standIns := [], harness := (true, "c7e32af27daa634c3ebe212bf9ae967398bdc7c5641f097d7435c40ec8bd4c9b"), looks := false }, kinds := [], alts := [], laidByText := true, laidKinds := [.data], laidTests := true, laidLooks := .later }
def SuperNoneUptoCardSaid : Prop := Claim7.holds Tryd.pinned (.plain (OpenSpec.upto superNoneSpec)) superNoneUptoCard

/-- THE SECOND FORM's CARD OF 'quernlaw06.SuperKinds'. -/
def superKindsUptoCard : Claim7 := { stood := { row := superKindsUptoRow, standIns := [], harness := (true, "c7e32af27daa634c3ebe212bf9ae967398bdc7c5641f097d7435c40ec8bd4c9b"), looks := false }, kinds := [], alts := [], laidByText := true, laidKinds := [.data], laidTests := true, laidLooks := .later }
def SuperKindsUptoCardSaid : Prop := Claim7.holds Tryd.pinned (.plain (OpenSpec.upto superKindsSpec)) superKindsUptoCard

/-- THE SECOND FORM's CARD OF 'quernlaw06.SuperRow'. -/
def superRowUptoCard : Claim7 := { stood := { row := superRowUptoRow, standIns := [], harness := (true, "c7e32af27daa634c3ebe212bf9ae967398bdc7c5641f097d7435c40ec8bd4c9b"), looks := false }, kinds := [], alts := [], laidByText := true, laidKinds := [.data], laidTests := true, laidLooks := .later }
def SuperRowUptoCardSaid : Prop := Claim7.holds Tryd.pinned (.plain (OpenSpec.upto superRowSpec)) superRowUptoCard
end Rows
end Go.Proofs.YtbbcckopkbiojaaDoor
