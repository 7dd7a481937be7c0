/-
  DERIVED. GIVEN WITH THE SEED: THE CARDS: each row of YthkalmdpbhjafaaDoorRows.lean that lists a variable, with what it lists TIED to the program's text (the seventh form; the later family's looks); each row that meets fmt, with fmt's text TOLD by the authors' own Lean function (tested against real Go, not proved from fmt's source: count such statements apart). THE CARD IS WHAT COUNTS. Prove the row's statement (the work); the ties are given (YthkalmdpbhjafaaDoorTie.lean); close each card by the builder's one call (the guide's Derived/Test/ToyasCard.lean, 'card_holds'). Laid BY PROGRAM, IN A SANDBOX (cutbox-door.mjs). By AI agents, Wed Nov 11 2026. No macro, syntax, notation, axiom, sorry.
-/
import Derived.Test.YthkalmdpbhjafaaDoorRows
import GoSem.ClaimSeven
namespace Go.Proofs.YthkalmdpbhjafaaDoor
namespace Rows

/-- THE TIED CARD OF 'quernlaw15.PackPacks'. -/
def packPacksCard : Claim7 := { stood := { row := packPacksRow, standIns := [], harness := (true, "a9187b88e7d7c28a706db245579ec72a5ea96d4eb64588ade721b066b7a9b960"), looks := false }, kinds := [], alts := [], laidByText := true, laidKinds := [.data], laidTests := true, laidLooks := .later }
def PackPacksCardSaid : Prop := Claim7.holds Tryd.pinned (.plain (OpenSpec.ofChange packPacksSpec)) packPacksCard

/-- THE TIED CARD OF 'quernlaw15.PackUnpacks'. -/
def packUnpacksCard : Claim7 := { stood := { row := packUnpacksRow, standIns := [], harness := (true, "a9187b88e7d7c28a706db245579ec72a5ea96d4eb64588ade721b066b7a9b960"), looks := false }, kinds := [], alts := [], laidByText := true, laidKinds := [.data], laidTests := true, laidLooks := .later }
def PackUnpacksCardSaid : Prop := Claim7.holds Tryd.pinned (.plain (OpenSpec.ofChange packUnpacksSpec)) packUnpacksCard

/-- THE TIED CARD OF 'quernlaw15.PackBack'. -/
def packBackCard : Claim7 := { stood := { row := packBackRow, standIns := [], harness := (true, "a9187b88e7d7c28a706db245579ec72a5ea96d4eb64588ade721b066b7a9b960"), looks := false }, kinds := [], alts := [], laidByText := true, laidKinds := [.data], laidTests := true, laidLooks := .later }
def PackBackCardSaid : Prop := Claim7.holds Tryd.pinned (.plain (OpenSpec.ofChange packBackSpec)) packBackCard

/-- THE TIED CARD OF 'quernlaw15.PackWhole'. -/
def packWholeCard : Claim7 := { stood := { row := packWholeRow, standIns := [], harness := (true, "a9187b88e7d7c28a706db245579ec72a5ea96d4eb64588ade721b066b7a9b960"), looks := false }, kinds := [], alts := [], laidByText := true, laidKinds := [.data], laidTests := true, laidLooks := .later }
def PackWholeCardSaid : Prop := Claim7.holds Tryd.pinned (.plain (OpenSpec.ofChange packWholeSpec)) packWholeCard

/-- THE TIED CARD OF 'quernlaw15.PackRead'. -/
def packReadCard : Claim7 := { stood := { row := packReadRow, standIns := [], harness := (true, "a9187b88e7d7c28a706db245579ec72a5ea96d4eb64588ade721b066b7a9b960"), looks := false }, kinds := [], alts := [], laidByText := true, laidKinds := [.data], laidTests := true, laidLooks := .later }
def PackReadCardSaid : Prop := Claim7.holds Tryd.pinned (.plain (OpenSpec.ofChange packReadSpec)) packReadCard

/-- THE TIED CARD OF 'quernlaw15.PackTwo'. -/
def packTwoCard : Claim7 := { stood := { row := packTwoRow, standIns := [], harness := (true, "a9187b88e7d7c28a706db245579ec72a5ea96d4eb64588ade721b066b7a9b960"), looks := false }, kinds := [], alts := [], laidByText := true, laidKinds := [.data], laidTests := true, laidLooks := .later }
def PackTwoCardSaid : Prop := Claim7.holds Tryd.pinned (.plain (OpenSpec.ofChange packTwoSpec)) packTwoCard

/-- THE TIED CARD OF 'quernlaw15.PackGrows'. -/
def packGrowsCard : Claim7 := { stood := { row := packGrowsRow, standIns := [], harness := (true, "a9187b88e7d7c28a706db245579ec72a5ea96d4eb64588ade721b066b7a9b960"), looks := false }, kinds := [], alts := [], laidByText := true, laidKinds := [.data], laidTests := true, laidLooks := .later }
def PackGrowsCardSaid : Prop := Claim7.holds Tryd.pinned (.plain (OpenSpec.ofChange packGrowsSpec)) packGrowsCard

/-- THE TIED CARD OF 'quernlaw15.PackSeq'. -/
def packSeqCard : Claim7 := { stood := { row := packSeqRow, standIns := [], harness := (true, "a9187b88e7d7c28a706db245579ec72a5ea96d4eb64588ade721b066b7a9b960"), looks := false }, kinds := [], alts := [], laidByText := true, laidKinds := [.data], laidTests := true, laidLooks := .later }
def PackSeqCardSaid : Prop := Claim7.holds Tryd.pinned (.plain (OpenSpec.ofChange packSeqSpec)) packSeqCard

/-- THE SECOND FORM's CARD OF 'quernlaw15.PackPacks'. -/
def packPacksUptoCard : Claim7 := { stood := { row := packPacksUptoRow, standIns := [], harness := (true, "a9187b88e7d7c28a706db245579ec72a5ea96d4eb64588ade721b066b7a9b960"), looks := false }, kinds := [], alts := [], laidByText := true, laidKinds := [.data], laidTests := true, laidLooks := .later }
def PackPacksUptoCardSaid : Prop := Claim7.holds Tryd.pinned (.plain (OpenSpec.upto packPacksSpec)) packPacksUptoCard

/-- THE SECOND FORM's CARD OF 'quernlaw15.PackUnpacks'. -/
def packUnpacksUptoCard : Claim7 := { stood := { row := packUnpacksUptoRow, standIns := [], harness := (true, "a9187b88e7d7c28a706db245579ec72a5ea96d4eb64588ade721b066b7a9b960"), looks := false }, kinds := [], alts := [], laidByText := true, laidKinds := [.data], laidTests := true, laidLooks := .later }
def PackUnpacksUptoCardSaid : Prop := Claim7.holds Tryd.pinned (.plain (OpenSpec.upto packUnpacksSpec)) packUnpacksUptoCard

/-- THE SECOND FORM's CARD OF 'quernlaw15.PackBack'. -/
def packBackUptoCard : Claim7 := { stood := { row := packBackUptoRow, standIns := [], harness := (true, "a9187b88e7d7c28a706db245579ec72a5ea96d4eb64588ade721b066b7a9b960"), looks := false }, kinds := [], alts := [], laidByText := true, laidKinds := [.data], laidTests := true, laidLooks := .later }
def PackBackUptoCardSaid : Prop := Claim7.holds Tryd.pinned (.plain (OpenSpec.upto packBackSpec)) packBackUptoCard

/-- THE SECOND FORM's CARD OF 'quernlaw15.PackWhole'. -/
def packWholeUptoCard : Claim7 := { stood := { row := packWholeUptoRow, standIns := [], harness := (true, "a9187b88e7d7c28a706db245579ec72a5ea96d4eb64588ade721b066b7a9b960"), looks := false }, kinds := [], alts := [], laidByText := true, laidKinds := [.data], laidTests := true, laidLooks := .later }
def PackWholeUptoCardSaid : Prop := Claim7.holds Tryd.pinned (.plain (OpenSpec.upto packWholeSpec)) packWholeUptoCard

/-- THE SECOND FORM's CARD OF 'quernlaw15.PackRead'. -/
def packReadUptoCard : Claim7 := { stood := { row := packReadUptoRow, standIns := [], harness := (true, "a9187b88e7d7c28a706db245579ec72a5ea96d4eb64588ade721b066b7a9b960"), looks := false }, kinds := [], alts := [], laidByText := true, laidKinds := [.data], laidTests := true, laidLooks := .later }
def PackReadUptoCardSaid : Prop := Claim7.holds Tryd.pinned (.plain (OpenSpec.upto packReadSpec)) packReadUptoCard

/-- THE SECOND FORM's CARD OF 'quernlaw15.PackTwo'. -/
def packTwoUptoCard : Claim7 := { stood := { row := packTwoUptoRow, standIns := [], harness := (true, "a9187b88e7d7c28a706db245579ec72a5ea96d4eb64588ade721b066b7a9b960"), looks := false }, kinds := [], alts := [], laidByText := true, laidKinds := [.data], laidTests := true, laidLooks := .later }
def PackTwoUptoCardSaid : Prop := Claim7.holds Tryd.pinned (.plain (OpenSpec.upto packTwoSpec)) packTwoUptoCard

/-- THE SECOND FORM's CARD OF 'quernlaw15.PackGrows'. -/
def packGrowsUptoCard : Claim7 := { stood := { row := packGrowsUptoRow, standIns := [], harness := (true, "a9187b88e7d7c28a706db245579ec72a5ea96d4eb64588ade721b066b7a9b960"), looks := false }, kinds := [], alts := [], laidByText := true, laidKinds := [.data], laidTests := true, laidLooks := .later }
def PackGrowsUptoCardSaid : Prop := Claim7.holds Tryd.pinned (.plain (OpenSpec.upto packGrowsSpec)) packGrowsUptoCard

/-- THE SECOND FORM's CARD OF 'quernlaw15.PackSeq'. -/
def packSeqUptoCard : Claim7 := { stood := { row := packSeqUptoRow, standIns := [], harness := (true, "a9187b88e7d7c28a706db245579ec72a5ea96d4eb64588ade721b066b7a9b960"), looks := false }, kinds := [], alts := [], laidByText := true, laidKinds := [.data], laidTests := true, laidLooks := .later }
def PackSeqUptoCardSaid : Prop := Claim7.holds Tryd.pinned (.plain (OpenSpec.upto packSeqSpec)) packSeqUptoCard
end Rows
end Go.Proofs.YthkalmdpbhjafaaDoor
