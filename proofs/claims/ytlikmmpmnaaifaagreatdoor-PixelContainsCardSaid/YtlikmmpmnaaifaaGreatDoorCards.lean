/-
  DERIVED. GIVEN WITH THE SEED: THE CARDS: each row of YtlikmmpmnaaifaaGreatDoorRows.lean that lists a variable, with what it lists TIED to the program's text (the seventh form; the later family's looks); each row that meets fmt, with fmt's text TOLD by the authors' own Lean function (tested against real Go, not proved from fmt's source: count such statements apart). THE CARD IS WHAT COUNTS. Prove the row's statement (the work); the ties are given (YtlikmmpmnaaifaaGreatDoorTie.lean); close each card by the builder's one call (the guide's Derived/Test/ToyasCard.lean, 'card_holds'). Laid BY PROGRAM, IN A SANDBOX (cutbox-door.mjs). By AI agents, Wed Nov 11 2026. No macro, syntax, notation, axiom, sorry.
-/
import Derived.Test.YtlikmmpmnaaifaaGreatDoorRows
import GoSem.ClaimSeven
namespace Go.Proofs.YtlikmmpmnaaifaaGreatDoor
namespace Rows

/-- THE TIED CARD OF 'slatewalllaw07.PlaneMatchesReference'. -/
def planeMatchesReferenceCard : Claim7 := { stood := { row := planeMatchesReferenceRow, standIns := [], harness := (true, "5dea4b6a255b301311433cb447cf45293bd534eb552398b29817440953aa8de0"), looks := true }, kinds := [], alts := [], laidByText := true, laidKinds := [.data, .data, .data, .data, .sentinel, .sentinel, .pinned], laidTests := true, laidLooks := .later }
def PlaneMatchesReferenceCardSaid : Prop := Claim7.holds Tryz.pinned (.plain (OpenSpec.ofChange planeMatchesReferenceSpec)) planeMatchesReferenceCard

/-- THE TIED CARD OF 'slatewalllaw25.PixelAreas'. -/
def pixelAreasCard : Claim7 := { stood := { row := pixelAreasRow, standIns := [], harness := (true, "5dea4b6a255b301311433cb447cf45293bd534eb552398b29817440953aa8de0"), looks := true }, kinds := [], alts := [], laidByText := true, laidKinds := [.data, .data, .data, .data, .sentinel, .sentinel, .pinned], laidTests := true, laidLooks := .later }
def PixelAreasCardSaid : Prop := Claim7.holds Tryz.pinned (.plain (OpenSpec.ofChange pixelAreasSpec)) pixelAreasCard

/-- THE TIED CARD OF 'slatewalllaw25.PixelMoves'. -/
def pixelMovesCard : Claim7 := { stood := { row := pixelMovesRow, standIns := [], harness := (true, "5dea4b6a255b301311433cb447cf45293bd534eb552398b29817440953aa8de0"), looks := true }, kinds := [], alts := [], laidByText := true, laidKinds := [.data, .data, .data, .data, .sentinel, .sentinel, .pinned], laidTests := true, laidLooks := .later }
def PixelMovesCardSaid : Prop := Claim7.holds Tryz.pinned (.plain (OpenSpec.ofChange pixelMovesSpec)) pixelMovesCard

/-- THE TIED CARD OF 'slatewalllaw25.PixelOverlaps'. -/
def pixelOverlapsCard : Claim7 := { stood := { row := pixelOverlapsRow, standIns := [], harness := (true, "5dea4b6a255b301311433cb447cf45293bd534eb552398b29817440953aa8de0"), looks := true }, kinds := [], alts := [], laidByText := true, laidKinds := [.data, .data, .data, .data, .sentinel, .sentinel, .pinned], laidTests := true, laidLooks := .later }
def PixelOverlapsCardSaid : Prop := Claim7.holds Tryz.pinned (.plain (OpenSpec.ofChange pixelOverlapsSpec)) pixelOverlapsCard

/-- THE TIED CARD OF 'slatewalllaw25.PixelFiner'. -/
def pixelFinerCard : Claim7 := { stood := { row := pixelFinerRow, standIns := [], harness := (true, "5dea4b6a255b301311433cb447cf45293bd534eb552398b29817440953aa8de0"), looks := true }, kinds := [], alts := [], laidByText := true, laidKinds := [.data, .data, .data, .data, .sentinel, .sentinel, .pinned], laidTests := true, laidLooks := .later }
def PixelFinerCardSaid : Prop := Claim7.holds Tryz.pinned (.plain (OpenSpec.ofChange pixelFinerSpec)) pixelFinerCard

/-- THE TIED CARD OF 'slatewalllaw25.PixelContains'. -/
def pixelContainsCard : Claim7 := { stood := { row := pixelContainsRow, standIns := [], harness := (true, "5dea4b6a255b301311433cb447cf45293bd534eb552398b29817440953aa8de0"), looks := true }, kinds := [], alts := [], laidByText := true, laidKinds := [.data, .data, .data, .data, .sentinel, .sentinel, .pinned], laidTests := true, laidLooks := .later }
def PixelContainsCardSaid : Prop := Claim7.holds Tryz.pinned (.plain (OpenSpec.ofChange pixelContainsSpec)) pixelContainsCard

/-- THE TIED CARD OF 'slatewalllaw25.PixelMatchesReference'. -/
def pixelMatchesReferenceCard : Claim7 := { stood := { row := pixelMatchesReferenceRow, standIns := [], harness := (true, "5dea4b6a255b301311433cb447cf45293bd534eb552398b29817440953aa8de0"), looks := true }, kinds := [], alts := [], laidByText := true, laidKinds := [.data, .data, .data, .data, .sentinel, .sentinel, .pinned], laidTests := true, laidLooks := .later }
def PixelMatchesReferenceCardSaid : Prop := Claim7.holds Tryz.pinned (.plain (OpenSpec.ofChange pixelMatchesReferenceSpec)) pixelMatchesReferenceCard

/-- THE TIED CARD OF 'slatewalllaw25.PixelParts'. -/
def pixelPartsCard : Claim7 := { stood := { row := pixelPartsRow, standIns := [], harness := (true, "5dea4b6a255b301311433cb447cf45293bd534eb552398b29817440953aa8de0"), looks := true }, kinds := [], alts := [], laidByText := true, laidKinds := [.data, .data, .data, .data, .sentinel, .sentinel, .pinned], laidTests := true, laidLooks := .later }
def PixelPartsCardSaid : Prop := Claim7.holds Tryz.pinned (.plain (OpenSpec.ofChange pixelPartsSpec)) pixelPartsCard

/-- THE SECOND FORM's CARD OF 'slatewalllaw07.PlaneMatchesReference'. -/
def planeMatchesReferenceUptoCard : Claim7 := { stood := { row := planeMatchesReferenceUptoRow, standIns := [], harness := (true, "5dea4b6a255b301311433cb447cf45293bd534eb552398b29817440953aa8de0"), looks := true }, kinds := [], alts := [], laidByText := true, laidKinds := [.data, .data, .data, .data, .sentinel, .sentinel, .pinned], laidTests := true, laidLooks := .later }
def PlaneMatchesReferenceUptoCardSaid : Prop := Claim7.holds Tryz.pinned (.plain (OpenSpec.upto planeMatchesReferenceSpec)) planeMatchesReferenceUptoCard

/-- THE SECOND FORM's CARD OF 'slatewalllaw25.PixelAreas'. -/
def pixelAreasUptoCard : Claim7 := { stood := { row := pixelAreasUptoRow, standIns := [], harness := (true, "5dea4b6a255b301311433cb447cf45293bd534eb552398b29817440953aa8de0"), looks := true }, kinds := [], alts := [], laidByText := true, laidKinds := [.data, .data, .data, .data, .sentinel, .sentinel, .pinned], laidTests := true, laidLooks := .later }
def PixelAreasUptoCardSaid : Prop := Claim7.holds Tryz.pinned (.plain (OpenSpec.upto pixelAreasSpec)) pixelAreasUptoCard

/-- THE SECOND FORM's CARD OF 'slatewalllaw25.PixelMoves'. -/
def pixelMovesUptoCard : Claim7 := { stood := { row := pixelMovesUptoRow, standIns := [], harness := (true, "5dea4b6a255b301311433cb447cf45293bd534eb552398b29817440953aa8de0"), looks := true }, kinds := [], alts := [], laidByText := true, laidKinds := [.data, .data, .data, .data, .sentinel, .sentinel, .pinned], laidTests := true, laidLooks := .later }
def PixelMovesUptoCardSaid : Prop := Claim7.holds Tryz.pinned (.plain (OpenSpec.upto pixelMovesSpec)) pixelMovesUptoCard

/-- THE SECOND FORM's CARD OF 'slatewalllaw25.PixelOverlaps'. -/
def pixelOverlapsUptoCard : Claim7 := { stood := { row := pixelOverlapsUptoRow, standIns := [], harness := (true, "5dea4b6a255b301311433cb447cf45293bd534eb552398b29817440953aa8de0"), looks := true }, kinds := [], alts := [], laidByText := true, laidKinds := [.data, .data, .data, .data, .sentinel, .sentinel, .pinned], laidTests := true, laidLooks := .later }
def PixelOverlapsUptoCardSaid : Prop := Claim7.holds Tryz.pinned (.plain (OpenSpec.upto pixelOverlapsSpec)) pixelOverlapsUptoCard

/-- THE SECOND FORM's CARD OF 'slatewalllaw25.PixelFiner'. -/
def pixelFinerUptoCard : Claim7 := { stood := { row := pixelFinerUptoRow, standIns := [], harness := (true, "5dea4b6a255b301311433cb447cf45293bd534eb552398b29817440953aa8de0"), looks := true }, kinds := [], alts := [], laidByText := true, laidKinds := [.data, .data, .data, .data, .sentinel, .sentinel, .pinned], laidTests := true, laidLooks := .later }
def PixelFinerUptoCardSaid : Prop := Claim7.holds Tryz.pinned (.plain (OpenSpec.upto pixelFinerSpec)) pixelFinerUptoCard

/-- THE SECOND FORM's CARD OF 'slatewalllaw25.PixelContains'. -/
def pixelContainsUptoCard : Claim7 := { stood := { row := pixelContainsUptoRow, standIns := [], harness := (true, "5dea4b6a255b301311433cb447cf45293bd534eb552398b29817440953aa8de0"), looks := true }, kinds := [], alts := [], laidByText := true, laidKinds := [.data, .data, .data, .data, .sentinel, .sentinel, .pinned], laidTests := true, laidLooks := .later }
def PixelContainsUptoCardSaid : Prop := Claim7.holds Tryz.pinned (.plain (OpenSpec.upto pixelContainsSpec)) pixelContainsUptoCard

/-- THE SECOND FORM's CARD OF 'slatewalllaw25.PixelMatchesReference'. -/
def pixelMatchesReferenceUptoCard : Claim7 := { stood := { row := pixelMatchesReferenceUptoRow, standIns := [], harness := (true, "5dea4b6a255b301311433cb447cf45293bd534eb552398b29817440953aa8de0"), looks := true }, kinds := [], alts := [], laidByText := true, laidKinds := [.data, .data, .data, .data, .sentinel, .sentinel, .pinned], laidTests := true, laidLooks := .later }
def PixelMatchesReferenceUptoCardSaid : Prop := Claim7.holds Tryz.pinned (.plain (OpenSpec.upto pixelMatchesReferenceSpec)) pixelMatchesReferenceUptoCard

/-- THE SECOND FORM's CARD OF 'slatewalllaw25.PixelParts'. -/
def pixelPartsUptoCard : Claim7 := { stood := { row := pixelPartsUptoRow, standIns := [], harness := (true, "5dea4b6a255b301311433cb447cf45293bd534eb552398b29817440953aa8de0"), looks := true }, kinds := [], alts := [], laidByText := true, laidKinds := [.data, .data, .data, .data, .sentinel, .sentinel, .pinned], laidTests := true, laidLooks := .later }
def PixelPartsUptoCardSaid : Prop := Claim7.holds Tryz.pinned (.plain (OpenSpec.upto pixelPartsSpec)) pixelPartsUptoCard
end Rows
end Go.Proofs.YtlikmmpmnaaifaaGreatDoor
