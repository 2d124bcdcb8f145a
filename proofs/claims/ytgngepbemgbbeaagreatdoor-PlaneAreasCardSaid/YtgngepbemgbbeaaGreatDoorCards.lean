/-
  DERIVED. GIVEN WITH THE SEED: THE CARDS: each row of YtgngepbemgbbeaaGreatDoorRows.lean that lists a variable, with what it lists TIED to the program's text (the seventh form; the later family's looks); each row that meets fmt, with fmt's text TOLD by the authors' own Lean function (tested against real Go, not proved from fmt's source: count such statements apart). THE CARD IS WHAT COUNTS. Prove the row's statement (the work); the ties are given (YtgngepbemgbbeaaGreatDoorTie.lean); close each card by the builder's one call (the guide's Derived/Test/ToyasCard.lean, 'card_holds'). Laid BY PROGRAM, IN A SANDBOX (cutbox-door.mjs). By AI agents, Wed Nov 11 2026. No macro, syntax, notation, axiom, sorry.
-/
import Derived.Test.YtgngepbemgbbeaaGreatDoorRows
import GoSem.ClaimSeven
namespace Go.Proofs.YtgngepbemgbbeaaGreatDoor
namespace Rows

/-- THE TIED CARD OF 'slatewalllaw07.PlaneMatchesReference'. -/
def planeMatchesReferenceCard : Claim7 := { stood := { row := planeMatchesReferenceRow, standIns := [], harness := (true, "2f2a7a7a6509c450d448942e631bf11c42cf2269ddd2d0116cef43a5f40fa874"), looks := true }, kinds := [], alts := [], laidByText := true, laidKinds := [.data, .data, .data, .data, .sentinel, .sentinel, .pinned], laidTests := true, laidLooks := .later }
def PlaneMatchesReferenceCardSaid : Prop := Claim7.holds Tryz.pinned (.plain (OpenSpec.ofChange planeMatchesReferenceSpec)) planeMatchesReferenceCard

/-- THE TIED CARD OF 'slatewalllaw07.PlaneSides'. -/
def planeSidesCard : Claim7 := { stood := { row := planeSidesRow, standIns := [], harness := (true, "2f2a7a7a6509c450d448942e631bf11c42cf2269ddd2d0116cef43a5f40fa874"), looks := true }, kinds := [], alts := [], laidByText := true, laidKinds := [.data, .data, .data, .data, .sentinel, .sentinel, .pinned], laidTests := true, laidLooks := .later }
def PlaneSidesCardSaid : Prop := Claim7.holds Tryz.pinned (.plain (OpenSpec.ofChange planeSidesSpec)) planeSidesCard

/-- THE TIED CARD OF 'slatewalllaw07.PlaneCrosses'. -/
def planeCrossesCard : Claim7 := { stood := { row := planeCrossesRow, standIns := [], harness := (true, "2f2a7a7a6509c450d448942e631bf11c42cf2269ddd2d0116cef43a5f40fa874"), looks := true }, kinds := [], alts := [], laidByText := true, laidKinds := [.data, .data, .data, .data, .sentinel, .sentinel, .pinned], laidTests := true, laidLooks := .later }
def PlaneCrossesCardSaid : Prop := Claim7.holds Tryz.pinned (.plain (OpenSpec.ofChange planeCrossesSpec)) planeCrossesCard

/-- THE TIED CARD OF 'slatewalllaw07.PlaneHulls'. -/
def planeHullsCard : Claim7 := { stood := { row := planeHullsRow, standIns := [], harness := (true, "2f2a7a7a6509c450d448942e631bf11c42cf2269ddd2d0116cef43a5f40fa874"), looks := true }, kinds := [], alts := [], laidByText := true, laidKinds := [.data, .data, .data, .data, .sentinel, .sentinel, .pinned], laidTests := true, laidLooks := .later }
def PlaneHullsCardSaid : Prop := Claim7.holds Tryz.pinned (.plain (OpenSpec.ofChange planeHullsSpec)) planeHullsCard

/-- THE TIED CARD OF 'slatewalllaw07.PlaneDistances'. -/
def planeDistancesCard : Claim7 := { stood := { row := planeDistancesRow, standIns := [], harness := (true, "2f2a7a7a6509c450d448942e631bf11c42cf2269ddd2d0116cef43a5f40fa874"), looks := true }, kinds := [], alts := [], laidByText := true, laidKinds := [.data, .data, .data, .data, .sentinel, .sentinel, .pinned], laidTests := true, laidLooks := .later }
def PlaneDistancesCardSaid : Prop := Claim7.holds Tryz.pinned (.plain (OpenSpec.ofChange planeDistancesSpec)) planeDistancesCard

/-- THE TIED CARD OF 'slatewalllaw07.PlaneAreas'. -/
def planeAreasCard : Claim7 := { stood := { row := planeAreasRow, standIns := [], harness := (true, "2f2a7a7a6509c450d448942e631bf11c42cf2269ddd2d0116cef43a5f40fa874"), looks := true }, kinds := [], alts := [], laidByText := true, laidKinds := [.data, .data, .data, .data, .sentinel, .sentinel, .pinned], laidTests := true, laidLooks := .later }
def PlaneAreasCardSaid : Prop := Claim7.holds Tryz.pinned (.plain (OpenSpec.ofChange planeAreasSpec)) planeAreasCard

/-- THE TIED CARD OF 'slatewalllaw07.PlaneRects'. -/
def planeRectsCard : Claim7 := { stood := { row := planeRectsRow, standIns := [], harness := (true, "2f2a7a7a6509c450d448942e631bf11c42cf2269ddd2d0116cef43a5f40fa874"), looks := true }, kinds := [], alts := [], laidByText := true, laidKinds := [.data, .data, .data, .data, .sentinel, .sentinel, .pinned], laidTests := true, laidLooks := .later }
def PlaneRectsCardSaid : Prop := Claim7.holds Tryz.pinned (.plain (OpenSpec.ofChange planeRectsSpec)) planeRectsCard

/-- THE SECOND FORM's CARD OF 'slatewalllaw07.PlaneMatchesReference'. -/
def planeMatchesReferenceUptoCard : Claim7 := { stood := { row := planeMatchesReferenceUptoRow, standIns := [], harness := (true, "2f2a7a7a6509c450d448942e631bf11c42cf2269ddd2d0116cef43a5f40fa874"), looks := true }, kinds := [], alts := [], laidByText := true, laidKinds := [.data, .data, .data, .data, .sentinel, .sentinel, .pinned], laidTests := true, laidLooks := .later }
def PlaneMatchesReferenceUptoCardSaid : Prop := Claim7.holds Tryz.pinned (.plain (OpenSpec.upto planeMatchesReferenceSpec)) planeMatchesReferenceUptoCard

/-- THE SECOND FORM's CARD OF 'slatewalllaw07.PlaneSides'. -/
def planeSidesUptoCard : Claim7 := { stood := { row := planeSidesUptoRow, standIns := [], harness := (true, "2f2a7a7a6509c450d448942e631bf11c42cf2269ddd2d0116cef43a5f40fa874"), looks := true }, kinds := [], alts := [], laidByText := true, laidKinds := [.data, .data, .data, .data, .sentinel, .sentinel, .pinned], laidTests := true, laidLooks := .later }
def PlaneSidesUptoCardSaid : Prop := Claim7.holds Tryz.pinned (.plain (OpenSpec.upto planeSidesSpec)) planeSidesUptoCard

/-- THE SECOND FORM's CARD OF 'slatewalllaw07.PlaneCrosses'. -/
def planeCrossesUptoCard : Claim7 := { stood := { row := planeCrossesUptoRow, standIns := [], harness := (true, "2f2a7a7a6509c450d448942e631bf11c42cf2269ddd2d0116cef43a5f40fa874"), looks := true }, kinds := [], alts := [], laidByText := true, laidKinds := [.data, .data, .data, .data, .sentinel, .sentinel, .pinned], laidTests := true, laidLooks := .later }
def PlaneCrossesUptoCardSaid : Prop := Claim7.holds Tryz.pinned (.plain (OpenSpec.upto planeCrossesSpec)) planeCrossesUptoCard

/-- THE SECOND FORM's CARD OF 'slatewalllaw07.PlaneHulls'. -/
def planeHullsUptoCard : Claim7 := { stood := { row := planeHullsUptoRow, standIns := [], harness := (true, "2f2a7a7a6509c450d448942e631bf11c42cf2269ddd2d0116cef43a5f40fa874"), looks := true }, kinds := [], alts := [], laidByText := true, laidKinds := [.data, .data, .data, .data, .sentinel, .sentinel, .pinned], laidTests := true, laidLooks := .later }
def PlaneHullsUptoCardSaid : Prop := Claim7.holds Tryz.pinned (.plain (OpenSpec.upto planeHullsSpec)) planeHullsUptoCard

/-- THE SECOND FORM's CARD OF 'slatewalllaw07.PlaneDistances'. -/
def planeDistancesUptoCard : Claim7 := { stood := { row := planeDistancesUptoRow, standIns := [], harness := (true, "2f2a7a7a6509c450d448942e631bf11c42cf2269ddd2d0116cef43a5f40fa874"), looks := true }, kinds := [], alts := [], laidByText := true, laidKinds := [.data, .data, .data, .data, .sentinel, .sentinel, .pinned], laidTests := true, laidLooks := .later }
def PlaneDistancesUptoCardSaid : Prop := Claim7.holds Tryz.pinned (.plain (OpenSpec.upto planeDistancesSpec)) planeDistancesUptoCard

/-- THE SECOND FORM's CARD OF 'slatewalllaw07.PlaneAreas'. -/
def planeAreasUptoCard : Claim7 := { stood := { row := planeAreasUptoRow, standIns := [], harness := (true, "2f2a7a7a6509c450d448942e631bf11c42cf2269ddd2d0116cef43a5f40fa874"), looks := true }, kinds := [], alts := [], laidByText := true, laidKinds := [.data, .data, .data, .data, .sentinel, .sentinel, .pinned], laidTests := true, laidLooks := .later }
def PlaneAreasUptoCardSaid : Prop := Claim7.holds Tryz.pinned (.plain (OpenSpec.upto planeAreasSpec)) planeAreasUptoCard

/-- THE SECOND FORM's CARD OF 'slatewalllaw07.PlaneRects'. -/
def planeRectsUptoCard : Claim7 := { stood := { row := planeRectsUptoRow, standIns := [], harness := (true, "2f2a7a7a6509c450d448942e631bf11c42cf2269ddd2d0116cef43a5f40fa874"), looks := true }, kinds := [], alts := [], laidByText := true, laidKinds := [.data, .data, .data, .data, .sentinel, .sentinel, .pinned], laidTests := true, laidLooks := .later }
def PlaneRectsUptoCardSaid : Prop := Claim7.holds Tryz.pinned (.plain (OpenSpec.upto planeRectsSpec)) planeRectsUptoCard
end Rows
end Go.Proofs.YtgngepbemgbbeaaGreatDoor
