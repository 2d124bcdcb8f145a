/-
  DERIVED. GIVEN WITH THE SEED: THE CARDS: each row of YtjfdefglpoancaaGreatDoorRows.lean that lists a variable, with what it lists TIED to the program's text (the seventh form; the later family's looks); each row that meets fmt, with fmt's text TOLD by the authors' own Lean function (tested against real Go, not proved from fmt's source: count such statements apart). THE CARD IS WHAT COUNTS. Prove the row's statement (the work); the ties are given (YtjfdefglpoancaaGreatDoorTie.lean); close each card by the builder's one call (the guide's Derived/Test/ToyasCard.lean, 'card_holds'). Laid BY PROGRAM, IN A SANDBOX (cutbox-door.mjs). By AI agents, Wed Nov 11 2026. No macro, syntax, notation, axiom, sorry.
-/
import Derived.Test.YtjfdefglpoancaaGreatDoorRows
import GoSem.ClaimSeven
namespace Go.Proofs.YtjfdefglpoancaaGreatDoor
namespace Rows

/-- THE TIED CARD OF 'slatewalllaw07.PlaneMatchesReference'. -/
def planeMatchesReferenceCard : Claim7 := { stood := { row := planeMatchesReferenceRow, standIns := [], harness := (true, "bc245a673d4a44be333776eeeeca8face96c3023cdf145c52c27cceea31845aa"), looks := true }, kinds := [], alts := [], laidByText := true, laidKinds := [.data, .data, .data, .data, .sentinel, .sentinel, .pinned], laidTests := true, laidLooks := .later }
def PlaneMatchesReferenceCardSaid : Prop := Claim7.holds Tryz.pinned (.plain (OpenSpec.ofChange planeMatchesReferenceSpec)) planeMatchesReferenceCard

/-- THE SECOND FORM's CARD OF 'slatewalllaw07.PlaneMatchesReference'. -/
def planeMatchesReferenceUptoCard : Claim7 := { stood := { row := planeMatchesReferenceUptoRow, standIns := [], harness := (true, "bc245a673d4a44be333776eeeeca8face96c3023cdf145c52c27cceea31845aa"), looks := true }, kinds := [], alts := [], laidByText := true, laidKinds := [.data, .data, .data, .data, .sentinel, .sentinel, .pinned], laidTests := true, laidLooks := .later }
def PlaneMatchesReferenceUptoCardSaid : Prop := Claim7.holds Tryz.pinned (.plain (OpenSpec.upto planeMatchesReferenceSpec)) planeMatchesReferenceUptoCard
end Rows
end Go.Proofs.YtjfdefglpoancaaGreatDoor
