/-
  DERIVED. GIVEN WITH THE SEED: THE CARDS: each row of YtdkaohphbgdkpaaGreatDoorRows.lean that lists a variable, with what it lists TIED to the program's text (the seventh form; the later family's looks); each row that meets fmt, with fmt's text TOLD by the authors' own Lean function (tested against real Go, not proved from fmt's source: count such statements apart). THE CARD IS WHAT COUNTS. Prove the row's statement (the work); the ties are given (YtdkaohphbgdkpaaGreatDoorTie.lean); close each card by the builder's one call (the guide's Derived/Test/ToyasCard.lean, 'card_holds'). Laid BY PROGRAM, IN A SANDBOX (cutbox-door.mjs). By AI agents, Wed Nov 11 2026. No macro, syntax, notation, axiom, sorry.
-/
import Derived.Test.YtdkaohphbgdkpaaGreatDoorRows
import GoSem.ClaimSeven
namespace Go.Proofs.YtdkaohphbgdkpaaGreatDoor
namespace Rows

/-- THE TIED CARD OF 'slatewalllaw27.SpeechMatchesReference'. -/
def speechMatchesReferenceCard : Claim7 := { stood := { row := speechMatchesReferenceRow, standIns := [], harness := (true, "ff776590daa12baca0d14898c53cad237c17f8a2d80ea7f93e89d0cd2893716f"), looks := true }, kinds := [], alts := [], laidByText := true, laidKinds := [.data, .data, .data, .data, .sentinel, .sentinel, .pinned], laidTests := true, laidLooks := .later }
def SpeechMatchesReferenceCardSaid : Prop := Claim7.holds Tryz.pinned (.plain (OpenSpec.ofChange speechMatchesReferenceSpec)) speechMatchesReferenceCard

/-- THE TIED CARD OF 'slatewalllaw27.SpeechHearsMatchReference'. -/
def speechHearsMatchReferenceCard : Claim7 := { stood := { row := speechHearsMatchReferenceRow, standIns := [], harness := (true, "ff776590daa12baca0d14898c53cad237c17f8a2d80ea7f93e89d0cd2893716f"), looks := true }, kinds := [], alts := [], laidByText := true, laidKinds := [.data, .data, .data, .data, .sentinel, .sentinel, .pinned], laidTests := true, laidLooks := .later }
def SpeechHearsMatchReferenceCardSaid : Prop := Claim7.holds Tryz.pinned (.plain (OpenSpec.ofChange speechHearsMatchReferenceSpec)) speechHearsMatchReferenceCard

/-- THE TIED CARD OF 'slatewalllaw27.SpeechThereAndBack'. -/
def speechThereAndBackCard : Claim7 := { stood := { row := speechThereAndBackRow, standIns := [], harness := (true, "ff776590daa12baca0d14898c53cad237c17f8a2d80ea7f93e89d0cd2893716f"), looks := true }, kinds := [], alts := [], laidByText := true, laidKinds := [.data, .data, .data, .data, .sentinel, .sentinel, .pinned], laidTests := true, laidLooks := .later }
def SpeechThereAndBackCardSaid : Prop := Claim7.holds Tryz.pinned (.plain (OpenSpec.ofChange speechThereAndBackSpec)) speechThereAndBackCard

/-- THE TIED CARD OF 'slatewalllaw27.SpeechTrue'. -/
def speechTrueCard : Claim7 := { stood := { row := speechTrueRow, standIns := [], harness := (true, "ff776590daa12baca0d14898c53cad237c17f8a2d80ea7f93e89d0cd2893716f"), looks := true }, kinds := [], alts := [], laidByText := true, laidKinds := [.data, .data, .data, .data, .sentinel, .sentinel, .pinned], laidTests := true, laidLooks := .later }
def SpeechTrueCardSaid : Prop := Claim7.holds Tryz.pinned (.plain (OpenSpec.ofChange speechTrueSpec)) speechTrueCard

/-- THE TIED CARD OF 'slatewalllaw27.SpeechOrder'. -/
def speechOrderCard : Claim7 := { stood := { row := speechOrderRow, standIns := [], harness := (true, "ff776590daa12baca0d14898c53cad237c17f8a2d80ea7f93e89d0cd2893716f"), looks := true }, kinds := [], alts := [], laidByText := true, laidKinds := [.data, .data, .data, .data, .sentinel, .sentinel, .pinned], laidTests := true, laidLooks := .later }
def SpeechOrderCardSaid : Prop := Claim7.holds Tryz.pinned (.plain (OpenSpec.ofChange speechOrderSpec)) speechOrderCard

/-- THE TIED CARD OF 'slatewalllaw27.SpeechMoved'. -/
def speechMovedCard : Claim7 := { stood := { row := speechMovedRow, standIns := [], harness := (true, "ff776590daa12baca0d14898c53cad237c17f8a2d80ea7f93e89d0cd2893716f"), looks := true }, kinds := [], alts := [], laidByText := true, laidKinds := [.data, .data, .data, .data, .sentinel, .sentinel, .pinned], laidTests := true, laidLooks := .later }
def SpeechMovedCardSaid : Prop := Claim7.holds Tryz.pinned (.plain (OpenSpec.ofChange speechMovedSpec)) speechMovedCard

/-- THE TIED CARD OF 'slatewalllaw27.SpeechWrong'. -/
def speechWrongCard : Claim7 := { stood := { row := speechWrongRow, standIns := [], harness := (true, "ff776590daa12baca0d14898c53cad237c17f8a2d80ea7f93e89d0cd2893716f"), looks := true }, kinds := [], alts := [], laidByText := true, laidKinds := [.data, .data, .data, .data, .sentinel, .sentinel, .pinned], laidTests := true, laidLooks := .later }
def SpeechWrongCardSaid : Prop := Claim7.holds Tryz.pinned (.plain (OpenSpec.ofChange speechWrongSpec)) speechWrongCard

/-- THE TIED CARD OF 'slatewalllaw27.SpeechLess'. -/
def speechLessCard : Claim7 := { stood := { row := speechLessRow, standIns := [], harness := (true, "ff776590daa12baca0d14898c53cad237c17f8a2d80ea7f93e89d0cd2893716f"), looks := true }, kinds := [], alts := [], laidByText := true, laidKinds := [.data, .data, .data, .data, .sentinel, .sentinel, .pinned], laidTests := true, laidLooks := .later }
def SpeechLessCardSaid : Prop := Claim7.holds Tryz.pinned (.plain (OpenSpec.ofChange speechLessSpec)) speechLessCard

/-- THE SECOND FORM's CARD OF 'slatewalllaw27.SpeechMatchesReference'. -/
def speechMatchesReferenceUptoCard : Claim7 := { stood := { row := speechMatchesReferenceUptoRow, standIns := [], harness := (true, "ff776590daa12baca0d14898c53cad237c17f8a2d80ea7f93e89d0cd2893716f"), looks := true }, kinds := [], alts := [], laidByText := true, laidKinds := [.data, .data, .data, .data, .sentinel, .sentinel, .pinned], laidTests := true, laidLooks := .later }
def SpeechMatchesReferenceUptoCardSaid : Prop := Claim7.holds Tryz.pinned (.plain (OpenSpec.upto speechMatchesReferenceSpec)) speechMatchesReferenceUptoCard

/-- THE SECOND FORM's CARD OF 'slatewalllaw27.SpeechHearsMatchReference'. -/
def speechHearsMatchReferenceUptoCard : Claim7 := { stood := { row := speechHearsMatchReferenceUptoRow, standIns := [], harness := (true, "ff776590daa12baca0d14898c53cad237c17f8a2d80ea7f93e89d0cd2893716f"), looks := true }, kinds := [], alts := [], laidByText := true, laidKinds := [.data, .data, .data, .data, .sentinel, .sentinel, .pinned], laidTests := true, laidLooks := .later }
def SpeechHearsMatchReferenceUptoCardSaid : Prop := Claim7.holds Tryz.pinned (.plain (OpenSpec.upto speechHearsMatchReferenceSpec)) speechHearsMatchReferenceUptoCard

/-- THE SECOND FORM's CARD OF 'slatewalllaw27.SpeechThereAndBack'. -/
def speechThereAndBackUptoCard : Claim7 := { stood := { row := speechThereAndBackUptoRow, standIns := [], harness := (true, "ff776590daa12baca0d14898c53cad237c17f8a2d80ea7f93e89d0cd2893716f"), looks := true }, kinds := [], alts := [], laidByText := true, laidKinds := [.data, .data, .data, .data, .sentinel, .sentinel, .pinned], laidTests := true, laidLooks := .later }
def SpeechThereAndBackUptoCardSaid : Prop := Claim7.holds Tryz.pinned (.plain (OpenSpec.upto speechThereAndBackSpec)) speechThereAndBackUptoCard

/-- THE SECOND FORM's CARD OF 'slatewalllaw27.SpeechTrue'. -/
def speechTrueUptoCard : Claim7 := { stood := { row := speechTrueUptoRow, standIns := [], harness := (true, "ff776590daa12baca0d14898c53cad237c17f8a2d80ea7f93e89d0cd2893716f"), looks := true }, kinds := [], alts := [], laidByText := true, laidKinds := [.data, .data, .data, .data, .sentinel, .sentinel, .pinned], laidTests := true, laidLooks := .later }
def SpeechTrueUptoCardSaid : Prop := Claim7.holds Tryz.pinned (.plain (OpenSpec.upto speechTrueSpec)) speechTrueUptoCard

/-- THE SECOND FORM's CARD OF 'slatewalllaw27.SpeechOrder'. -/
def speechOrderUptoCard : Claim7 := { stood := { row := speechOrderUptoRow, standIns := [], harness := (true, "ff776590daa12baca0d14898c53cad237c17f8a2d80ea7f93e89d0cd2893716f"), looks := true }, kinds := [], alts := [], laidByText := true, laidKinds := [.data, .data, .data, .data, .sentinel, .sentinel, .pinned], laidTests := true, laidLooks := .later }
def SpeechOrderUptoCardSaid : Prop := Claim7.holds Tryz.pinned (.plain (OpenSpec.upto speechOrderSpec)) speechOrderUptoCard

/-- THE SECOND FORM's CARD OF 'slatewalllaw27.SpeechMoved'. -/
def speechMovedUptoCard : Claim7 := { stood := { row := speechMovedUptoRow, standIns := [], harness := (true, "ff776590daa12baca0d14898c53cad237c17f8a2d80ea7f93e89d0cd2893716f"), looks := true }, kinds := [], alts := [], laidByText := true, laidKinds := [.data, .data, .data, .data, .sentinel, .sentinel, .pinned], laidTests := true, laidLooks := .later }
def SpeechMovedUptoCardSaid : Prop := Claim7.holds Tryz.pinned (.plain (OpenSpec.upto speechMovedSpec)) speechMovedUptoCard

/-- THE SECOND FORM's CARD OF 'slatewalllaw27.SpeechWrong'. -/
def speechWrongUptoCard : Claim7 := { stood := { row := speechWrongUptoRow, standIns := [], harness := (true, "ff776590daa12baca0d14898c53cad237c17f8a2d80ea7f93e89d0cd2893716f"), looks := true }, kinds := [], alts := [], laidByText := true, laidKinds := [.data, .data, .data, .data, .sentinel, .sentinel, .pinned], laidTests := true, laidLooks := .later }
def SpeechWrongUptoCardSaid : Prop := Claim7.holds Tryz.pinned (.plain (OpenSpec.upto speechWrongSpec)) speechWrongUptoCard

/-- THE SECOND FORM's CARD OF 'slatewalllaw27.SpeechLess'. -/
def speechLessUptoCard : Claim7 := { stood := { row := speechLessUptoRow, standIns := [], harness := (true, "ff776590daa12baca0d14898c53cad237c17f8a2d80ea7f93e89d0cd2893716f"), looks := true }, kinds := [], alts := [], laidByText := true, laidKinds := [.data, .data, .data, .data, .sentinel, .sentinel, .pinned], laidTests := true, laidLooks := .later }
def SpeechLessUptoCardSaid : Prop := Claim7.holds Tryz.pinned (.plain (OpenSpec.upto speechLessSpec)) speechLessUptoCard
end Rows
end Go.Proofs.YtdkaohphbgdkpaaGreatDoor
