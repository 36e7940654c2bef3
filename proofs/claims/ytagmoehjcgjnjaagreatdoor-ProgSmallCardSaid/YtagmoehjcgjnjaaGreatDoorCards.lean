/-
  DERIVED. GIVEN WITH THE SEED: THE CARDS: each row of YtagmoehjcgjnjaaGreatDoorRows.lean that lists a variable, with what it lists TIED to the program's text (the seventh form; the later family's looks); each row that meets fmt, with fmt's text TOLD by the authors' own Lean function (tested against real Go, not proved from fmt's source: count such statements apart). THE CARD IS WHAT COUNTS. Prove the row's statement (the work); the ties are given (YtagmoehjcgjnjaaGreatDoorTie.lean); close each card by the builder's one call (the guide's Derived/Test/ToyasCard.lean, 'card_holds'). Laid BY PROGRAM, IN A SANDBOX (cutbox-door.mjs). By AI agents, Wed Nov 11 2026. No macro, syntax, notation, axiom, sorry.
-/
import Derived.Test.YtagmoehjcgjnjaaGreatDoorRows
import GoSem.ClaimSeven
namespace Go.Proofs.YtagmoehjcgjnjaaGreatDoor
namespace Rows

/-- THE TIED CARD OF 'septumlaw23.ProgMore'. -/
def progMoreCard : Claim7 := { stood := { row := progMoreRow, standIns := [], harness := (true, "81dd51e7b20bd61e191bd59d90f179876a4ff1fbcc2d8fca7cac5436d6fcbbe1"), looks := true }, kinds := [], alts := [], laidByText := true, laidKinds := [.data, .data, .data, .data, .sentinel, .sentinel, .pinned], laidTests := true, laidLooks := .later }
def ProgMoreCardSaid : Prop := Claim7.holds Tryz.pinned (.plain (OpenSpec.ofChange progMoreSpec)) progMoreCard

/-- THE TIED CARD OF 'septumlaw23.ProgTells'. -/
def progTellsCard : Claim7 := { stood := { row := progTellsRow, standIns := [], harness := (true, "81dd51e7b20bd61e191bd59d90f179876a4ff1fbcc2d8fca7cac5436d6fcbbe1"), looks := true }, kinds := [], alts := [], laidByText := true, laidKinds := [.data, .data, .data, .data, .sentinel, .sentinel, .pinned], laidTests := true, laidLooks := .later }
def ProgTellsCardSaid : Prop := Claim7.holds Tryz.pinned (.plain (OpenSpec.ofChange progTellsSpec)) progTellsCard

/-- THE TIED CARD OF 'septumlaw23.ProgSmall'. -/
def progSmallCard : Claim7 := { stood := { row := progSmallRow, standIns := [], harness := (true, "81dd51e7b20bd61e191bd59d90f179876a4ff1fbcc2d8fca7cac5436d6fcbbe1"), looks := true }, kinds := [], alts := [], laidByText := true, laidKinds := [.data, .data, .data, .data, .sentinel, .sentinel, .pinned], laidTests := true, laidLooks := .later }
def ProgSmallCardSaid : Prop := Claim7.holds Tryz.pinned (.plain (OpenSpec.ofChange progSmallSpec)) progSmallCard

/-- THE TIED CARD OF 'septumlaw23.ProgBack'. -/
def progBackCard : Claim7 := { stood := { row := progBackRow, standIns := [], harness := (true, "81dd51e7b20bd61e191bd59d90f179876a4ff1fbcc2d8fca7cac5436d6fcbbe1"), looks := true }, kinds := [], alts := [], laidByText := true, laidKinds := [.data, .data, .data, .data, .sentinel, .sentinel, .pinned], laidTests := true, laidLooks := .later }
def ProgBackCardSaid : Prop := Claim7.holds Tryz.pinned (.plain (OpenSpec.ofChange progBackSpec)) progBackCard

/-- THE TIED CARD OF 'septumlaw23.ProgLines'. -/
def progLinesCard : Claim7 := { stood := { row := progLinesRow, standIns := [], harness := (true, "81dd51e7b20bd61e191bd59d90f179876a4ff1fbcc2d8fca7cac5436d6fcbbe1"), looks := true }, kinds := [], alts := [], laidByText := true, laidKinds := [.data, .data, .data, .data, .sentinel, .sentinel, .pinned], laidTests := true, laidLooks := .later }
def ProgLinesCardSaid : Prop := Claim7.holds Tryz.pinned (.plain (OpenSpec.ofChange progLinesSpec)) progLinesCard

/-- THE SECOND FORM's CARD OF 'septumlaw23.ProgMore'. -/
def progMoreUptoCard : Claim7 := { stood := { row := progMoreUptoRow, standIns := [], harness := (true, "81dd51e7b20bd61e191bd59d90f179876a4ff1fbcc2d8fca7cac5436d6fcbbe1"), looks := true }, kinds := [], alts := [], laidByText := true, laidKinds := [.data, .data, .data, .data, .sentinel, .sentinel, .pinned], laidTests := true, laidLooks := .later }
def ProgMoreUptoCardSaid : Prop := Claim7.holds Tryz.pinned (.plain (OpenSpec.upto progMoreSpec)) progMoreUptoCard

/-- THE SECOND FORM's CARD OF 'septumlaw23.ProgTells'. -/
def progTellsUptoCard : Claim7 := { stood := { row := progTellsUptoRow, standIns := [], harness := (true, "81dd51e7b20bd61e191bd59d90f179876a4ff1fbcc2d8fca7cac5436d6fcbbe1"), looks := true }, kinds := [], alts := [], laidByText := true, laidKinds := [.data, .data, .data, .data, .sentinel, .sentinel, .pinned], laidTests := true, laidLooks := .later }
def ProgTellsUptoCardSaid : Prop := Claim7.holds Tryz.pinned (.plain (OpenSpec.upto progTellsSpec)) progTellsUptoCard

/-- THE SECOND FORM's CARD OF 'septumlaw23.ProgSmall'. -/
def progSmallUptoCard : Claim7 := { stood := { row := progSmallUptoRow, standIns := [], harness := (true, "81dd51e7b20bd61e191bd59d90f179876a4ff1fbcc2d8fca7cac5436d6fcbbe1"), looks := true }, kinds := [], alts := [], laidByText := true, laidKinds := [.data, .data, .data, .data, .sentinel, .sentinel, .pinned], laidTests := true, laidLooks := .later }
def ProgSmallUptoCardSaid : Prop := Claim7.holds Tryz.pinned (.plain (OpenSpec.upto progSmallSpec)) progSmallUptoCard

/-- THE SECOND FORM's CARD OF 'septumlaw23.ProgBack'. -/
def progBackUptoCard : Claim7 := { stood := { row := progBackUptoRow, standIns := [], harness := (true, "81dd51e7b20bd61e191bd59d90f179876a4ff1fbcc2d8fca7cac5436d6fcbbe1"), looks := true }, kinds := [], alts := [], laidByText := true, laidKinds := [.data, .data, .data, .data, .sentinel, .sentinel, .pinned], laidTests := true, laidLooks := .later }
def ProgBackUptoCardSaid : Prop := Claim7.holds Tryz.pinned (.plain (OpenSpec.upto progBackSpec)) progBackUptoCard

/-- THE SECOND FORM's CARD OF 'septumlaw23.ProgLines'. -/
def progLinesUptoCard : Claim7 := { stood := { row := progLinesUptoRow, standIns := [], harness := (true, "81dd51e7b20bd61e191bd59d90f179876a4ff1fbcc2d8fca7cac5436d6fcbbe1"), looks := true }, kinds := [], alts := [], laidByText := true, laidKinds := [.data, .data, .data, .data, .sentinel, .sentinel, .pinned], laidTests := true, laidLooks := .later }
def ProgLinesUptoCardSaid : Prop := Claim7.holds Tryz.pinned (.plain (OpenSpec.upto progLinesSpec)) progLinesUptoCard
end Rows
end Go.Proofs.YtagmoehjcgjnjaaGreatDoor
