/-
  DERIVED. GIVEN WITH THE SEED: THE CARDS: each row of YtghoggjllcbalaaDoorRows.lean that lists a variable, with what it lists TIED to the program's text (the seventh form; the later family's looks); each row that meets fmt, with fmt's text TOLD by the authors' own Lean function (tested against real Go, not proved from fmt's source: count such statements apart). THE CARD IS WHAT COUNTS. Prove the row's statement (the work); the ties are given (YtghoggjllcbalaaDoorTie.lean); close each card by the builder's one call (the guide's Derived/Test/ToyasCard.lean, 'card_holds'). Laid BY PROGRAM, IN A SANDBOX (cutbox-door.mjs). By AI agents, Wed Nov 11 2026. No macro, syntax, notation, axiom, sorry.
-/
import Derived.Test.YtghoggjllcbalaaDoorRows
import GoSem.ClaimSeven
namespace Go.Proofs.YtghoggjllcbalaaDoor
namespace Rows

/-- THE TIED CARD OF 'septumlaw21.ConfBack'. -/
def confBackCard : Claim7 := { stood := { row := confBackRow, standIns := [], harness := (true, "4a95fc87053c15c9191577497d0f300328d9cee7d9b4dc4671765926de7ac749"), looks := true }, kinds := [], alts := [], laidByText := true, laidKinds := [.data, .data, .data, .data, .sentinel, .sentinel, .pinned], laidTests := true, laidLooks := .later }
def ConfBackCardSaid : Prop := Claim7.holds Tryd.pinned (.plain (OpenSpec.ofChange confBackSpec)) confBackCard

/-- THE TIED CARD OF 'septumlaw21.ConfUnlike'. -/
def confUnlikeCard : Claim7 := { stood := { row := confUnlikeRow, standIns := [], harness := (true, "4a95fc87053c15c9191577497d0f300328d9cee7d9b4dc4671765926de7ac749"), looks := true }, kinds := [], alts := [], laidByText := true, laidKinds := [.data, .data, .data, .data, .sentinel, .sentinel, .pinned], laidTests := true, laidLooks := .later }
def ConfUnlikeCardSaid : Prop := Claim7.holds Tryd.pinned (.plain (OpenSpec.ofChange confUnlikeSpec)) confUnlikeCard

/-- THE TIED CARD OF 'septumlaw21.ConfParts'. -/
def confPartsCard : Claim7 := { stood := { row := confPartsRow, standIns := [], harness := (true, "4a95fc87053c15c9191577497d0f300328d9cee7d9b4dc4671765926de7ac749"), looks := true }, kinds := [], alts := [], laidByText := true, laidKinds := [.data, .data, .data, .data, .sentinel, .sentinel, .pinned], laidTests := true, laidLooks := .later }
def ConfPartsCardSaid : Prop := Claim7.holds Tryd.pinned (.plain (OpenSpec.ofChange confPartsSpec)) confPartsCard

/-- THE TIED CARD OF 'septumlaw21.ConfTells'. -/
def confTellsCard : Claim7 := { stood := { row := confTellsRow, standIns := [], harness := (true, "4a95fc87053c15c9191577497d0f300328d9cee7d9b4dc4671765926de7ac749"), looks := true }, kinds := [], alts := [], laidByText := true, laidKinds := [.data, .data, .data, .data, .sentinel, .sentinel, .pinned], laidTests := true, laidLooks := .later }
def ConfTellsCardSaid : Prop := Claim7.holds Tryd.pinned (.plain (OpenSpec.ofChange confTellsSpec)) confTellsCard

/-- THE TIED CARD OF 'septumlaw21.ConfSmall'. -/
def confSmallCard : Claim7 := { stood := { row := confSmallRow, standIns := [], harness := (true, "4a95fc87053c15c9191577497d0f300328d9cee7d9b4dc4671765926de7ac749"), looks := true }, kinds := [], alts := [], laidByText := true, laidKinds := [.data, .data, .data, .data, .sentinel, .sentinel, .pinned], laidTests := true, laidLooks := .later }
def ConfSmallCardSaid : Prop := Claim7.holds Tryd.pinned (.plain (OpenSpec.ofChange confSmallSpec)) confSmallCard

/-- THE SECOND FORM's CARD OF 'septumlaw21.ConfBack'. -/
def confBackUptoCard : Claim7 := { stood := { row := confBackUptoRow, standIns := [], harness := (true, "4a95fc87053c15c9191577497d0f300328d9cee7d9b4dc4671765926de7ac749"), looks := true }, kinds := [], alts := [], laidByText := true, laidKinds := [.data, .data, .data, .data, .sentinel, .sentinel, .pinned], laidTests := true, laidLooks := .later }
def ConfBackUptoCardSaid : Prop := Claim7.holds Tryd.pinned (.plain (OpenSpec.upto confBackSpec)) confBackUptoCard

/-- THE SECOND FORM's CARD OF 'septumlaw21.ConfUnlike'. -/
def confUnlikeUptoCard : Claim7 := { stood := { row := confUnlikeUptoRow, standIns := [], harness := (true, "4a95fc87053c15c9191577497d0f300328d9cee7d9b4dc4671765926de7ac749"), looks := true }, kinds := [], alts := [], laidByText := true, laidKinds := [.data, .data, .data, .data, .sentinel, .sentinel, .pinned], laidTests := true, laidLooks := .later }
def ConfUnlikeUptoCardSaid : Prop := Claim7.holds Tryd.pinned (.plain (OpenSpec.upto confUnlikeSpec)) confUnlikeUptoCard

/-- THE SECOND FORM's CARD OF 'septumlaw21.ConfParts'. -/
def confPartsUptoCard : Claim7 := { stood := { row := confPartsUptoRow, standIns := [], harness := (true, "4a95fc87053c15c9191577497d0f300328d9cee7d9b4dc4671765926de7ac749"), looks := true }, kinds := [], alts := [], laidByText := true, laidKinds := [.data, .data, .data, .data, .sentinel, .sentinel, .pinned], laidTests := true, laidLooks := .later }
def ConfPartsUptoCardSaid : Prop := Claim7.holds Tryd.pinned (.plain (OpenSpec.upto confPartsSpec)) confPartsUptoCard

/-- THE SECOND FORM's CARD OF 'septumlaw21.ConfTells'. -/
def confTellsUptoCard : Claim7 := { stood := { row := confTellsUptoRow, standIns := [], harness := (true, "4a95fc87053c15c9191577497d0f300328d9cee7d9b4dc4671765926de7ac749"), looks := true }, kinds := [], alts := [], laidByText := true, laidKinds := [.data, .data, .data, .data, .sentinel, .sentinel, .pinned], laidTests := true, laidLooks := .later }
def ConfTellsUptoCardSaid : Prop := Claim7.holds Tryd.pinned (.plain (OpenSpec.upto confTellsSpec)) confTellsUptoCard

/-- THE SECOND FORM's CARD OF 'septumlaw21.ConfSmall'. -/
def confSmallUptoCard : Claim7 := { stood := { row := confSmallUptoRow, standIns := [], harness := (true, "4a95fc87053c15c9191577497d0f300328d9cee7d9b4dc4671765926de7ac749"), looks := true }, kinds := [], alts := [], laidByText := true, laidKinds := [.data, .data, .data, .data, .sentinel, .sentinel, .pinned], laidTests := true, laidLooks := .later }
def ConfSmallUptoCardSaid : Prop := Claim7.holds Tryd.pinned (.plain (OpenSpec.upto confSmallSpec)) confSmallUptoCard
end Rows
end Go.Proofs.YtghoggjllcbalaaDoor
