/-
  DERIVED. GIVEN WITH THE SEED: THE CARDS: each row of YtmahhmdeocnlgaaGreatDoorRows.lean that lists a variable, with what it lists TIED to the program's text (the seventh form; the later family's looks); each row that meets fmt, with fmt's text TOLD by the authors' own Lean function (tested against real Go, not proved from fmt's source: count such statements apart). THE CARD IS WHAT COUNTS. Prove the row's statement (the work); the ties are given (YtmahhmdeocnlgaaGreatDoorTie.lean); close each card by the builder's one call (the guide's Derived/Test/ToyasCard.lean, 'card_holds'). Laid BY PROGRAM, IN A SANDBOX (cutbox-door.mjs). By AI agents, Wed Nov 11 2026. No macro, syntax, notation, axiom, sorry.
-/
import Derived.Test.YtmahhmdeocnlgaaGreatDoorRows
import GoSem.ClaimSeven
namespace Go.Proofs.YtmahhmdeocnlgaaGreatDoor
namespace Rows

/-- THE TIED CARD OF 'chamferlaw06.LineMakes'. -/
def lineMakesCard : Claim7 := { stood := { row := lineMakesRow, standIns := [], harness := (true, "590fa39b3affeb8c14dcf818cfcd4bceed33f63146c6c1562041a61b2be01a27"), looks := false }, kinds := [], alts := [], laidByText := true, laidKinds := [.data, .pinned], laidTests := true, laidLooks := .later }
def LineMakesCardSaid : Prop := Claim7.holds Tryz.pinned (.plain (OpenSpec.ofChange lineMakesSpec)) lineMakesCard

/-- THE TIED CARD OF 'chamferlaw06.LineMeets'. -/
def lineMeetsCard : Claim7 := { stood := { row := lineMeetsRow, standIns := [], harness := (true, "590fa39b3affeb8c14dcf818cfcd4bceed33f63146c6c1562041a61b2be01a27"), looks := false }, kinds := [], alts := [], laidByText := true, laidKinds := [.data, .pinned], laidTests := true, laidLooks := .later }
def LineMeetsCardSaid : Prop := Claim7.holds Tryz.pinned (.plain (OpenSpec.ofChange lineMeetsSpec)) lineMeetsCard

/-- THE TIED CARD OF 'chamferlaw06.LineOne'. -/
def lineOneCard : Claim7 := { stood := { row := lineOneRow, standIns := [], harness := (true, "590fa39b3affeb8c14dcf818cfcd4bceed33f63146c6c1562041a61b2be01a27"), looks := false }, kinds := [], alts := [], laidByText := true, laidKinds := [.data, .pinned], laidTests := true, laidLooks := .later }
def LineOneCardSaid : Prop := Claim7.holds Tryz.pinned (.plain (OpenSpec.ofChange lineOneSpec)) lineOneCard

/-- THE TIED CARD OF 'chamferlaw06.LineLines'. -/
def lineLinesCard : Claim7 := { stood := { row := lineLinesRow, standIns := [], harness := (true, "590fa39b3affeb8c14dcf818cfcd4bceed33f63146c6c1562041a61b2be01a27"), looks := false }, kinds := [], alts := [], laidByText := true, laidKinds := [.data, .pinned], laidTests := true, laidLooks := .later }
def LineLinesCardSaid : Prop := Claim7.holds Tryz.pinned (.plain (OpenSpec.ofChange lineLinesSpec)) lineLinesCard

/-- THE TIED CARD OF 'chamferlaw06.LinePlaces'. -/
def linePlacesCard : Claim7 := { stood := { row := linePlacesRow, standIns := [], harness := (true, "590fa39b3affeb8c14dcf818cfcd4bceed33f63146c6c1562041a61b2be01a27"), looks := false }, kinds := [], alts := [], laidByText := true, laidKinds := [.data, .pinned], laidTests := true, laidLooks := .later }
def LinePlacesCardSaid : Prop := Claim7.holds Tryz.pinned (.plain (OpenSpec.ofChange linePlacesSpec)) linePlacesCard

/-- THE TIED CARD OF 'chamferlaw06.LineCommon'. -/
def lineCommonCard : Claim7 := { stood := { row := lineCommonRow, standIns := [], harness := (true, "590fa39b3affeb8c14dcf818cfcd4bceed33f63146c6c1562041a61b2be01a27"), looks := false }, kinds := [], alts := [], laidByText := true, laidKinds := [.data, .pinned], laidTests := true, laidLooks := .later }
def LineCommonCardSaid : Prop := Claim7.holds Tryz.pinned (.plain (OpenSpec.ofChange lineCommonSpec)) lineCommonCard

/-- THE SECOND FORM's CARD OF 'chamferlaw06.LineMakes'. -/
def lineMakesUptoCard : Claim7 := { stood := { row := lineMakesUptoRow, standIns := [], harness := (true, "590fa39b3affeb8c14dcf818cfcd4bceed33f63146c6c1562041a61b2be01a27"), looks := false }, kinds := [], alts := [], laidByText := true, laidKinds := [.data, .pinned], laidTests := true, laidLooks := .later }
def LineMakesUptoCardSaid : Prop := Claim7.holds Tryz.pinned (.plain (OpenSpec.upto lineMakesSpec)) lineMakesUptoCard

/-- THE SECOND FORM's CARD OF 'chamferlaw06.LineMeets'. -/
def lineMeetsUptoCard : Claim7 := { stood := { row := lineMeetsUptoRow, standIns := [], harness := (true, "590fa39b3affeb8c14dcf818cfcd4bceed33f63146c6c1562041a61b2be01a27"), looks := false }, kinds := [], alts := [], laidByText := true, laidKinds := [.data, .pinned], laidTests := true, laidLooks := .later }
def LineMeetsUptoCardSaid : Prop := Claim7.holds Tryz.pinned (.plain (OpenSpec.upto lineMeetsSpec)) lineMeetsUptoCard

/-- THE SECOND FORM's CARD OF 'chamferlaw06.LineOne'. -/
def lineOneUptoCard : Claim7 := { stood := { row := lineOneUptoRow, standIns := [], harness := (true, "590fa39b3affeb8c14dcf818cfcd4bceed33f63146c6c1562041a61b2be01a27"), looks := false }, kinds := [], alts := [], laidByText := true, laidKinds := [.data, .pinned], laidTests := true, laidLooks := .later }
def LineOneUptoCardSaid : Prop := Claim7.holds Tryz.pinned (.plain (OpenSpec.upto lineOneSpec)) lineOneUptoCard

/-- THE SECOND FORM's CARD OF 'chamferlaw06.LineLines'. -/
def lineLinesUptoCard : Claim7 := { stood := { row := lineLinesUptoRow, standIns := [], harness := (true, "590fa39b3affeb8c14dcf818cfcd4bceed33f63146c6c1562041a61b2be01a27"), looks := false }, kinds := [], alts := [], laidByText := true, laidKinds := [.data, .pinned], laidTests := true, laidLooks := .later }
def LineLinesUptoCardSaid : Prop := Claim7.holds Tryz.pinned (.plain (OpenSpec.upto lineLinesSpec)) lineLinesUptoCard

/-- THE SECOND FORM's CARD OF 'chamferlaw06.LinePlaces'. -/
def linePlacesUptoCard : Claim7 := { stood := { row := linePlacesUptoRow, standIns := [], harness := (true, "590fa39b3affeb8c14dcf818cfcd4bceed33f63146c6c1562041a61b2be01a27"), looks := false }, kinds := [], alts := [], laidByText := true, laidKinds := [.data, .pinned], laidTests := true, laidLooks := .later }
def LinePlacesUptoCardSaid : Prop := Claim7.holds Tryz.pinned (.plain (OpenSpec.upto linePlacesSpec)) linePlacesUptoCard

/-- THE SECOND FORM's CARD OF 'chamferlaw06.LineCommon'. -/
def lineCommonUptoCard : Claim7 := { stood := { row := lineCommonUptoRow, standIns := [], harness := (true, "590fa39b3affeb8c14dcf818cfcd4bceed33f63146c6c1562041a61b2be01a27"), looks := false }, kinds := [], alts := [], laidByText := true, laidKinds := [.data, .pinned], laidTests := true, laidLooks := .later }
def LineCommonUptoCardSaid : Prop := Claim7.holds Tryz.pinned (.plain (OpenSpec.upto lineCommonSpec)) lineCommonUptoCard
end Rows
end Go.Proofs.YtmahhmdeocnlgaaGreatDoor
