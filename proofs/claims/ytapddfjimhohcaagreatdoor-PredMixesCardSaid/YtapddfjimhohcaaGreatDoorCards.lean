/-
  DERIVED. GIVEN WITH THE SEED: THE CARDS: each row of YtapddfjimhohcaaGreatDoorRows.lean that lists a variable, with what it lists TIED to the program's text (the seventh form; the later family's looks); each row that meets fmt, with fmt's text TOLD by the authors' own Lean function (tested against real Go, not proved from fmt's source: count such statements apart). THE CARD IS WHAT COUNTS. Prove the row's statement (the work); the ties are given (YtapddfjimhohcaaGreatDoorTie.lean); close each card by the builder's one call (the guide's Derived/Test/ToyasCard.lean, 'card_holds'). Laid BY PROGRAM, IN A SANDBOX (cutbox-door.mjs). By AI agents, Wed Nov 11 2026. No macro, syntax, notation, axiom, sorry.
-/
import Derived.Test.YtapddfjimhohcaaGreatDoorRows
import GoSem.ClaimSeven
namespace Go.Proofs.YtapddfjimhohcaaGreatDoor
namespace Rows

/-- THE TIED CARD OF 'chamferlaw08.PredWithin'. -/
def predWithinCard : Claim7 := { stood := { row := predWithinRow, standIns := [], harness := (true, "e6b4d22ceadacfd3305b4cb4a375da7bec002c851f3414f31d57ecad1f3f07b7"), looks := false }, kinds := [], alts := [], laidByText := true, laidKinds := [.data, .pinned], laidTests := true, laidLooks := .later }
def PredWithinCardSaid : Prop := Claim7.holds Tryz.pinned (.plain (OpenSpec.ofChange predWithinSpec)) predWithinCard

/-- THE TIED CARD OF 'chamferlaw08.PredSides'. -/
def predSidesCard : Claim7 := { stood := { row := predSidesRow, standIns := [], harness := (true, "e6b4d22ceadacfd3305b4cb4a375da7bec002c851f3414f31d57ecad1f3f07b7"), looks := false }, kinds := [], alts := [], laidByText := true, laidKinds := [.data, .pinned], laidTests := true, laidLooks := .later }
def PredSidesCardSaid : Prop := Claim7.holds Tryz.pinned (.plain (OpenSpec.ofChange predSidesSpec)) predSidesCard

/-- THE TIED CARD OF 'chamferlaw08.PredMixes'. -/
def predMixesCard : Claim7 := { stood := { row := predMixesRow, standIns := [], harness := (true, "e6b4d22ceadacfd3305b4cb4a375da7bec002c851f3414f31d57ecad1f3f07b7"), looks := false }, kinds := [], alts := [], laidByText := true, laidKinds := [.data, .pinned], laidTests := true, laidLooks := .later }
def PredMixesCardSaid : Prop := Claim7.holds Tryz.pinned (.plain (OpenSpec.ofChange predMixesSpec)) predMixesCard

/-- THE TIED CARD OF 'chamferlaw08.PredAngles'. -/
def predAnglesCard : Claim7 := { stood := { row := predAnglesRow, standIns := [], harness := (true, "e6b4d22ceadacfd3305b4cb4a375da7bec002c851f3414f31d57ecad1f3f07b7"), looks := false }, kinds := [], alts := [], laidByText := true, laidKinds := [.data, .pinned], laidTests := true, laidLooks := .later }
def PredAnglesCardSaid : Prop := Claim7.holds Tryz.pinned (.plain (OpenSpec.ofChange predAnglesSpec)) predAnglesCard

/-- THE TIED CARD OF 'chamferlaw08.PredRound'. -/
def predRoundCard : Claim7 := { stood := { row := predRoundRow, standIns := [], harness := (true, "e6b4d22ceadacfd3305b4cb4a375da7bec002c851f3414f31d57ecad1f3f07b7"), looks := false }, kinds := [], alts := [], laidByText := true, laidKinds := [.data, .pinned], laidTests := true, laidLooks := .later }
def PredRoundCardSaid : Prop := Claim7.holds Tryz.pinned (.plain (OpenSpec.ofChange predRoundSpec)) predRoundCard

/-- THE TIED CARD OF 'chamferlaw08.PredCrosses'. -/
def predCrossesCard : Claim7 := { stood := { row := predCrossesRow, standIns := [], harness := (true, "e6b4d22ceadacfd3305b4cb4a375da7bec002c851f3414f31d57ecad1f3f07b7"), looks := false }, kinds := [], alts := [], laidByText := true, laidKinds := [.data, .pinned], laidTests := true, laidLooks := .later }
def PredCrossesCardSaid : Prop := Claim7.holds Tryz.pinned (.plain (OpenSpec.ofChange predCrossesSpec)) predCrossesCard

/-- THE TIED CARD OF 'chamferlaw08.PredTurns'. -/
def predTurnsCard : Claim7 := { stood := { row := predTurnsRow, standIns := [], harness := (true, "e6b4d22ceadacfd3305b4cb4a375da7bec002c851f3414f31d57ecad1f3f07b7"), looks := false }, kinds := [], alts := [], laidByText := true, laidKinds := [.data, .pinned], laidTests := true, laidLooks := .later }
def PredTurnsCardSaid : Prop := Claim7.holds Tryz.pinned (.plain (OpenSpec.ofChange predTurnsSpec)) predTurnsCard

/-- THE TIED CARD OF 'chamferlaw08.PredSwaps'. -/
def predSwapsCard : Claim7 := { stood := { row := predSwapsRow, standIns := [], harness := (true, "e6b4d22ceadacfd3305b4cb4a375da7bec002c851f3414f31d57ecad1f3f07b7"), looks := false }, kinds := [], alts := [], laidByText := true, laidKinds := [.data, .pinned], laidTests := true, laidLooks := .later }
def PredSwapsCardSaid : Prop := Claim7.holds Tryz.pinned (.plain (OpenSpec.ofChange predSwapsSpec)) predSwapsCard

/-- THE SECOND FORM's CARD OF 'chamferlaw08.PredWithin'. -/
def predWithinUptoCard : Claim7 := { stood := { row := predWithinUptoRow, standIns := [], harness := (true, "e6b4d22ceadacfd3305b4cb4a375da7bec002c851f3414f31d57ecad1f3f07b7"), looks := false }, kinds := [], alts := [], laidByText := true, laidKinds := [.data, .pinned], laidTests := true, laidLooks := .later }
def PredWithinUptoCardSaid : Prop := Claim7.holds Tryz.pinned (.plain (OpenSpec.upto predWithinSpec)) predWithinUptoCard

/-- THE SECOND FORM's CARD OF 'chamferlaw08.PredSides'. -/
def predSidesUptoCard : Claim7 := { stood := { row := predSidesUptoRow, standIns := [], harness := (true, "e6b4d22ceadacfd3305b4cb4a375da7bec002c851f3414f31d57ecad1f3f07b7"), looks := false }, kinds := [], alts := [], laidByText := true, laidKinds := [.data, .pinned], laidTests := true, laidLooks := .later }
def PredSidesUptoCardSaid : Prop := Claim7.holds Tryz.pinned (.plain (OpenSpec.upto predSidesSpec)) predSidesUptoCard

/-- THE SECOND FORM's CARD OF 'chamferlaw08.PredMixes'. -/
def predMixesUptoCard : Claim7 := { stood := { row := predMixesUptoRow, standIns := [], harness := (true, "e6b4d22ceadacfd3305b4cb4a375da7bec002c851f3414f31d57ecad1f3f07b7"), looks := false }, kinds := [], alts := [], laidByText := true, laidKinds := [.data, .pinned], laidTests := true, laidLooks := .later }
def PredMixesUptoCardSaid : Prop := Claim7.holds Tryz.pinned (.plain (OpenSpec.upto predMixesSpec)) predMixesUptoCard

/-- THE SECOND FORM's CARD OF 'chamferlaw08.PredAngles'. -/
def predAnglesUptoCard : Claim7 := { stood := { row := predAnglesUptoRow, standIns := [], harness := (true, "e6b4d22ceadacfd3305b4cb4a375da7bec002c851f3414f31d57ecad1f3f07b7"), looks := false }, kinds := [], alts := [], laidByText := true, laidKinds := [.data, .pinned], laidTests := true, laidLooks := .later }
def PredAnglesUptoCardSaid : Prop := Claim7.holds Tryz.pinned (.plain (OpenSpec.upto predAnglesSpec)) predAnglesUptoCard

/-- THE SECOND FORM's CARD OF 'chamferlaw08.PredRound'. -/
def predRoundUptoCard : Claim7 := { stood := { row := predRoundUptoRow, standIns := [], harness := (true, "e6b4d22ceadacfd3305b4cb4a375da7bec002c851f3414f31d57ecad1f3f07b7"), looks := false }, kinds := [], alts := [], laidByText := true, laidKinds := [.data, .pinned], laidTests := true, laidLooks := .later }
def PredRoundUptoCardSaid : Prop := Claim7.holds Tryz.pinned (.plain (OpenSpec.upto predRoundSpec)) predRoundUptoCard

/-- THE SECOND FORM's CARD OF 'chamferlaw08.PredCrosses'. -/
def predCrossesUptoCard : Claim7 := { stood := { row := predCrossesUptoRow, standIns := [], harness := (true, "e6b4d22ceadacfd3305b4cb4a375da7bec002c851f3414f31d57ecad1f3f07b7"), looks := false }, kinds := [], alts := [], laidByText := true, laidKinds := [.data, .pinned], laidTests := true, laidLooks := .later }
def PredCrossesUptoCardSaid : Prop := Claim7.holds Tryz.pinned (.plain (OpenSpec.upto predCrossesSpec)) predCrossesUptoCard

/-- THE SECOND FORM's CARD OF 'chamferlaw08.PredTurns'. -/
def predTurnsUptoCard : Claim7 := { stood := { row := predTurnsUptoRow, standIns := [], harness := (true, "e6b4d22ceadacfd3305b4cb4a375da7bec002c851f3414f31d57ecad1f3f07b7"), looks := false }, kinds := [], alts := [], laidByText := true, laidKinds := [.data, .pinned], laidTests := true, laidLooks := .later }
def PredTurnsUptoCardSaid : Prop := Claim7.holds Tryz.pinned (.plain (OpenSpec.upto predTurnsSpec)) predTurnsUptoCard

/-- THE SECOND FORM's CARD OF 'chamferlaw08.PredSwaps'. -/
def predSwapsUptoCard : Claim7 := { stood := { row := predSwapsUptoRow, standIns := [], harness := (true, "e6b4d22ceadacfd3305b4cb4a375da7bec002c851f3414f31d57ecad1f3f07b7"), looks := false }, kinds := [], alts := [], laidByText := true, laidKinds := [.data, .pinned], laidTests := true, laidLooks := .later }
def PredSwapsUptoCardSaid : Prop := Claim7.holds Tryz.pinned (.plain (OpenSpec.upto predSwapsSpec)) predSwapsUptoCard
end Rows
end Go.Proofs.YtapddfjimhohcaaGreatDoor
