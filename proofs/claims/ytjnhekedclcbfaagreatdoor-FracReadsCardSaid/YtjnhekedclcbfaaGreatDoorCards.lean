/-
  DERIVED. GIVEN WITH THE SEED: THE CARDS: each row of YtjnhekedclcbfaaGreatDoorRows.lean that lists a variable, with what it lists TIED to the program's text (the seventh form; the later family's looks); each row that meets fmt, with fmt's text TOLD by the authors' own Lean function (tested against real Go, not proved from fmt's source: count such statements apart). THE CARD IS WHAT COUNTS. Prove the row's statement (the work); the ties are given (YtjnhekedclcbfaaGreatDoorTie.lean); close each card by the builder's one call (the guide's Derived/Test/ToyasCard.lean, 'card_holds'). Laid BY PROGRAM, IN A SANDBOX (cutbox-door.mjs). By AI agents, Wed Nov 11 2026. No macro, syntax, notation, axiom, sorry.
-/
import Derived.Test.YtjnhekedclcbfaaGreatDoorRows
import GoSem.ClaimSeven
namespace Go.Proofs.YtjnhekedclcbfaaGreatDoor
namespace Rows

/-- THE TIED CARD OF 'chamferlaw03.FracMakes'. -/
def fracMakesCard : Claim7 := { stood := { row := fracMakesRow, standIns := [], harness := (true, "b173d6841dddfda294439f5e46e116b2fc847e0075d1adbe50d09dc807bf1d5d"), looks := false }, kinds := [], alts := [], laidByText := true, laidKinds := [.data, .pinned], laidTests := true, laidLooks := .later }
def FracMakesCardSaid : Prop := Claim7.holds Tryz.pinned (.plain (OpenSpec.ofChange fracMakesSpec)) fracMakesCard

/-- THE TIED CARD OF 'chamferlaw03.FracReads'. -/
def fracReadsCard : Claim7 := { stood := { row := fracReadsRow, standIns := [], harness := (true, "b173d6841dddfda294439f5e46e116b2fc847e0075d1adbe50d09dc807bf1d5d"), looks := false }, kinds := [], alts := [], laidByText := true, laidKinds := [.data, .pinned], laidTests := true, laidLooks := .later }
def FracReadsCardSaid : Prop := Claim7.holds Tryz.pinned (.plain (OpenSpec.ofChange fracReadsSpec)) fracReadsCard

/-- THE TIED CARD OF 'chamferlaw03.FracReckons'. -/
def fracReckonsCard : Claim7 := { stood := { row := fracReckonsRow, standIns := [], harness := (true, "b173d6841dddfda294439f5e46e116b2fc847e0075d1adbe50d09dc807bf1d5d"), looks := false }, kinds := [], alts := [], laidByText := true, laidKinds := [.data, .pinned], laidTests := true, laidLooks := .later }
def FracReckonsCardSaid : Prop := Claim7.holds Tryz.pinned (.plain (OpenSpec.ofChange fracReckonsSpec)) fracReckonsCard

/-- THE TIED CARD OF 'chamferlaw03.FracGreat'. -/
def fracGreatCard : Claim7 := { stood := { row := fracGreatRow, standIns := [], harness := (true, "b173d6841dddfda294439f5e46e116b2fc847e0075d1adbe50d09dc807bf1d5d"), looks := false }, kinds := [], alts := [], laidByText := true, laidKinds := [.data, .pinned], laidTests := true, laidLooks := .later }
def FracGreatCardSaid : Prop := Claim7.holds Tryz.pinned (.plain (OpenSpec.ofChange fracGreatSpec)) fracGreatCard

/-- THE SECOND FORM's CARD OF 'chamferlaw03.FracMakes'. -/
def fracMakesUptoCard : Claim7 := { stood := { row := fracMakesUptoRow, standIns := [], harness := (true, "b173d6841dddfda294439f5e46e116b2fc847e0075d1adbe50d09dc807bf1d5d"), looks := false }, kinds := [], alts := [], laidByText := true, laidKinds := [.data, .pinned], laidTests := true, laidLooks := .later }
def FracMakesUptoCardSaid : Prop := Claim7.holds Tryz.pinned (.plain (OpenSpec.upto fracMakesSpec)) fracMakesUptoCard

/-- THE SECOND FORM's CARD OF 'chamferlaw03.FracReads'. -/
def fracReadsUptoCard : Claim7 := { stood := { row := fracReadsUptoRow, standIns := [], harness := (true, "b173d6841dddfda294439f5e46e116b2fc847e0075d1adbe50d09dc807bf1d5d"), looks := false }, kinds := [], alts := [], laidByText := true, laidKinds := [.data, .pinned], laidTests := true, laidLooks := .later }
def FracReadsUptoCardSaid : Prop := Claim7.holds Tryz.pinned (.plain (OpenSpec.upto fracReadsSpec)) fracReadsUptoCard

/-- THE SECOND FORM's CARD OF 'chamferlaw03.FracReckons'. -/
def fracReckonsUptoCard : Claim7 := { stood := { row := fracReckonsUptoRow, standIns := [], harness := (true, "b173d6841dddfda294439f5e46e116b2fc847e0075d1adbe50d09dc807bf1d5d"), looks := false }, kinds := [], alts := [], laidByText := true, laidKinds := [.data, .pinned], laidTests := true, laidLooks := .later }
def FracReckonsUptoCardSaid : Prop := Claim7.holds Tryz.pinned (.plain (OpenSpec.upto fracReckonsSpec)) fracReckonsUptoCard

/-- THE SECOND FORM's CARD OF 'chamferlaw03.FracGreat'. -/
def fracGreatUptoCard : Claim7 := { stood := { row := fracGreatUptoRow, standIns := [], harness := (true, "b173d6841dddfda294439f5e46e116b2fc847e0075d1adbe50d09dc807bf1d5d"), looks := false }, kinds := [], alts := [], laidByText := true, laidKinds := [.data, .pinned], laidTests := true, laidLooks := .later }
def FracGreatUptoCardSaid : Prop := Claim7.holds Tryz.pinned (.plain (OpenSpec.upto fracGreatSpec)) fracGreatUptoCard
end Rows
end Go.Proofs.YtjnhekedclcbfaaGreatDoor
