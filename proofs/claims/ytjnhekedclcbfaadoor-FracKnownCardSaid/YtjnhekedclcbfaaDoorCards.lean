/-
  DERIVED. GIVEN WITH THE SEED: THE CARDS: each row of YtjnhekedclcbfaaDoorRows.lean that lists a variable, with what it lists TIED to the program's text (the seventh form; the later family's looks); each row that meets fmt, with fmt's text TOLD by the authors' own Lean function (tested against real Go, not proved from fmt's source: count such statements apart). THE CARD IS WHAT COUNTS. Prove the row's statement (the work); the ties are given (YtjnhekedclcbfaaDoorTie.lean); close each card by the builder's one call (the guide's Derived/Test/ToyasCard.lean, 'card_holds'). Laid BY PROGRAM, IN A SANDBOX (cutbox-door.mjs). By AI agents, Wed Nov 11 2026. No macro, syntax, notation, axiom, sorry.
-/
import Derived.Test.YtjnhekedclcbfaaDoorRows
import GoSem.ClaimSeven
namespace Go.Proofs.YtjnhekedclcbfaaDoor
namespace Rows

/-- THE TIED CARD OF 'chamferlaw03.FracBack'. -/
def fracBackCard : Claim7 := { stood := { row := fracBackRow, standIns := [], harness := (true, "b152a7ad23ac56c8a6ace90ef8e33aa36214da2c6b11ed5b5e98d4a7ed824a87"), looks := false }, kinds := [], alts := [], laidByText := true, laidKinds := [.data, .pinned], laidTests := true, laidLooks := .later }
def FracBackCardSaid : Prop := Claim7.holds Tryd.pinned (.plain (OpenSpec.ofChange fracBackSpec)) fracBackCard

/-- THE TIED CARD OF 'chamferlaw03.FracOrders'. -/
def fracOrdersCard : Claim7 := { stood := { row := fracOrdersRow, standIns := [], harness := (true, "b152a7ad23ac56c8a6ace90ef8e33aa36214da2c6b11ed5b5e98d4a7ed824a87"), looks := false }, kinds := [], alts := [], laidByText := true, laidKinds := [.data, .pinned], laidTests := true, laidLooks := .later }
def FracOrdersCardSaid : Prop := Claim7.holds Tryd.pinned (.plain (OpenSpec.ofChange fracOrdersSpec)) fracOrdersCard

/-- THE TIED CARD OF 'chamferlaw03.FracField'. -/
def fracFieldCard : Claim7 := { stood := { row := fracFieldRow, standIns := [], harness := (true, "b152a7ad23ac56c8a6ace90ef8e33aa36214da2c6b11ed5b5e98d4a7ed824a87"), looks := false }, kinds := [], alts := [], laidByText := true, laidKinds := [.data, .pinned], laidTests := true, laidLooks := .later }
def FracFieldCardSaid : Prop := Claim7.holds Tryd.pinned (.plain (OpenSpec.ofChange fracFieldSpec)) fracFieldCard

/-- THE TIED CARD OF 'chamferlaw03.FracKnown'. -/
def fracKnownCard : Claim7 := { stood := { row := fracKnownRow, standIns := [], harness := (true, "b152a7ad23ac56c8a6ace90ef8e33aa36214da2c6b11ed5b5e98d4a7ed824a87"), looks := false }, kinds := [], alts := [], laidByText := true, laidKinds := [.data, .pinned], laidTests := true, laidLooks := .later }
def FracKnownCardSaid : Prop := Claim7.holds Tryd.pinned (.plain (OpenSpec.ofChange fracKnownSpec)) fracKnownCard

/-- THE SECOND FORM's CARD OF 'chamferlaw03.FracBack'. -/
def fracBackUptoCard : Claim7 := { stood := { row := fracBackUptoRow, standIns := [], harness := (true, "b152a7ad23ac56c8a6ace90ef8e33aa36214da2c6b11ed5b5e98d4a7ed824a87"), looks := false }, kinds := [], alts := [], laidByText := true, laidKinds := [.data, .pinned], laidTests := true, laidLooks := .later }
def FracBackUptoCardSaid : Prop := Claim7.holds Tryd.pinned (.plain (OpenSpec.upto fracBackSpec)) fracBackUptoCard

/-- THE SECOND FORM's CARD OF 'chamferlaw03.FracOrders'. -/
def fracOrdersUptoCard : Claim7 := { stood := { row := fracOrdersUptoRow, standIns := [], harness := (true, "b152a7ad23ac56c8a6ace90ef8e33aa36214da2c6b11ed5b5e98d4a7ed824a87"), looks := false }, kinds := [], alts := [], laidByText := true, laidKinds := [.data, .pinned], laidTests := true, laidLooks := .later }
def FracOrdersUptoCardSaid : Prop := Claim7.holds Tryd.pinned (.plain (OpenSpec.upto fracOrdersSpec)) fracOrdersUptoCard

/-- THE SECOND FORM's CARD OF 'chamferlaw03.FracField'. -/
def fracFieldUptoCard : Claim7 := { stood := { row := fracFieldUptoRow, standIns := [], harness := (true, "b152a7ad23ac56c8a6ace90ef8e33aa36214da2c6b11ed5b5e98d4a7ed824a87"), looks := false }, kinds := [], alts := [], laidByText := true, laidKinds := [.data, .pinned], laidTests := true, laidLooks := .later }
def FracFieldUptoCardSaid : Prop := Claim7.holds Tryd.pinned (.plain (OpenSpec.upto fracFieldSpec)) fracFieldUptoCard

/-- THE SECOND FORM's CARD OF 'chamferlaw03.FracKnown'. -/
def fracKnownUptoCard : Claim7 := { stood := { row := fracKnownUptoRow, standIns := [], harness := (true, "b152a7ad23ac56c8a6ace90ef8e33aa36214da2c6b11ed5b5e98d4a7ed824a87"), looks := false }, kinds := [], alts := [], laidByText := true, laidKinds := [.data, .pinned], laidTests := true, laidLooks := .later }
def FracKnownUptoCardSaid : Prop := Claim7.holds Tryd.pinned (.plain (OpenSpec.upto fracKnownSpec)) fracKnownUptoCard
end Rows
end Go.Proofs.YtjnhekedclcbfaaDoor
