/-
  DERIVED. GIVEN WITH THE SEED: THE CARDS: each row of YtbfapomdnocbaaaGreatDoorRows.lean that lists a variable, with what it lists TIED to the program's text (the seventh form; the later family's looks); each row that meets fmt, with fmt's text TOLD by the authors' own Lean function (tested against real Go, not proved from fmt's source: count such statements apart). THE CARD IS WHAT COUNTS. Prove the row's statement (the work); the ties are given (YtbfapomdnocbaaaGreatDoorTie.lean); close each card by the builder's one call (the guide's Derived/Test/ToyasCard.lean, 'card_holds'). Laid BY PROGRAM, IN A SANDBOX (cutbox-door.mjs). By AI agents, Wed Nov 11 2026. No macro, syntax, notation, axiom, sorry.
-/
import Derived.Test.YtbfapomdnocbaaaGreatDoorRows
import GoSem.ClaimSeven
namespace Go.Proofs.YtbfapomdnocbaaaGreatDoor
namespace Rows

/-- THE TIED CARD OF 'chamferlaw04.VecWords'. -/
def vecWordsCard : Claim7 := { stood := { row := vecWordsRow, standIns := [], harness := (true, "cb29fab55bc7995ab276d01e3a595804839181ecef77fbc7d0ed9a46fc6f84b5"), looks := false }, kinds := [], alts := [], laidByText := true, laidKinds := [.data, .pinned], laidTests := true, laidLooks := .later }
def VecWordsCardSaid : Prop := Claim7.holds Tryz.pinned (.plain (OpenSpec.ofChange vecWordsSpec)) vecWordsCard

/-- THE TIED CARD OF 'chamferlaw04.VecRanks'. -/
def vecRanksCard : Claim7 := { stood := { row := vecRanksRow, standIns := [], harness := (true, "cb29fab55bc7995ab276d01e3a595804839181ecef77fbc7d0ed9a46fc6f84b5"), looks := false }, kinds := [], alts := [], laidByText := true, laidKinds := [.data, .pinned], laidTests := true, laidLooks := .later }
def VecRanksCardSaid : Prop := Claim7.holds Tryz.pinned (.plain (OpenSpec.ofChange vecRanksSpec)) vecRanksCard

/-- THE TIED CARD OF 'chamferlaw04.VecTexts'. -/
def vecTextsCard : Claim7 := { stood := { row := vecTextsRow, standIns := [], harness := (true, "cb29fab55bc7995ab276d01e3a595804839181ecef77fbc7d0ed9a46fc6f84b5"), looks := false }, kinds := [], alts := [], laidByText := true, laidKinds := [.data, .pinned], laidTests := true, laidLooks := .later }
def VecTextsCardSaid : Prop := Claim7.holds Tryz.pinned (.plain (OpenSpec.ofChange vecTextsSpec)) vecTextsCard

/-- THE TIED CARD OF 'chamferlaw04.VecProducts'. -/
def vecProductsCard : Claim7 := { stood := { row := vecProductsRow, standIns := [], harness := (true, "cb29fab55bc7995ab276d01e3a595804839181ecef77fbc7d0ed9a46fc6f84b5"), looks := false }, kinds := [], alts := [], laidByText := true, laidKinds := [.data, .pinned], laidTests := true, laidLooks := .later }
def VecProductsCardSaid : Prop := Claim7.holds Tryz.pinned (.plain (OpenSpec.ofChange vecProductsSpec)) vecProductsCard

/-- THE TIED CARD OF 'chamferlaw04.VecLagrange'. -/
def vecLagrangeCard : Claim7 := { stood := { row := vecLagrangeRow, standIns := [], harness := (true, "cb29fab55bc7995ab276d01e3a595804839181ecef77fbc7d0ed9a46fc6f84b5"), looks := false }, kinds := [], alts := [], laidByText := true, laidKinds := [.data, .pinned], laidTests := true, laidLooks := .later }
def VecLagrangeCardSaid : Prop := Claim7.holds Tryz.pinned (.plain (OpenSpec.ofChange vecLagrangeSpec)) vecLagrangeCard

/-- THE TIED CARD OF 'chamferlaw04.VecDets'. -/
def vecDetsCard : Claim7 := { stood := { row := vecDetsRow, standIns := [], harness := (true, "cb29fab55bc7995ab276d01e3a595804839181ecef77fbc7d0ed9a46fc6f84b5"), looks := false }, kinds := [], alts := [], laidByText := true, laidKinds := [.data, .pinned], laidTests := true, laidLooks := .later }
def VecDetsCardSaid : Prop := Claim7.holds Tryz.pinned (.plain (OpenSpec.ofChange vecDetsSpec)) vecDetsCard

/-- THE TIED CARD OF 'chamferlaw04.VecDirections'. -/
def vecDirectionsCard : Claim7 := { stood := { row := vecDirectionsRow, standIns := [], harness := (true, "cb29fab55bc7995ab276d01e3a595804839181ecef77fbc7d0ed9a46fc6f84b5"), looks := false }, kinds := [], alts := [], laidByText := true, laidKinds := [.data, .pinned], laidTests := true, laidLooks := .later }
def VecDirectionsCardSaid : Prop := Claim7.holds Tryz.pinned (.plain (OpenSpec.ofChange vecDirectionsSpec)) vecDirectionsCard

/-- THE TIED CARD OF 'chamferlaw04.VecSums'. -/
def vecSumsCard : Claim7 := { stood := { row := vecSumsRow, standIns := [], harness := (true, "cb29fab55bc7995ab276d01e3a595804839181ecef77fbc7d0ed9a46fc6f84b5"), looks := false }, kinds := [], alts := [], laidByText := true, laidKinds := [.data, .pinned], laidTests := true, laidLooks := .later }
def VecSumsCardSaid : Prop := Claim7.holds Tryz.pinned (.plain (OpenSpec.ofChange vecSumsSpec)) vecSumsCard

/-- THE TIED CARD OF 'chamferlaw04.VecKnown'. -/
def vecKnownCard : Claim7 := { stood := { row := vecKnownRow, standIns := [], harness := (true, "cb29fab55bc7995ab276d01e3a595804839181ecef77fbc7d0ed9a46fc6f84b5"), looks := false }, kinds := [], alts := [], laidByText := true, laidKinds := [.data, .pinned], laidTests := true, laidLooks := .later }
def VecKnownCardSaid : Prop := Claim7.holds Tryz.pinned (.plain (OpenSpec.ofChange vecKnownSpec)) vecKnownCard

/-- THE SECOND FORM's CARD OF 'chamferlaw04.VecWords'. -/
def vecWordsUptoCard : Claim7 := { stood := { row := vecWordsUptoRow, standIns := [], harness := (true, "cb29fab55bc7995ab276d01e3a595804839181ecef77fbc7d0ed9a46fc6f84b5"), looks := false }, kinds := [], alts := [], laidByText := true, laidKinds := [.data, .pinned], laidTests := true, laidLooks := .later }
def VecWordsUptoCardSaid : Prop := Claim7.holds Tryz.pinned (.plain (OpenSpec.upto vecWordsSpec)) vecWordsUptoCard

/-- THE SECOND FORM's CARD OF 'chamferlaw04.VecRanks'. -/
def vecRanksUptoCard : Claim7 := { stood := { row := vecRanksUptoRow, standIns := [], harness := (true, "cb29fab55bc7995ab276d01e3a595804839181ecef77fbc7d0ed9a46fc6f84b5"), looks := false }, kinds := [], alts := [], laidByText := true, laidKinds := [.data, .pinned], laidTests := true, laidLooks := .later }
def VecRanksUptoCardSaid : Prop := Claim7.holds Tryz.pinned (.plain (OpenSpec.upto vecRanksSpec)) vecRanksUptoCard

/-- THE SECOND FORM's CARD OF 'chamferlaw04.VecTexts'. -/
def vecTextsUptoCard : Claim7 := { stood := { row := vecTextsUptoRow, standIns := [], harness := (true, "cb29fab55bc7995ab276d01e3a595804839181ecef77fbc7d0ed9a46fc6f84b5"), looks := false }, kinds := [], alts := [], laidByText := true, laidKinds := [.data, .pinned], laidTests := true, laidLooks := .later }
def VecTextsUptoCardSaid : Prop := Claim7.holds Tryz.pinned (.plain (OpenSpec.upto vecTextsSpec)) vecTextsUptoCard

/-- THE SECOND FORM's CARD OF 'chamferlaw04.VecProducts'. -/
def vecProductsUptoCard : Claim7 := { stood := { row := vecProductsUptoRow, standIns := [], harness := (true, "cb29fab55bc7995ab276d01e3a595804839181ecef77fbc7d0ed9a46fc6f84b5"), looks := false }, kinds := [], alts := [], laidByText := true, laidKinds := [.data, .pinned], laidTests := true, laidLooks := .later }
def VecProductsUptoCardSaid : Prop := Claim7.holds Tryz.pinned (.plain (OpenSpec.upto vecProductsSpec)) vecProductsUptoCard

/-- THE SECOND FORM's CARD OF 'chamferlaw04.VecLagrange'. -/
def vecLagrangeUptoCard : Claim7 := { stood := { row := vecLagrangeUptoRow, standIns := [], harness := (true, "cb29fab55bc7995ab276d01e3a595804839181ecef77fbc7d0ed9a46fc6f84b5"), looks := false }, kinds := [], alts := [], laidByText := true, laidKinds := [.data, .pinned], laidTests := true, laidLooks := .later }
def VecLagrangeUptoCardSaid : Prop := Claim7.holds Tryz.pinned (.plain (OpenSpec.upto vecLagrangeSpec)) vecLagrangeUptoCard

/-- THE SECOND FORM's CARD OF 'chamferlaw04.VecDets'. -/
def vecDetsUptoCard : Claim7 := { stood := { row := vecDetsUptoRow, standIns := [], harness := (true, "cb29fab55bc7995ab276d01e3a595804839181ecef77fbc7d0ed9a46fc6f84b5"), looks := false }, kinds := [], alts := [], laidByText := true, laidKinds := [.data, .pinned], laidTests := true, laidLooks := .later }
def VecDetsUptoCardSaid : Prop := Claim7.holds Tryz.pinned (.plain (OpenSpec.upto vecDetsSpec)) vecDetsUptoCard

/-- THE SECOND FORM's CARD OF 'chamferlaw04.VecDirections'. -/
def vecDirectionsUptoCard : Claim7 := { stood := { row := vecDirectionsUptoRow, standIns := [], harness := (true, "cb29fab55bc7995ab276d01e3a595804839181ecef77fbc7d0ed9a46fc6f84b5"), looks := false }, kinds := [], alts := [], laidByText := true, laidKinds := [.data, .pinned], laidTests := true, laidLooks := .later }
def VecDirectionsUptoCardSaid : Prop := Claim7.holds Tryz.pinned (.plain (OpenSpec.upto vecDirectionsSpec)) vecDirectionsUptoCard

/-- THE SECOND FORM's CARD OF 'chamferlaw04.VecSums'. -/
def vecSumsUptoCard : Claim7 := { stood := { row := vecSumsUptoRow, standIns := [], harness := (true, "cb29fab55bc7995ab276d01e3a595804839181ecef77fbc7d0ed9a46fc6f84b5"), looks := false }, kinds := [], alts := [], laidByText := true, laidKinds := [.data, .pinned], laidTests := true, laidLooks := .later }
def VecSumsUptoCardSaid : Prop := Claim7.holds Tryz.pinned (.plain (OpenSpec.upto vecSumsSpec)) vecSumsUptoCard

/-- THE SECOND FORM's CARD OF 'chamferlaw04.VecKnown'. -/
def vecKnownUptoCard : Claim7 := { stood := { row := vecKnownUptoRow, standIns := [], harness := (true, "cb29fab55bc7995ab276d01e3a595804839181ecef77fbc7d0ed9a46fc6f84b5"), looks := false }, kinds := [], alts := [], laidByText := true, laidKinds := [.data, .pinned], laidTests := true, laidLooks := .later }
def VecKnownUptoCardSaid : Prop := Claim7.holds Tryz.pinned (.plain (OpenSpec.upto vecKnownSpec)) vecKnownUptoCard
end Rows
end Go.Proofs.YtbfapomdnocbaaaGreatDoor
