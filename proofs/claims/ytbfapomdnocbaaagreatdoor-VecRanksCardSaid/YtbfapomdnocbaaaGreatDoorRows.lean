/-
  NARROWER THAN 'FOR EVERY INPUT', by the rows' own cells (each row's printed sentence says how): VecWords: laid · VecRanks: laid · VecTexts: laid · VecProducts: laid · VecLagrange: laid · VecDets: laid · VecDirections: laid · VecSums: laid · VecKnown: laid.
  DERIVED. THE GIVEN ROWS OF THIS SEAT. 9 by the template 'for every input the law returns true; each argument reads behind the call as it read before'; 0 by the template 'total and deterministic' (their statements: YtbfapomdnocbaaaGreatDoorTotals.lean).
  GIVEN WITH THE SEED: the statements are not yours to turn. If you find one false, say at which input.
  Laid BY PROGRAM, IN A SANDBOX (cutbox-rows.mjs): the forced cells as the released guide's own fill.sh prints them over the translation 90376045d444f41d… (all of the seat's roots in one cut). By AI agents, Wed Nov 11 2026. No macro, syntax, notation, axiom, sorry.
-/
import Derived.Test.YtbfapomdnocbaaaGreatDoorChecked
import GoSem.PinnedTables
import GoSem.Claim
import GoSem.ClaimJoined
import GoSem.ClaimMapViews
import Derived.JoinedTies
import Derived.KernelRfl
namespace Go.Proofs.YtbfapomdnocbaaaGreatDoor
/- THE CELL 'sum', in the pinned program and in every row, IS THE sha256 OF THE DUMP (.gsa) THAT YtbfapomdnocbaaaGreatDoorProg.lean LOADS. Nothing in Lean hashes anything: it is a label: what it is worth is what the hold of that sum in a sandbox is worth. -/
noncomputable def Tryz.pinned : Pinned := { name := "ytbfapomdnocbaaagreatdoor", sum := "90376045d444f41dcc06ff7f14bff541276ecad50a06066b059e1737afddac90", checked := Tryz.checked }
namespace Rows
def none {H : Type} : Left H := { results := [], args := [] }

/- WHAT THE LISTED PACKAGE-LEVEL VARIABLES READ AS WHEN THE CALL BEGINS. Each datum BY PROGRAM (the guide's laid-datum.mjs) off the statement by which the dump's own 'gosem.cut.vars' lays the variable. In a bare row this is a premise. The card (YtbfapomdnocbaaaGreatDoorCards.lean) ties it to the program's text. -/
def laid_unicode_utf8_acceptRanges {H : Type} : DataW H := .agg [.agg [.lit (.int .u8 128), .lit (.int .u8 191)], .agg [.lit (.int .u8 160), .lit (.int .u8 191)], .agg [.lit (.int .u8 128), .lit (.int .u8 159)], .agg [.lit (.int .u8 144), .lit (.int .u8 191)], .agg [.lit (.int .u8 128), .lit (.int .u8 143)], .agg [.lit (.int .u8 0), .lit (.int .u8 0)], .agg [.lit (.int .u8 0), .lit (.int .u8 0)], .agg [.lit (.int .u8 0), .lit (.int .u8 0)], .agg [.lit (.int .u8 0), .lit (.int .u8 0)], .agg [.lit (.int .u8 0), .lit (.int .u8 0)], .agg [.lit (.int .u8 0), .lit (.int .u8 0)], .agg [.lit (.int .u8 0), .lit (.int .u8 0)], .agg [.lit (.int .u8 0), .lit (.int .u8 0)], .agg [.lit (.int .u8 0), .lit (.int .u8 0)], .agg [.lit (.int .u8 0), .lit (.int .u8 0)], .agg [.lit (.int .u8 0), .lit (.int .u8 0)]]
/-- One of Go's own tables, pinned by name: the form's constant. -/
def laid_unicode_utf8_first : DataW Unit := Go.Pinned.utf8First

/-- 'chamferlaw04.VecWords': WHATEVER THE INPUT: true; the input reads as it did. -/
def vecWordsSpec : ChangeSpec := { name := "vecWords", fn := fun _ => fun
  | [d1, d2, d3] => { results := [.lit (.bool true)], args := [d1, d2, d3] }
  | _ => none }
def vecWordsRow : OpenClaim := { program := "ytbfapomdnocbaaagreatdoor", sum := "90376045d444f41dcc06ff7f14bff541276ecad50a06066b059e1737afddac90", func := "chamfer/chamferlaw04.VecWords", spec := "vecWords", inPlace := ["math/bits.Add64", "math/bits.Sub64", "internal/bytealg.IndexByteString", "internal/bytealg.IndexString"], unfollowed := true, recurses := true, named := ["math/bits.divideError", "math/bits.overflowError", "internal/bytealg.MaxLen", "unicode/utf8.first", "unicode/utf8.acceptRanges"], apart := false, laid := [("unicode/utf8.acceptRanges", laid_unicode_utf8_acceptRanges), ("unicode/utf8.first", laid_unicode_utf8_first)] }
def VecWordsSaid : Prop := vecWordsRow.holds Tryz.pinned (OpenSpec.ofChange vecWordsSpec)

/-- ITS FALSE NEIGHBOUR: 'it returns false'. Refute it at one input. -/
def vecWordsWrong : ChangeSpec := { name := "vecWords", fn := fun _ => fun
  | [d1, d2, d3] => { results := [.lit (.bool false)], args := [d1, d2, d3] }
  | _ => none }
def VecWordsWrongFalsely : Prop := vecWordsRow.holds Tryz.pinned (OpenSpec.ofChange vecWordsWrong)

/-- 'chamferlaw04.VecRanks': WHATEVER THE INPUT: true; the input reads as it did. -/
def vecRanksSpec : ChangeSpec := { name := "vecRanks", fn := fun _ => fun
  | [d1, d2, d3] => { results := [.lit (.bool true)], args := [d1, d2, d3] }
  | _ => none }
def vecRanksRow : OpenClaim := { program := "ytbfapomdnocbaaagreatdoor", sum := "90376045d444f41dcc06ff7f14bff541276ecad50a06066b059e1737afddac90", func := "chamfer/chamferlaw04.VecRanks", spec := "vecRanks", inPlace := ["internal/bytealg.IndexByteString", "internal/bytealg.IndexString", "math/bits.Add64", "math/bits.Sub64"], unfollowed := true, recurses := true, named := ["internal/bytealg.MaxLen", "unicode/utf8.first", "unicode/utf8.acceptRanges", "math/bits.divideError", "math/bits.overflowError"], apart := false, laid := [("unicode/utf8.acceptRanges", laid_unicode_utf8_acceptRanges), ("unicode/utf8.first", laid_unicode_utf8_first)] }
def VecRanksSaid : Prop := vecRanksRow.holds Tryz.pinned (OpenSpec.ofChange vecRanksSpec)

/-- ITS FALSE NEIGHBOUR: 'it returns false'. Refute it at one input. -/
def vecRanksWrong : ChangeSpec := { name := "vecRanks", fn := fun _ => fun
  | [d1, d2, d3] => { results := [.lit (.bool false)], args := [d1, d2, d3] }
  | _ => none }
def VecRanksWrongFalsely : Prop := vecRanksRow.holds Tryz.pinned (OpenSpec.ofChange vecRanksWrong)

/-- 'chamferlaw04.VecTexts': WHATEVER THE INPUT: true; the input reads as it did. -/
def vecTextsSpec : ChangeSpec := { name := "vecTexts", fn := fun _ => fun
  | [d] => { results := [.lit (.bool true)], args := [d] }
  | _ => none }
def vecTextsRow : OpenClaim := { program := "ytbfapomdnocbaaagreatdoor", sum := "90376045d444f41dcc06ff7f14bff541276ecad50a06066b059e1737afddac90", func := "chamfer/chamferlaw04.VecTexts", spec := "vecTexts", inPlace := ["math/bits.Add64", "math/bits.Sub64", "internal/bytealg.IndexByteString", "internal/bytealg.IndexString"], unfollowed := true, recurses := true, named := ["math/bits.divideError", "math/bits.overflowError", "internal/bytealg.MaxLen", "unicode/utf8.first", "unicode/utf8.acceptRanges"], apart := false, laid := [("unicode/utf8.acceptRanges", laid_unicode_utf8_acceptRanges), ("unicode/utf8.first", laid_unicode_utf8_first)] }
def VecTextsSaid : Prop := vecTextsRow.holds Tryz.pinned (OpenSpec.ofChange vecTextsSpec)

/-- ITS FALSE NEIGHBOUR: 'it returns false'. Refute it at one input. -/
def vecTextsWrong : ChangeSpec := { name := "vecTexts", fn := fun _ => fun
  | [d] => { results := [.lit (.bool false)], args := [d] }
  | _ => none }
def VecTextsWrongFalsely : Prop := vecTextsRow.holds Tryz.pinned (OpenSpec.ofChange vecTextsWrong)

/-- 'chamferlaw04.VecProducts': WHATEVER THE INPUT: true; the input reads as it did. -/
def vecProductsSpec : ChangeSpec := { name := "vecProducts", fn := fun _ => fun
  | [d1, d2, d3] => { results := [.lit (.bool true)], args := [d1, d2, d3] }
  | _ => none }
def vecProductsRow : OpenClaim := { program := "ytbfapomdnocbaaagreatdoor", sum := "90376045d444f41dcc06ff7f14bff541276ecad50a06066b059e1737afddac90", func := "chamfer/chamferlaw04.VecProducts", spec := "vecProducts", inPlace := ["internal/bytealg.IndexByteString", "internal/bytealg.IndexString", "math/bits.Add64", "math/bits.Sub64"], unfollowed := true, recurses := true, named := ["internal/bytealg.MaxLen", "unicode/utf8.first", "unicode/utf8.acceptRanges", "math/bits.divideError", "math/bits.overflowError"], apart := false, laid := [("unicode/utf8.acceptRanges", laid_unicode_utf8_acceptRanges), ("unicode/utf8.first", laid_unicode_utf8_first)] }
def VecProductsSaid : Prop := vecProductsRow.holds Tryz.pinned (OpenSpec.ofChange vecProductsSpec)

/-- ITS FALSE NEIGHBOUR: 'it returns false'. Refute it at one input. -/
def vecProductsWrong : ChangeSpec := { name := "vecProducts", fn := fun _ => fun
  | [d1, d2, d3] => { results := [.lit (.bool false)], args := [d1, d2, d3] }
  | _ => none }
def VecProductsWrongFalsely : Prop := vecProductsRow.holds Tryz.pinned (OpenSpec.ofChange vecProductsWrong)

/-- 'chamferlaw04.VecLagrange': WHATEVER THE INPUT: true; the input reads as it did. -/
def vecLagrangeSpec : ChangeSpec := { name := "vecLagrange", fn := fun _ => fun
  | [d1, d2] => { results := [.lit (.bool true)], args := [d1, d2] }
  | _ => none }
def vecLagrangeRow : OpenClaim := { program := "ytbfapomdnocbaaagreatdoor", sum := "90376045d444f41dcc06ff7f14bff541276ecad50a06066b059e1737afddac90", func := "chamfer/chamferlaw04.VecLagrange", spec := "vecLagrange", inPlace := ["internal/bytealg.IndexByteString", "internal/bytealg.IndexString", "math/bits.Add64", "math/bits.Sub64"], unfollowed := true, recurses := true, named := ["internal/bytealg.MaxLen", "unicode/utf8.first", "unicode/utf8.acceptRanges", "math/bits.divideError", "math/bits.overflowError"], apart := false, laid := [("unicode/utf8.acceptRanges", laid_unicode_utf8_acceptRanges), ("unicode/utf8.first", laid_unicode_utf8_first)] }
def VecLagrangeSaid : Prop := vecLagrangeRow.holds Tryz.pinned (OpenSpec.ofChange vecLagrangeSpec)

/-- ITS FALSE NEIGHBOUR: 'it returns false'. Refute it at one input. -/
def vecLagrangeWrong : ChangeSpec := { name := "vecLagrange", fn := fun _ => fun
  | [d1, d2] => { results := [.lit (.bool false)], args := [d1, d2] }
  | _ => none }
def VecLagrangeWrongFalsely : Prop := vecLagrangeRow.holds Tryz.pinned (OpenSpec.ofChange vecLagrangeWrong)

/-- 'chamferlaw04.VecDets': WHATEVER THE INPUT: true; the input reads as it did. -/
def vecDetsSpec : ChangeSpec := { name := "vecDets", fn := fun _ => fun
  | [d1, d2, d3] => { results := [.lit (.bool true)], args := [d1, d2, d3] }
  | _ => none }
def vecDetsRow : OpenClaim := { program := "ytbfapomdnocbaaagreatdoor", sum := "90376045d444f41dcc06ff7f14bff541276ecad50a06066b059e1737afddac90", func := "chamfer/chamferlaw04.VecDets", spec := "vecDets", inPlace := ["internal/bytealg.IndexByteString", "internal/bytealg.IndexString", "math/bits.Add64", "math/bits.Sub64"], unfollowed := true, recurses := true, named := ["internal/bytealg.MaxLen", "unicode/utf8.first", "unicode/utf8.acceptRanges", "math/bits.divideError", "math/bits.overflowError"], apart := false, laid := [("unicode/utf8.acceptRanges", laid_unicode_utf8_acceptRanges), ("unicode/utf8.first", laid_unicode_utf8_first)] }
def VecDetsSaid : Prop := vecDetsRow.holds Tryz.pinned (OpenSpec.ofChange vecDetsSpec)

/-- ITS FALSE NEIGHBOUR: 'it returns false'. Refute it at one input. -/
def vecDetsWrong : ChangeSpec := { name := "vecDets", fn := fun _ => fun
  | [d1, d2, d3] => { results := [.lit (.bool false)], args := [d1, d2, d3] }
  | _ => none }
def VecDetsWrongFalsely : Prop := vecDetsRow.holds Tryz.pinned (OpenSpec.ofChange vecDetsWrong)

/-- 'chamferlaw04.VecDirections': WHATEVER THE INPUT: true; the input reads as it did. -/
def vecDirectionsSpec : ChangeSpec := { name := "vecDirections", fn := fun _ => fun
  | [d1, d2] => { results := [.lit (.bool true)], args := [d1, d2] }
  | _ => none }
def vecDirectionsRow : OpenClaim := { program := "ytbfapomdnocbaaagreatdoor", sum := "90376045d444f41dcc06ff7f14bff541276ecad50a06066b059e1737afddac90", func := "chamfer/chamferlaw04.VecDirections", spec := "vecDirections", inPlace := ["internal/bytealg.IndexByteString", "internal/bytealg.IndexString", "math/bits.Add64", "math/bits.Sub64"], unfollowed := true, recurses := true, named := ["internal/bytealg.MaxLen", "unicode/utf8.first", "unicode/utf8.acceptRanges", "math/bits.divideError", "math/bits.overflowError"], apart := false, laid := [("unicode/utf8.acceptRanges", laid_unicode_utf8_acceptRanges), ("unicode/utf8.first", laid_unicode_utf8_first)] }
def VecDirectionsSaid : Prop := vecDirectionsRow.holds Tryz.pinned (OpenSpec.ofChange vecDirectionsSpec)

/-- ITS FALSE NEIGHBOUR: 'it returns false'. Refute it at one input. -/
def vecDirectionsWrong : ChangeSpec := { name := "vecDirections", fn := fun _ => fun
  | [d1, d2] => { results := [.lit (.bool false)], args := [d1, d2] }
  | _ => none }
def VecDirectionsWrongFalsely : Prop := vecDirectionsRow.holds Tryz.pinned (OpenSpec.ofChange vecDirectionsWrong)

/-- 'chamferlaw04.VecSums': WHATEVER THE INPUT: true; the input reads as it did. -/
def vecSumsSpec : ChangeSpec := { name := "vecSums", fn := fun _ => fun
  | [d1, d2] => { results := [.lit (.bool true)], args := [d1, d2] }
  | _ => none }
def vecSumsRow : OpenClaim := { program := "ytbfapomdnocbaaagreatdoor", sum := "90376045d444f41dcc06ff7f14bff541276ecad50a06066b059e1737afddac90", func := "chamfer/chamferlaw04.VecSums", spec := "vecSums", inPlace := ["internal/bytealg.IndexByteString", "internal/bytealg.IndexString", "math/bits.Add64", "math/bits.Sub64"], unfollowed := true, recurses := true, named := ["internal/bytealg.MaxLen", "unicode/utf8.first", "unicode/utf8.acceptRanges", "math/bits.divideError", "math/bits.overflowError"], apart := false, laid := [("unicode/utf8.acceptRanges", laid_unicode_utf8_acceptRanges), ("unicode/utf8.first", laid_unicode_utf8_first)] }
def VecSumsSaid : Prop := vecSumsRow.holds Tryz.pinned (OpenSpec.ofChange vecSumsSpec)

/-- ITS FALSE NEIGHBOUR: 'it returns false'. Refute it at one input. -/
def vecSumsWrong : ChangeSpec := { name := "vecSums", fn := fun _ => fun
  | [d1, d2] => { results := [.lit (.bool false)], args := [d1, d2] }
  | _ => none }
def VecSumsWrongFalsely : Prop := vecSumsRow.holds Tryz.pinned (OpenSpec.ofChange vecSumsWrong)

/-- 'chamferlaw04.VecKnown': WHATEVER THE INPUT: true; the input reads as it did. -/
def vecKnownSpec : ChangeSpec := { name := "vecKnown", fn := fun _ => fun
  | [] => { results := [.lit (.bool true)], args := [] }
  | _ => none }
def vecKnownRow : OpenClaim := { program := "ytbfapomdnocbaaagreatdoor", sum := "90376045d444f41dcc06ff7f14bff541276ecad50a06066b059e1737afddac90", func := "chamfer/chamferlaw04.VecKnown", spec := "vecKnown", inPlace := ["internal/bytealg.IndexByteString", "internal/bytealg.IndexString", "math/bits.Add64", "math/bits.Sub64"], unfollowed := true, recurses := true, named := ["internal/bytealg.MaxLen", "unicode/utf8.first", "unicode/utf8.acceptRanges", "math/bits.divideError", "math/bits.overflowError"], apart := false, laid := [("unicode/utf8.acceptRanges", laid_unicode_utf8_acceptRanges), ("unicode/utf8.first", laid_unicode_utf8_first)] }
def VecKnownSaid : Prop := vecKnownRow.holds Tryz.pinned (OpenSpec.ofChange vecKnownSpec)

/-- ITS FALSE NEIGHBOUR: 'it returns false'. Refute it at one input. -/
def vecKnownWrong : ChangeSpec := { name := "vecKnown", fn := fun _ => fun
  | [] => { results := [.lit (.bool false)], args := [] }
  | _ => none }
def VecKnownWrongFalsely : Prop := vecKnownRow.holds Tryz.pinned (OpenSpec.ofChange vecKnownWrong)

/- THE SECOND FORM. 'bulk': how many values and letters a reading holds, each counted each time it is reached (what is shared counts as often as it is met; a slice's spare places count too). A statement '..UptoSaid' is the law's where the arguments, and the package variables that the reading takes, are together of bulk at most 1048576: NARROWER than '..Said'. Prove '..Said' where nothing that the law and all that it calls make is longer than what came in: it says more and counts as full. Else prove '..UptoSaid'. A law counts once. -/
mutual
def uptoBulk {H : Type} : DataW H → Nat
  | .lit (.string bytes) => bytes.length + 1
  | .lit _ => 1
  | .nil => 1
  | .ptr d => uptoBulk d + 1
  | .slice elems spare => uptoBulkAll elems + uptoBulkAll spare + 1
  | .agg parts => uptoBulkAll parts + 1
  | .iface _ d => uptoBulk d + 1
  | .map entries => uptoBulkEntries entries + 1
  | .held _ => 1
def uptoBulkAll {H : Type} : List (DataW H) → Nat
  | [] => 0
  | d :: r => uptoBulk d + uptoBulkAll r
def uptoBulkEntries {H : Type} : List (Lit × DataW H) → Nat
  | [] => 0
  | x :: r => uptoBulkEntry x + uptoBulkEntries r
def uptoBulkEntry {H : Type} : Lit × DataW H → Nat
  | (.string bytes, d) => bytes.length + uptoBulk d + 1
  | (_, d) => uptoBulk d + 1
 end
def uptoSmall : (H : Type) → List (DataW H) → Bool := fun _ ds => decide (uptoBulkAll ds ≤ 1048576)
def OpenSpec.upto (s : _root_.Go.ChangeSpec) : _root_.Go.OpenSpec := { _root_.Go.OpenSpec.ofChange s with cond := some uptoSmall }

/-- 'chamferlaw04.VecWords', WHERE WHAT IT READS IS OF BULK AT MOST 1048576: true; the input reads as it did. -/
def vecWordsUptoRow : OpenClaim := { program := "ytbfapomdnocbaaagreatdoor", sum := "90376045d444f41dcc06ff7f14bff541276ecad50a06066b059e1737afddac90", func := "chamfer/chamferlaw04.VecWords", spec := "vecWords", inPlace := ["math/bits.Add64", "math/bits.Sub64", "internal/bytealg.IndexByteString", "internal/bytealg.IndexString"], unfollowed := true, recurses := true, named := ["math/bits.divideError", "math/bits.overflowError", "internal/bytealg.MaxLen", "unicode/utf8.first", "unicode/utf8.acceptRanges"], apart := false, laid := [("unicode/utf8.acceptRanges", laid_unicode_utf8_acceptRanges), ("unicode/utf8.first", laid_unicode_utf8_first)], narrowed := true }
def VecWordsUptoSaid : Prop := vecWordsUptoRow.holds Tryz.pinned (OpenSpec.upto vecWordsSpec)

/-- 'chamferlaw04.VecRanks', WHERE WHAT IT READS IS OF BULK AT MOST 1048576: true; the input reads as it did. -/
def vecRanksUptoRow : OpenClaim := { program := "ytbfapomdnocbaaagreatdoor", sum := "90376045d444f41dcc06ff7f14bff541276ecad50a06066b059e1737afddac90", func := "chamfer/chamferlaw04.VecRanks", spec := "vecRanks", inPlace := ["internal/bytealg.IndexByteString", "internal/bytealg.IndexString", "math/bits.Add64", "math/bits.Sub64"], unfollowed := true, recurses := true, named := ["internal/bytealg.MaxLen", "unicode/utf8.first", "unicode/utf8.acceptRanges", "math/bits.divideError", "math/bits.overflowError"], apart := false, laid := [("unicode/utf8.acceptRanges", laid_unicode_utf8_acceptRanges), ("unicode/utf8.first", laid_unicode_utf8_first)], narrowed := true }
def VecRanksUptoSaid : Prop := vecRanksUptoRow.holds Tryz.pinned (OpenSpec.upto vecRanksSpec)

/-- 'chamferlaw04.VecTexts', WHERE WHAT IT READS IS OF BULK AT MOST 1048576: true; the input reads as it did. -/
def vecTextsUptoRow : OpenClaim := { program := "ytbfapomdnocbaaagreatdoor", sum := "90376045d444f41dcc06ff7f14bff541276ecad50a06066b059e1737afddac90", func := "chamfer/chamferlaw04.VecTexts", spec := "vecTexts", inPlace := ["math/bits.Add64", "math/bits.Sub64", "internal/bytealg.IndexByteString", "internal/bytealg.IndexString"], unfollowed := true, recurses := true, named := ["math/bits.divideError", "math/bits.overflowError", "internal/bytealg.MaxLen", "unicode/utf8.first", "unicode/utf8.acceptRanges"], apart := false, laid := [("unicode/utf8.acceptRanges", laid_unicode_utf8_acceptRanges), ("unicode/utf8.first", laid_unicode_utf8_first)], narrowed := true }
def VecTextsUptoSaid : Prop := vecTextsUptoRow.holds Tryz.pinned (OpenSpec.upto vecTextsSpec)

/-- 'chamferlaw04.VecProducts', WHERE WHAT IT READS IS OF BULK AT MOST 1048576: true; the input reads as it did. -/
def vecProductsUptoRow : OpenClaim := { program := "ytbfapomdnocbaaagreatdoor", sum := "90376045d444f41dcc06ff7f14bff541276ecad50a06066b059e1737afddac90", func := "chamfer/chamferlaw04.VecProducts", spec := "vecProducts", inPlace := ["internal/bytealg.IndexByteString", "internal/bytealg.IndexString", "math/bits.Add64", "math/bits.Sub64"], unfollowed := true, recurses := true, named := ["internal/bytealg.MaxLen", "unicode/utf8.first", "unicode/utf8.acceptRanges", "math/bits.divideError", "math/bits.overflowError"], apart := false, laid := [("unicode/utf8.acceptRanges", laid_unicode_utf8_acceptRanges), ("unicode/utf8.first", laid_unicode_utf8_first)], narrowed := true }
def VecProductsUptoSaid : Prop := vecProductsUptoRow.holds Tryz.pinned (OpenSpec.upto vecProductsSpec)

/-- 'chamferlaw04.VecLagrange', WHERE WHAT IT READS IS OF BULK AT MOST 1048576: true; the input reads as it did. -/
def vecLagrangeUptoRow : OpenClaim := { program := "ytbfapomdnocbaaagreatdoor", sum := "90376045d444f41dcc06ff7f14bff541276ecad50a06066b059e1737afddac90", func := "chamfer/chamferlaw04.VecLagrange", spec := "vecLagrange", inPlace := ["internal/bytealg.IndexByteString", "internal/bytealg.IndexString", "math/bits.Add64", "math/bits.Sub64"], unfollowed := true, recurses := true, named := ["internal/bytealg.MaxLen", "unicode/utf8.first", "unicode/utf8.acceptRanges", "math/bits.divideError", "math/bits.overflowError"], apart := false, laid := [("unicode/utf8.acceptRanges", laid_unicode_utf8_acceptRanges), ("unicode/utf8.first", laid_unicode_utf8_first)], narrowed := true }
def VecLagrangeUptoSaid : Prop := vecLagrangeUptoRow.holds Tryz.pinned (OpenSpec.upto vecLagrangeSpec)

/-- 'chamferlaw04.VecDets', WHERE WHAT IT READS IS OF BULK AT MOST 1048576: true; the input reads as it did. -/
def vecDetsUptoRow : OpenClaim := { program := "ytbfapomdnocbaaagreatdoor", sum := "90376045d444f41dcc06ff7f14bff541276ecad50a06066b059e1737afddac90", func := "chamfer/chamferlaw04.VecDets", spec := "vecDets", inPlace := ["internal/bytealg.IndexByteString", "internal/bytealg.IndexString", "math/bits.Add64", "math/bits.Sub64"], unfollowed := true, recurses := true, named := ["internal/bytealg.MaxLen", "unicode/utf8.first", "unicode/utf8.acceptRanges", "math/bits.divideError", "math/bits.overflowError"], apart := false, laid := [("unicode/utf8.acceptRanges", laid_unicode_utf8_acceptRanges), ("unicode/utf8.first", laid_unicode_utf8_first)], narrowed := true }
def VecDetsUptoSaid : Prop := vecDetsUptoRow.holds Tryz.pinned (OpenSpec.upto vecDetsSpec)

/-- 'chamferlaw04.VecDirections', WHERE WHAT IT READS IS OF BULK AT MOST 1048576: true; the input reads as it did. -/
def vecDirectionsUptoRow : OpenClaim := { program := "ytbfapomdnocbaaagreatdoor", sum := "90376045d444f41dcc06ff7f14bff541276ecad50a06066b059e1737afddac90", func := "chamfer/chamferlaw04.VecDirections", spec := "vecDirections", inPlace := ["internal/bytealg.IndexByteString", "internal/bytealg.IndexString", "math/bits.Add64", "math/bits.Sub64"], unfollowed := true, recurses := true, named := ["internal/bytealg.MaxLen", "unicode/utf8.first", "unicode/utf8.acceptRanges", "math/bits.divideError", "math/bits.overflowError"], apart := false, laid := [("unicode/utf8.acceptRanges", laid_unicode_utf8_acceptRanges), ("unicode/utf8.first", laid_unicode_utf8_first)], narrowed := true }
def VecDirectionsUptoSaid : Prop := vecDirectionsUptoRow.holds Tryz.pinned (OpenSpec.upto vecDirectionsSpec)

/-- 'chamferlaw04.VecSums', WHERE WHAT IT READS IS OF BULK AT MOST 1048576: true; the input reads as it did. -/
def vecSumsUptoRow : OpenClaim := { program := "ytbfapomdnocbaaagreatdoor", sum := "90376045d444f41dcc06ff7f14bff541276ecad50a06066b059e1737afddac90", func := "chamfer/chamferlaw04.VecSums", spec := "vecSums", inPlace := ["internal/bytealg.IndexByteString", "internal/bytealg.IndexString", "math/bits.Add64", "math/bits.Sub64"], unfollowed := true, recurses := true, named := ["internal/bytealg.MaxLen", "unicode/utf8.first", "unicode/utf8.acceptRanges", "math/bits.divideError", "math/bits.overflowError"], apart := false, laid := [("unicode/utf8.acceptRanges", laid_unicode_utf8_acceptRanges), ("unicode/utf8.first", laid_unicode_utf8_first)], narrowed := true }
def VecSumsUptoSaid : Prop := vecSumsUptoRow.holds Tryz.pinned (OpenSpec.upto vecSumsSpec)

/-- 'chamferlaw04.VecKnown', WHERE WHAT IT READS IS OF BULK AT MOST 1048576: true; the input reads as it did. -/
def vecKnownUptoRow : OpenClaim := { program := "ytbfapomdnocbaaagreatdoor", sum := "90376045d444f41dcc06ff7f14bff541276ecad50a06066b059e1737afddac90", func := "chamfer/chamferlaw04.VecKnown", spec := "vecKnown", inPlace := ["internal/bytealg.IndexByteString", "internal/bytealg.IndexString", "math/bits.Add64", "math/bits.Sub64"], unfollowed := true, recurses := true, named := ["internal/bytealg.MaxLen", "unicode/utf8.first", "unicode/utf8.acceptRanges", "math/bits.divideError", "math/bits.overflowError"], apart := false, laid := [("unicode/utf8.acceptRanges", laid_unicode_utf8_acceptRanges), ("unicode/utf8.first", laid_unicode_utf8_first)], narrowed := true }
def VecKnownUptoSaid : Prop := vecKnownUptoRow.holds Tryz.pinned (OpenSpec.upto vecKnownSpec)

end Rows
end Go.Proofs.YtbfapomdnocbaaaGreatDoor
