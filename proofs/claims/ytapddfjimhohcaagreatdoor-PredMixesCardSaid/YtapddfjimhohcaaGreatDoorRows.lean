/-
  NARROWER THAN 'FOR EVERY INPUT', by the rows' own cells (each row's printed sentence says how): PredWithin: laid · PredSides: laid · PredMixes: laid · PredAngles: laid · PredRound: laid · PredCrosses: laid · PredTurns: laid · PredSwaps: laid.
  DERIVED. THE GIVEN ROWS OF THIS SEAT. 8 by the template 'for every input the law returns true; each argument reads behind the call as it read before'; 0 by the template 'total and deterministic' (their statements: YtapddfjimhohcaaGreatDoorTotals.lean).
  GIVEN WITH THE SEED: the statements are not yours to turn. If you find one false, say at which input.
  Laid BY PROGRAM, IN A SANDBOX (cutbox-rows.mjs): the forced cells as the released guide's own fill.sh prints them over the translation e5daac199d915900… (all of the seat's roots in one cut). By AI agents, Wed Nov 11 2026. No macro, syntax, notation, axiom, sorry.
-/
import Derived.Test.YtapddfjimhohcaaGreatDoorChecked
import GoSem.PinnedTables
import GoSem.Claim
import GoSem.ClaimJoined
import GoSem.ClaimMapViews
import Derived.JoinedTies
import Derived.KernelRfl
namespace Go.Proofs.YtapddfjimhohcaaGreatDoor
/- THE CELL 'sum', in the pinned program and in every row, IS THE sha256 OF THE DUMP (.gsa) THAT YtapddfjimhohcaaGreatDoorProg.lean LOADS. Nothing in Lean hashes anything: it is a label: what it is worth is what the hold of that sum in a sandbox is worth. -/
noncomputable def Tryz.pinned : Pinned := { name := "ytapddfjimhohcaagreatdoor", sum := "e5daac199d915900528f2851426dc765b854b2ffc759988ea648db2081e896b1", checked := Tryz.checked }
namespace Rows
def none {H : Type} : Left H := { results := [], args := [] }

/- WHAT THE LISTED PACKAGE-LEVEL VARIABLES READ AS WHEN THE CALL BEGINS. Each datum BY PROGRAM (the guide's laid-datum.mjs) off the statement by which the dump's own 'gosem.cut.vars' lays the variable. In a bare row this is a premise. The card (YtapddfjimhohcaaGreatDoorCards.lean) ties it to the program's text. -/
def laid_unicode_utf8_acceptRanges {H : Type} : DataW H := .agg [.agg [.lit (.int .u8 128), .lit (.int .u8 191)], .agg [.lit (.int .u8 160), .lit (.int .u8 191)], .agg [.lit (.int .u8 128), .lit (.int .u8 159)], .agg [.lit (.int .u8 144), .lit (.int .u8 191)], .agg [.lit (.int .u8 128), .lit (.int .u8 143)], .agg [.lit (.int .u8 0), .lit (.int .u8 0)], .agg [.lit (.int .u8 0), .lit (.int .u8 0)], .agg [.lit (.int .u8 0), .lit (.int .u8 0)], .agg [.lit (.int .u8 0), .lit (.int .u8 0)], .agg [.lit (.int .u8 0), .lit (.int .u8 0)], .agg [.lit (.int .u8 0), .lit (.int .u8 0)], .agg [.lit (.int .u8 0), .lit (.int .u8 0)], .agg [.lit (.int .u8 0), .lit (.int .u8 0)], .agg [.lit (.int .u8 0), .lit (.int .u8 0)], .agg [.lit (.int .u8 0), .lit (.int .u8 0)], .agg [.lit (.int .u8 0), .lit (.int .u8 0)]]
/-- One of Go's own tables, pinned by name: the form's constant. -/
def laid_unicode_utf8_first : DataW Unit := Go.Pinned.utf8First

/-- 'chamferlaw08.PredWithin': WHATEVER THE INPUT: true; the input reads as it did. -/
def predWithinSpec : ChangeSpec := { name := "predWithin", fn := fun _ => fun
  | [d] => { results := [.lit (.bool true)], args := [d] }
  | _ => none }
def predWithinRow : OpenClaim := { program := "ytapddfjimhohcaagreatdoor", sum := "e5daac199d915900528f2851426dc765b854b2ffc759988ea648db2081e896b1", func := "chamfer/chamferlaw08.PredWithin", spec := "predWithin", inPlace := ["internal/bytealg.IndexByteString", "internal/bytealg.IndexString", "math/bits.Add64", "math/bits.Sub64"], unfollowed := true, recurses := true, named := ["internal/bytealg.MaxLen", "unicode/utf8.first", "unicode/utf8.acceptRanges", "math/bits.divideError", "math/bits.overflowError"], apart := false, laid := [("unicode/utf8.acceptRanges", laid_unicode_utf8_acceptRanges), ("unicode/utf8.first", laid_unicode_utf8_first)] }
def PredWithinSaid : Prop := predWithinRow.holds Tryz.pinned (OpenSpec.ofChange predWithinSpec)

/-- ITS FALSE NEIGHBOUR: 'it returns false'. Refute it at one input. -/
def predWithinWrong : ChangeSpec := { name := "predWithin", fn := fun _ => fun
  | [d] => { results := [.lit (.bool false)], args := [d] }
  | _ => none }
def PredWithinWrongFalsely : Prop := predWithinRow.holds Tryz.pinned (OpenSpec.ofChange predWithinWrong)

/-- 'chamferlaw08.PredSides': WHATEVER THE INPUT: true; the input reads as it did. -/
def predSidesSpec : ChangeSpec := { name := "predSides", fn := fun _ => fun
  | [d] => { results := [.lit (.bool true)], args := [d] }
  | _ => none }
def predSidesRow : OpenClaim := { program := "ytapddfjimhohcaagreatdoor", sum := "e5daac199d915900528f2851426dc765b854b2ffc759988ea648db2081e896b1", func := "chamfer/chamferlaw08.PredSides", spec := "predSides", inPlace := ["internal/bytealg.IndexByteString", "internal/bytealg.IndexString", "math/bits.Add64", "math/bits.Sub64"], unfollowed := true, recurses := true, named := ["internal/bytealg.MaxLen", "unicode/utf8.first", "unicode/utf8.acceptRanges", "math/bits.divideError", "math/bits.overflowError"], apart := false, laid := [("unicode/utf8.acceptRanges", laid_unicode_utf8_acceptRanges), ("unicode/utf8.first", laid_unicode_utf8_first)] }
def PredSidesSaid : Prop := predSidesRow.holds Tryz.pinned (OpenSpec.ofChange predSidesSpec)

/-- ITS FALSE NEIGHBOUR: 'it returns false'. Refute it at one input. -/
def predSidesWrong : ChangeSpec := { name := "predSides", fn := fun _ => fun
  | [d] => { results := [.lit (.bool false)], args := [d] }
  | _ => none }
def PredSidesWrongFalsely : Prop := predSidesRow.holds Tryz.pinned (OpenSpec.ofChange predSidesWrong)

/-- 'chamferlaw08.PredMixes': WHATEVER THE INPUT: true; the input reads as it did. -/
def predMixesSpec : ChangeSpec := { name := "predMixes", fn := fun _ => fun
  | [d1, d2] => { results := [.lit (.bool true)], args := [d1, d2] }
  | _ => none }
def predMixesRow : OpenClaim := { program := "ytapddfjimhohcaagreatdoor", sum := "e5daac199d915900528f2851426dc765b854b2ffc759988ea648db2081e896b1", func := "chamfer/chamferlaw08.PredMixes", spec := "predMixes", inPlace := ["internal/bytealg.IndexByteString", "internal/bytealg.IndexString", "math/bits.Add64", "math/bits.Sub64"], unfollowed := true, recurses := true, named := ["internal/bytealg.MaxLen", "unicode/utf8.first", "unicode/utf8.acceptRanges", "math/bits.divideError", "math/bits.overflowError"], apart := false, laid := [("unicode/utf8.acceptRanges", laid_unicode_utf8_acceptRanges), ("unicode/utf8.first", laid_unicode_utf8_first)] }
def PredMixesSaid : Prop := predMixesRow.holds Tryz.pinned (OpenSpec.ofChange predMixesSpec)

/-- ITS FALSE NEIGHBOUR: 'it returns false'. Refute it at one input. -/
def predMixesWrong : ChangeSpec := { name := "predMixes", fn := fun _ => fun
  | [d1, d2] => { results := [.lit (.bool false)], args := [d1, d2] }
  | _ => none }
def PredMixesWrongFalsely : Prop := predMixesRow.holds Tryz.pinned (OpenSpec.ofChange predMixesWrong)

/-- 'chamferlaw08.PredAngles': WHATEVER THE INPUT: true; the input reads as it did. -/
def predAnglesSpec : ChangeSpec := { name := "predAngles", fn := fun _ => fun
  | [d] => { results := [.lit (.bool true)], args := [d] }
  | _ => none }
def predAnglesRow : OpenClaim := { program := "ytapddfjimhohcaagreatdoor", sum := "e5daac199d915900528f2851426dc765b854b2ffc759988ea648db2081e896b1", func := "chamfer/chamferlaw08.PredAngles", spec := "predAngles", inPlace := ["internal/bytealg.IndexByteString", "internal/bytealg.IndexString", "math/bits.Add64", "math/bits.Sub64"], unfollowed := true, recurses := true, named := ["internal/bytealg.MaxLen", "unicode/utf8.first", "unicode/utf8.acceptRanges", "math/bits.divideError", "math/bits.overflowError"], apart := false, laid := [("unicode/utf8.acceptRanges", laid_unicode_utf8_acceptRanges), ("unicode/utf8.first", laid_unicode_utf8_first)] }
def PredAnglesSaid : Prop := predAnglesRow.holds Tryz.pinned (OpenSpec.ofChange predAnglesSpec)

/-- ITS FALSE NEIGHBOUR: 'it returns false'. Refute it at one input. -/
def predAnglesWrong : ChangeSpec := { name := "predAngles", fn := fun _ => fun
  | [d] => { results := [.lit (.bool false)], args := [d] }
  | _ => none }
def PredAnglesWrongFalsely : Prop := predAnglesRow.holds Tryz.pinned (OpenSpec.ofChange predAnglesWrong)

/-- 'chamferlaw08.PredRound': WHATEVER THE INPUT: true; the input reads as it did. -/
def predRoundSpec : ChangeSpec := { name := "predRound", fn := fun _ => fun
  | [d] => { results := [.lit (.bool true)], args := [d] }
  | _ => none }
def predRoundRow : OpenClaim := { program := "ytapddfjimhohcaagreatdoor", sum := "e5daac199d915900528f2851426dc765b854b2ffc759988ea648db2081e896b1", func := "chamfer/chamferlaw08.PredRound", spec := "predRound", inPlace := ["internal/bytealg.IndexByteString", "internal/bytealg.IndexString", "math/bits.Add64", "math/bits.Sub64"], unfollowed := true, recurses := true, named := ["internal/bytealg.MaxLen", "unicode/utf8.first", "unicode/utf8.acceptRanges", "math/bits.divideError", "math/bits.overflowError"], apart := false, laid := [("unicode/utf8.acceptRanges", laid_unicode_utf8_acceptRanges), ("unicode/utf8.first", laid_unicode_utf8_first)] }
def PredRoundSaid : Prop := predRoundRow.holds Tryz.pinned (OpenSpec.ofChange predRoundSpec)

/-- ITS FALSE NEIGHBOUR: 'it returns false'. Refute it at one input. -/
def predRoundWrong : ChangeSpec := { name := "predRound", fn := fun _ => fun
  | [d] => { results := [.lit (.bool false)], args := [d] }
  | _ => none }
def PredRoundWrongFalsely : Prop := predRoundRow.holds Tryz.pinned (OpenSpec.ofChange predRoundWrong)

/-- 'chamferlaw08.PredCrosses': WHATEVER THE INPUT: true; the input reads as it did. -/
def predCrossesSpec : ChangeSpec := { name := "predCrosses", fn := fun _ => fun
  | [d] => { results := [.lit (.bool true)], args := [d] }
  | _ => none }
def predCrossesRow : OpenClaim := { program := "ytapddfjimhohcaagreatdoor", sum := "e5daac199d915900528f2851426dc765b854b2ffc759988ea648db2081e896b1", func := "chamfer/chamferlaw08.PredCrosses", spec := "predCrosses", inPlace := ["internal/bytealg.IndexByteString", "internal/bytealg.IndexString", "math/bits.Add64", "math/bits.Sub64"], unfollowed := true, recurses := true, named := ["internal/bytealg.MaxLen", "unicode/utf8.first", "unicode/utf8.acceptRanges", "math/bits.divideError", "math/bits.overflowError"], apart := false, laid := [("unicode/utf8.acceptRanges", laid_unicode_utf8_acceptRanges), ("unicode/utf8.first", laid_unicode_utf8_first)] }
def PredCrossesSaid : Prop := predCrossesRow.holds Tryz.pinned (OpenSpec.ofChange predCrossesSpec)

/-- ITS FALSE NEIGHBOUR: 'it returns false'. Refute it at one input. -/
def predCrossesWrong : ChangeSpec := { name := "predCrosses", fn := fun _ => fun
  | [d] => { results := [.lit (.bool false)], args := [d] }
  | _ => none }
def PredCrossesWrongFalsely : Prop := predCrossesRow.holds Tryz.pinned (OpenSpec.ofChange predCrossesWrong)

/-- 'chamferlaw08.PredTurns': WHATEVER THE INPUT: true; the input reads as it did. -/
def predTurnsSpec : ChangeSpec := { name := "predTurns", fn := fun _ => fun
  | [d1, d2] => { results := [.lit (.bool true)], args := [d1, d2] }
  | _ => none }
def predTurnsRow : OpenClaim := { program := "ytapddfjimhohcaagreatdoor", sum := "e5daac199d915900528f2851426dc765b854b2ffc759988ea648db2081e896b1", func := "chamfer/chamferlaw08.PredTurns", spec := "predTurns", inPlace := ["internal/bytealg.IndexByteString", "internal/bytealg.IndexString", "math/bits.Add64", "math/bits.Sub64"], unfollowed := true, recurses := true, named := ["internal/bytealg.MaxLen", "unicode/utf8.first", "unicode/utf8.acceptRanges", "math/bits.divideError", "math/bits.overflowError"], apart := false, laid := [("unicode/utf8.acceptRanges", laid_unicode_utf8_acceptRanges), ("unicode/utf8.first", laid_unicode_utf8_first)] }
def PredTurnsSaid : Prop := predTurnsRow.holds Tryz.pinned (OpenSpec.ofChange predTurnsSpec)

/-- ITS FALSE NEIGHBOUR: 'it returns false'. Refute it at one input. -/
def predTurnsWrong : ChangeSpec := { name := "predTurns", fn := fun _ => fun
  | [d1, d2] => { results := [.lit (.bool false)], args := [d1, d2] }
  | _ => none }
def PredTurnsWrongFalsely : Prop := predTurnsRow.holds Tryz.pinned (OpenSpec.ofChange predTurnsWrong)

/-- 'chamferlaw08.PredSwaps': WHATEVER THE INPUT: true; the input reads as it did. -/
def predSwapsSpec : ChangeSpec := { name := "predSwaps", fn := fun _ => fun
  | [d] => { results := [.lit (.bool true)], args := [d] }
  | _ => none }
def predSwapsRow : OpenClaim := { program := "ytapddfjimhohcaagreatdoor", sum := "e5daac199d915900528f2851426dc765b854b2ffc759988ea648db2081e896b1", func := "chamfer/chamferlaw08.PredSwaps", spec := "predSwaps", inPlace := ["internal/bytealg.IndexByteString", "internal/bytealg.IndexString", "math/bits.Add64", "math/bits.Sub64"], unfollowed := true, recurses := true, named := ["internal/bytealg.MaxLen", "unicode/utf8.first", "unicode/utf8.acceptRanges", "math/bits.divideError", "math/bits.overflowError"], apart := false, laid := [("unicode/utf8.acceptRanges", laid_unicode_utf8_acceptRanges), ("unicode/utf8.first", laid_unicode_utf8_first)] }
def PredSwapsSaid : Prop := predSwapsRow.holds Tryz.pinned (OpenSpec.ofChange predSwapsSpec)

/-- ITS FALSE NEIGHBOUR: 'it returns false'. Refute it at one input. -/
def predSwapsWrong : ChangeSpec := { name := "predSwaps", fn := fun _ => fun
  | [d] => { results := [.lit (.bool false)], args := [d] }
  | _ => none }
def PredSwapsWrongFalsely : Prop := predSwapsRow.holds Tryz.pinned (OpenSpec.ofChange predSwapsWrong)

/- THE SECOND FORM. 'bulk': how many values and letters a reading holds, each counted each time it is reached (what is shared counts as often as it is met; a slice's spare places count too). A statement '..UptoSaid' is the law's where the arguments, and the package variables that the reading takes, are together of bulk at most 1048576: NARROWER than '..Said'. Prove '..Said' where nothing that the law and all that it calls make is longer than what came in: it says more and counts as full. Else prove '..UptoSaid'. A law counts once. -/
mutual
def uptoBulk {H : Type} : DataW H → Nat
  | .lit (.string bytes) => bytes.length + 1
  | .lit _ => 1
  | .nil => 1
  | .ptr d => uptoBulk d + 1
  | .slice elems spare => uptoBulkAll elems + uptoBulkAll spare + 1
  | .agg parts => uptoBulkAll parts + 1
  | .iface _ d => uptoBulk d + 1
  | .map entries => uptoBulkEntries entries + 1
  | .held _ => 1
def uptoBulkAll {H : Type} : List (DataW H) → Nat
  | [] => 0
  | d :: r => uptoBulk d + uptoBulkAll r
def uptoBulkEntries {H : Type} : List (Lit × DataW H) → Nat
  | [] => 0
  | x :: r => uptoBulkEntry x + uptoBulkEntries r
def uptoBulkEntry {H : Type} : Lit × DataW H → Nat
  | (.string bytes, d) => bytes.length + uptoBulk d + 1
  | (_, d) => uptoBulk d + 1
 end
def uptoSmall : (H : Type) → List (DataW H) → Bool := fun _ ds => decide (uptoBulkAll ds ≤ 1048576)
def OpenSpec.upto (s : _root_.Go.ChangeSpec) : _root_.Go.OpenSpec := { _root_.Go.OpenSpec.ofChange s with cond := some uptoSmall }

/-- 'chamferlaw08.PredWithin', WHERE WHAT IT READS IS OF BULK AT MOST 1048576: true; the input reads as it did. -/
def predWithinUptoRow : OpenClaim := { program := "ytapddfjimhohcaagreatdoor", sum := "e5daac199d915900528f2851426dc765b854b2ffc759988ea648db2081e896b1", func := "chamfer/chamferlaw08.PredWithin", spec := "predWithin", inPlace := ["internal/bytealg.IndexByteString", "internal/bytealg.IndexString", "math/bits.Add64", "math/bits.Sub64"], unfollowed := true, recurses := true, named := ["internal/bytealg.MaxLen", "unicode/utf8.first", "unicode/utf8.acceptRanges", "math/bits.divideError", "math/bits.overflowError"], apart := false, laid := [("unicode/utf8.acceptRanges", laid_unicode_utf8_acceptRanges), ("unicode/utf8.first", laid_unicode_utf8_first)], narrowed := true }
def PredWithinUptoSaid : Prop := predWithinUptoRow.holds Tryz.pinned (OpenSpec.upto predWithinSpec)

/-- 'chamferlaw08.PredSides', WHERE WHAT IT READS IS OF BULK AT MOST 1048576: true; the input reads as it did. -/
def predSidesUptoRow : OpenClaim := { program := "ytapddfjimhohcaagreatdoor", sum := "e5daac199d915900528f2851426dc765b854b2ffc759988ea648db2081e896b1", func := "chamfer/chamferlaw08.PredSides", spec := "predSides", inPlace := ["internal/bytealg.IndexByteString", "internal/bytealg.IndexString", "math/bits.Add64", "math/bits.Sub64"], unfollowed := true, recurses := true, named := ["internal/bytealg.MaxLen", "unicode/utf8.first", "unicode/utf8.acceptRanges", "math/bits.divideError", "math/bits.overflowError"], apart := false, laid := [("unicode/utf8.acceptRanges", laid_unicode_utf8_acceptRanges), ("unicode/utf8.first", laid_unicode_utf8_first)], narrowed := true }
def PredSidesUptoSaid : Prop := predSidesUptoRow.holds Tryz.pinned (OpenSpec.upto predSidesSpec)

/-- 'chamferlaw08.PredMixes', WHERE WHAT IT READS IS OF BULK AT MOST 1048576: true; the input reads as it did. -/
def predMixesUptoRow : OpenClaim := { program := "ytapddfjimhohcaagreatdoor", sum := "e5daac199d915900528f2851426dc765b854b2ffc759988ea648db2081e896b1", func := "chamfer/chamferlaw08.PredMixes", spec := "predMixes", inPlace := ["internal/bytealg.IndexByteString", "internal/bytealg.IndexString", "math/bits.Add64", "math/bits.Sub64"], unfollowed := true, recurses := true, named := ["internal/bytealg.MaxLen", "unicode/utf8.first", "unicode/utf8.acceptRanges", "math/bits.divideError", "math/bits.overflowError"], apart := false, laid := [("unicode/utf8.acceptRanges", laid_unicode_utf8_acceptRanges), ("unicode/utf8.first", laid_unicode_utf8_first)], narrowed := true }
def PredMixesUptoSaid : Prop := predMixesUptoRow.holds Tryz.pinned (OpenSpec.upto predMixesSpec)

/-- 'chamferlaw08.PredAngles', WHERE WHAT IT READS IS OF BULK AT MOST 1048576: true; the input reads as it did. -/
def predAnglesUptoRow : OpenClaim := { program := "ytapddfjimhohcaagreatdoor", sum := "e5daac199d915900528f2851426dc765b854b2ffc759988ea648db2081e896b1", func := "chamfer/chamferlaw08.PredAngles", spec := "predAngles", inPlace := ["internal/bytealg.IndexByteString", "internal/bytealg.IndexString", "math/bits.Add64", "math/bits.Sub64"], unfollowed := true, recurses := true, named := ["internal/bytealg.MaxLen", "unicode/utf8.first", "unicode/utf8.acceptRanges", "math/bits.divideError", "math/bits.overflowError"], apart := false, laid := [("unicode/utf8.acceptRanges", laid_unicode_utf8_acceptRanges), ("unicode/utf8.first", laid_unicode_utf8_first)], narrowed := true }
def PredAnglesUptoSaid : Prop := predAnglesUptoRow.holds Tryz.pinned (OpenSpec.upto predAnglesSpec)

/-- 'chamferlaw08.PredRound', WHERE WHAT IT READS IS OF BULK AT MOST 1048576: true; the input reads as it did. -/
def predRoundUptoRow : OpenClaim := { program := "ytapddfjimhohcaagreatdoor", sum := "e5daac199d915900528f2851426dc765b854b2ffc759988ea648db2081e896b1", func := "chamfer/chamferlaw08.PredRound", spec := "predRound", inPlace := ["internal/bytealg.IndexByteString", "internal/bytealg.IndexString", "math/bits.Add64", "math/bits.Sub64"], unfollowed := true, recurses := true, named := ["internal/bytealg.MaxLen", "unicode/utf8.first", "unicode/utf8.acceptRanges", "math/bits.divideError", "math/bits.overflowError"], apart := false, laid := [("unicode/utf8.acceptRanges", laid_unicode_utf8_acceptRanges), ("unicode/utf8.first", laid_unicode_utf8_first)], narrowed := true }
def PredRoundUptoSaid : Prop := predRoundUptoRow.holds Tryz.pinned (OpenSpec.upto predRoundSpec)

/-- 'chamferlaw08.PredCrosses', WHERE WHAT IT READS IS OF BULK AT MOST 1048576: true; the input reads as it did. -/
def predCrossesUptoRow : OpenClaim := { program := "ytapddfjimhohcaagreatdoor", sum := "e5daac199d915900528f2851426dc765b854b2ffc759988ea648db2081e896b1", func := "chamfer/chamferlaw08.PredCrosses", spec := "predCrosses", inPlace := ["internal/bytealg.IndexByteString", "internal/bytealg.IndexString", "math/bits.Add64", "math/bits.Sub64"], unfollowed := true, recurses := true, named := ["internal/bytealg.MaxLen", "unicode/utf8.first", "unicode/utf8.acceptRanges", "math/bits.divideError", "math/bits.overflowError"], apart := false, laid := [("unicode/utf8.acceptRanges", laid_unicode_utf8_acceptRanges), ("unicode/utf8.first", laid_unicode_utf8_first)], narrowed := true }
def PredCrossesUptoSaid : Prop := predCrossesUptoRow.holds Tryz.pinned (OpenSpec.upto predCrossesSpec)

/-- 'chamferlaw08.PredTurns', WHERE WHAT IT READS IS OF BULK AT MOST 1048576: true; the input reads as it did. -/
def predTurnsUptoRow : OpenClaim := { program := "ytapddfjimhohcaagreatdoor", sum := "e5daac199d915900528f2851426dc765b854b2ffc759988ea648db2081e896b1", func := "chamfer/chamferlaw08.PredTurns", spec := "predTurns", inPlace := ["internal/bytealg.IndexByteString", "internal/bytealg.IndexString", "math/bits.Add64", "math/bits.Sub64"], unfollowed := true, recurses := true, named := ["internal/bytealg.MaxLen", "unicode/utf8.first", "unicode/utf8.acceptRanges", "math/bits.divideError", "math/bits.overflowError"], apart := false, laid := [("unicode/utf8.acceptRanges", laid_unicode_utf8_acceptRanges), ("unicode/utf8.first", laid_unicode_utf8_first)], narrowed := true }
def PredTurnsUptoSaid : Prop := predTurnsUptoRow.holds Tryz.pinned (OpenSpec.upto predTurnsSpec)

/-- 'chamferlaw08.PredSwaps', WHERE WHAT IT READS IS OF BULK AT MOST 1048576: true; the input reads as it did. -/
def predSwapsUptoRow : OpenClaim := { program := "ytapddfjimhohcaagreatdoor", sum := "e5daac199d915900528f2851426dc765b854b2ffc759988ea648db2081e896b1", func := "chamfer/chamferlaw08.PredSwaps", spec := "predSwaps", inPlace := ["internal/bytealg.IndexByteString", "internal/bytealg.IndexString", "math/bits.Add64", "math/bits.Sub64"], unfollowed := true, recurses := true, named := ["internal/bytealg.MaxLen", "unicode/utf8.first", "unicode/utf8.acceptRanges", "math/bits.divideError", "math/bits.overflowError"], apart := false, laid := [("unicode/utf8.acceptRanges", laid_unicode_utf8_acceptRanges), ("unicode/utf8.first", laid_unicode_utf8_first)], narrowed := true }
def PredSwapsUptoSaid : Prop := predSwapsUptoRow.holds Tryz.pinned (OpenSpec.upto predSwapsSpec)

end Rows
end Go.Proofs.YtapddfjimhohcaaGreatDoor
