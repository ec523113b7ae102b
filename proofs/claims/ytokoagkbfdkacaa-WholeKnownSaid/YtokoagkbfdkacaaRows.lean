/-
  No cell of these rows narrows 'for every input' (looked for: loops, veiled, ifaces, maps, wideKeys, modest, calm, conditions, laid).
  DERIVED. THE GIVEN ROWS OF THIS SEAT. 9 by the template 'for every input the law returns true; each argument reads behind the call as it read before'; 0 by the template 'total and deterministic' (their statements: YtokoagkbfdkacaaTotals.lean).
  GIVEN WITH THE SEED: the statements are not yours to turn. If you find one false, say at which input.
  Laid BY PROGRAM, IN A SANDBOX (cutbox-rows.mjs): the forced cells as the released guide's own fill.sh prints them over the translation 17fe636a21d62d1c… (all of the seat's roots in one cut). By AI agents, Wed Nov 11 2026. No macro, syntax, notation, axiom, sorry.
-/
import Derived.Test.YtokoagkbfdkacaaChecked
import GoSem.Claim
import GoSem.ClaimJoined
import GoSem.ClaimMapViews
import Derived.JoinedTies
import Derived.KernelRfl
namespace Go.Proofs.Ytokoagkbfdkacaa
/- THE CELL 'sum', in the pinned program and in every row, IS THE sha256 OF THE DUMP (.gsa) THAT YtokoagkbfdkacaaProg.lean LOADS. Nothing in Lean hashes anything: it is a label: what it is worth is what the hold of that sum in a sandbox is worth. -/
noncomputable def Try.pinned : Pinned := { name := "ytokoagkbfdkacaa", sum := "17fe636a21d62d1c419eee226532d06571bdd4c9a42da7c44b98be87f142dae2", checked := Try.checked }
namespace Rows
def none {H : Type} : Left H := { results := [], args := [] }

/-- 'chamferlaw02.WholeTexts': WHATEVER THE INPUT: true; the input reads as it did. -/
def wholeTextsSpec : ChangeSpec := { name := "wholeTexts", fn := fun _ => fun
  | [d] => { results := [.lit (.bool true)], args := [d] }
  | _ => none }
def wholeTextsRow : OpenClaim := { program := "ytokoagkbfdkacaa", sum := "17fe636a21d62d1c419eee226532d06571bdd4c9a42da7c44b98be87f142dae2", func := "chamfer/chamferlaw02.WholeTexts", spec := "wholeTexts", inPlace := ["math/bits.Add64", "math/bits.Sub64"], named := ["math/bits.divideError", "math/bits.overflowError"], apart := false }
def WholeTextsSaid : Prop := wholeTextsRow.holds Try.pinned (OpenSpec.ofChange wholeTextsSpec)

/-- ITS FALSE NEIGHBOUR: 'it returns false'. Refute it at one input. -/
def wholeTextsWrong : ChangeSpec := { name := "wholeTexts", fn := fun _ => fun
  | [d] => { results := [.lit (.bool false)], args := [d] }
  | _ => none }
def WholeTextsWrongFalsely : Prop := wholeTextsRow.holds Try.pinned (OpenSpec.ofChange wholeTextsWrong)

/-- 'chamferlaw02.WholeQuos': WHATEVER THE INPUT: true; the input reads as it did. -/
def wholeQuosSpec : ChangeSpec := { name := "wholeQuos", fn := fun _ => fun
  | [d1, d2] => { results := [.lit (.bool true)], args := [d1, d2] }
  | _ => none }
def wholeQuosRow : OpenClaim := { program := "ytokoagkbfdkacaa", sum := "17fe636a21d62d1c419eee226532d06571bdd4c9a42da7c44b98be87f142dae2", func := "chamfer/chamferlaw02.WholeQuos", spec := "wholeQuos", inPlace := ["math/bits.Add64", "math/bits.Sub64"], named := ["math/bits.divideError", "math/bits.overflowError"], apart := false }
def WholeQuosSaid : Prop := wholeQuosRow.holds Try.pinned (OpenSpec.ofChange wholeQuosSpec)

/-- ITS FALSE NEIGHBOUR: 'it returns false'. Refute it at one input. -/
def wholeQuosWrong : ChangeSpec := { name := "wholeQuos", fn := fun _ => fun
  | [d1, d2] => { results := [.lit (.bool false)], args := [d1, d2] }
  | _ => none }
def WholeQuosWrongFalsely : Prop := wholeQuosRow.holds Try.pinned (OpenSpec.ofChange wholeQuosWrong)

/-- 'chamferlaw02.WholeOrder': WHATEVER THE INPUT: true; the input reads as it did. -/
def wholeOrderSpec : ChangeSpec := { name := "wholeOrder", fn := fun _ => fun
  | [d1, d2, d3] => { results := [.lit (.bool true)], args := [d1, d2, d3] }
  | _ => none }
def wholeOrderRow : OpenClaim := { program := "ytokoagkbfdkacaa", sum := "17fe636a21d62d1c419eee226532d06571bdd4c9a42da7c44b98be87f142dae2", func := "chamfer/chamferlaw02.WholeOrder", spec := "wholeOrder", inPlace := ["math/bits.Add64", "math/bits.Sub64"], named := ["math/bits.divideError", "math/bits.overflowError"], apart := false }
def WholeOrderSaid : Prop := wholeOrderRow.holds Try.pinned (OpenSpec.ofChange wholeOrderSpec)

/-- ITS FALSE NEIGHBOUR: 'it returns false'. Refute it at one input. -/
def wholeOrderWrong : ChangeSpec := { name := "wholeOrder", fn := fun _ => fun
  | [d1, d2, d3] => { results := [.lit (.bool false)], args := [d1, d2, d3] }
  | _ => none }
def WholeOrderWrongFalsely : Prop := wholeOrderRow.holds Try.pinned (OpenSpec.ofChange wholeOrderWrong)

/-- 'chamferlaw02.WholeWords': WHATEVER THE INPUT: true; the input reads as it did. -/
def wholeWordsSpec : ChangeSpec := { name := "wholeWords", fn := fun _ => fun
  | [d1, d2, d3, d4] => { results := [.lit (.bool true)], args := [d1, d2, d3, d4] }
  | _ => none }
def wholeWordsRow : OpenClaim := { program := "ytokoagkbfdkacaa", sum := "17fe636a21d62d1c419eee226532d06571bdd4c9a42da7c44b98be87f142dae2", func := "chamfer/chamferlaw02.WholeWords", spec := "wholeWords", inPlace := ["math/bits.Add64", "math/bits.Sub64"], named := ["math/bits.divideError", "math/bits.overflowError"], apart := false }
def WholeWordsSaid : Prop := wholeWordsRow.holds Try.pinned (OpenSpec.ofChange wholeWordsSpec)

/-- ITS FALSE NEIGHBOUR: 'it returns false'. Refute it at one input. -/
def wholeWordsWrong : ChangeSpec := { name := "wholeWords", fn := fun _ => fun
  | [d1, d2, d3, d4] => { results := [.lit (.bool false)], args := [d1, d2, d3, d4] }
  | _ => none }
def WholeWordsWrongFalsely : Prop := wholeWordsRow.holds Try.pinned (OpenSpec.ofChange wholeWordsWrong)

/-- 'chamferlaw02.WholePrimitives': WHATEVER THE INPUT: true; the input reads as it did. -/
def wholePrimitivesSpec : ChangeSpec := { name := "wholePrimitives", fn := fun _ => fun
  | [d] => { results := [.lit (.bool true)], args := [d] }
  | _ => none }
def wholePrimitivesRow : OpenClaim := { program := "ytokoagkbfdkacaa", sum := "17fe636a21d62d1c419eee226532d06571bdd4c9a42da7c44b98be87f142dae2", func := "chamfer/chamferlaw02.WholePrimitives", spec := "wholePrimitives", inPlace := ["math/bits.Add64", "math/bits.Sub64"], unfollowed := true, recurses := true, named := ["math/bits.divideError", "math/bits.overflowError"], apart := false }
def WholePrimitivesSaid : Prop := wholePrimitivesRow.holds Try.pinned (OpenSpec.ofChange wholePrimitivesSpec)

/-- ITS FALSE NEIGHBOUR: 'it returns false'. Refute it at one input. -/
def wholePrimitivesWrong : ChangeSpec := { name := "wholePrimitives", fn := fun _ => fun
  | [d] => { results := [.lit (.bool false)], args := [d] }
  | _ => none }
def WholePrimitivesWrongFalsely : Prop := wholePrimitivesRow.holds Try.pinned (OpenSpec.ofChange wholePrimitivesWrong)

/-- 'chamferlaw02.WholeSums': WHATEVER THE INPUT: true; the input reads as it did. -/
def wholeSumsSpec : ChangeSpec := { name := "wholeSums", fn := fun _ => fun
  | [d1, d2] => { results := [.lit (.bool true)], args := [d1, d2] }
  | _ => none }
def wholeSumsRow : OpenClaim := { program := "ytokoagkbfdkacaa", sum := "17fe636a21d62d1c419eee226532d06571bdd4c9a42da7c44b98be87f142dae2", func := "chamfer/chamferlaw02.WholeSums", spec := "wholeSums", inPlace := ["math/bits.Add64", "math/bits.Sub64"], named := ["math/bits.divideError", "math/bits.overflowError"], apart := false }
def WholeSumsSaid : Prop := wholeSumsRow.holds Try.pinned (OpenSpec.ofChange wholeSumsSpec)

/-- ITS FALSE NEIGHBOUR: 'it returns false'. Refute it at one input. -/
def wholeSumsWrong : ChangeSpec := { name := "wholeSums", fn := fun _ => fun
  | [d1, d2] => { results := [.lit (.bool false)], args := [d1, d2] }
  | _ => none }
def WholeSumsWrongFalsely : Prop := wholeSumsRow.holds Try.pinned (OpenSpec.ofChange wholeSumsWrong)

/-- 'chamferlaw02.WholeRing': WHATEVER THE INPUT: true; the input reads as it did. -/
def wholeRingSpec : ChangeSpec := { name := "wholeRing", fn := fun _ => fun
  | [d1, d2, d3] => { results := [.lit (.bool true)], args := [d1, d2, d3] }
  | _ => none }
def wholeRingRow : OpenClaim := { program := "ytokoagkbfdkacaa", sum := "17fe636a21d62d1c419eee226532d06571bdd4c9a42da7c44b98be87f142dae2", func := "chamfer/chamferlaw02.WholeRing", spec := "wholeRing", inPlace := ["math/bits.Add64", "math/bits.Sub64"], named := ["math/bits.divideError", "math/bits.overflowError"], apart := false }
def WholeRingSaid : Prop := wholeRingRow.holds Try.pinned (OpenSpec.ofChange wholeRingSpec)

/-- ITS FALSE NEIGHBOUR: 'it returns false'. Refute it at one input. -/
def wholeRingWrong : ChangeSpec := { name := "wholeRing", fn := fun _ => fun
  | [d1, d2, d3] => { results := [.lit (.bool false)], args := [d1, d2, d3] }
  | _ => none }
def WholeRingWrongFalsely : Prop := wholeRingRow.holds Try.pinned (OpenSpec.ofChange wholeRingWrong)

/-- 'chamferlaw02.WholeKnown': WHATEVER THE INPUT: true; the input reads as it did. -/
def wholeKnownSpec : ChangeSpec := { name := "wholeKnown", fn := fun _ => fun
  | [] => { results := [.lit (.bool true)], args := [] }
  | _ => none }
def wholeKnownRow : OpenClaim := { program := "ytokoagkbfdkacaa", sum := "17fe636a21d62d1c419eee226532d06571bdd4c9a42da7c44b98be87f142dae2", func := "chamfer/chamferlaw02.WholeKnown", spec := "wholeKnown", inPlace := ["math/bits.Add64", "math/bits.Sub64"], unfollowed := true, recurses := true, named := ["math/bits.divideError", "math/bits.overflowError"], apart := false }
def WholeKnownSaid : Prop := wholeKnownRow.holds Try.pinned (OpenSpec.ofChange wholeKnownSpec)

/-- ITS FALSE NEIGHBOUR: 'it returns false'. Refute it at one input. -/
def wholeKnownWrong : ChangeSpec := { name := "wholeKnown", fn := fun _ => fun
  | [] => { results := [.lit (.bool false)], args := [] }
  | _ => none }
def WholeKnownWrongFalsely : Prop := wholeKnownRow.holds Try.pinned (OpenSpec.ofChange wholeKnownWrong)

/-- 'chamferlaw02.WholeCoprime': WHATEVER THE INPUT: true; the input reads as it did. -/
def wholeCoprimeSpec : ChangeSpec := { name := "wholeCoprime", fn := fun _ => fun
  | [d] => { results := [.lit (.bool true)], args := [d] }
  | _ => none }
def wholeCoprimeRow : OpenClaim := { program := "ytokoagkbfdkacaa", sum := "17fe636a21d62d1c419eee226532d06571bdd4c9a42da7c44b98be87f142dae2", func := "chamfer/chamferlaw02.WholeCoprime", spec := "wholeCoprime", inPlace := ["math/bits.Add64", "math/bits.Sub64"], unfollowed := true, recurses := true, named := ["math/bits.divideError", "math/bits.overflowError"], apart := false }
def WholeCoprimeSaid : Prop := wholeCoprimeRow.holds Try.pinned (OpenSpec.ofChange wholeCoprimeSpec)

/-- ITS FALSE NEIGHBOUR: 'it returns false'. Refute it at one input. -/
def wholeCoprimeWrong : ChangeSpec := { name := "wholeCoprime", fn := fun _ => fun
  | [d] => { results := [.lit (.bool false)], args := [d] }
  | _ => none }
def WholeCoprimeWrongFalsely : Prop := wholeCoprimeRow.holds Try.pinned (OpenSpec.ofChange wholeCoprimeWrong)

/- THE SECOND FORM. 'bulk': how many values and letters a reading holds, each counted each time it is reached (what is shared counts as often as it is met; a slice's spare places count too). A statement '..UptoSaid' is the law's where the arguments, and the package variables that the reading takes, are together of bulk at most 1048576: NARROWER than '..Said'. Prove '..Said' where nothing that the law and all that it calls make is longer than what came in: it says more and counts as full. Else prove '..UptoSaid'. A law counts once. -/
mutual
def uptoBulk {H : Type} : DataW H → Nat
  | .lit (.string bytes) => bytes.length + 1
  | .lit _ => 1
  | .nil => 1
  | .ptr d => uptoBulk d + 1
  | .slice elems spare => uptoBulkAll elems + uptoBulkAll spare + 1
  | .agg parts => uptoBulkAll parts + 1
  | .iface _ d => uptoBulk d + 1
  | .map entries => uptoBulkEntries entries + 1
  | .held _ => 1
def uptoBulkAll {H : Type} : List (DataW H) → Nat
  | [] => 0
  | d :: r => uptoBulk d + uptoBulkAll r
def uptoBulkEntries {H : Type} : List (Lit × DataW H) → Nat
  | [] => 0
  | x :: r => uptoBulkEntry x + uptoBulkEntries r
def uptoBulkEntry {H : Type} : Lit × DataW H → Nat
  | (.string bytes, d) => bytes.length + uptoBulk d + 1
  | (_, d) => uptoBulk d + 1
 end
def uptoSmall : (H : Type) → List (DataW H) → Bool := fun _ ds => decide (uptoBulkAll ds ≤ 1048576)
def OpenSpec.upto (s : _root_.Go.ChangeSpec) : _root_.Go.OpenSpec := { _root_.Go.OpenSpec.ofChange s with cond := some uptoSmall }

/-- 'chamferlaw02.WholeTexts', WHERE WHAT IT READS IS OF BULK AT MOST 1048576: true; the input reads as it did. -/
def wholeTextsUptoRow : OpenClaim := { program := "ytokoagkbfdkacaa", sum := "17fe636a21d62d1c419eee226532d06571bdd4c9a42da7c44b98be87f142dae2", func := "chamfer/chamferlaw02.WholeTexts", spec := "wholeTexts", inPlace := ["math/bits.Add64", "math/bits.Sub64"], named := ["math/bits.divideError", "math/bits.overflowError"], apart := false, narrowed := true }
def WholeTextsUptoSaid : Prop := wholeTextsUptoRow.holds Try.pinned (OpenSpec.upto wholeTextsSpec)

/-- 'chamferlaw02.WholeQuos', WHERE WHAT IT READS IS OF BULK AT MOST 1048576: true; the input reads as it did. -/
def wholeQuosUptoRow : OpenClaim := { program := "ytokoagkbfdkacaa", sum := "17fe636a21d62d1c419eee226532d06571bdd4c9a42da7c44b98be87f142dae2", func := "chamfer/chamferlaw02.WholeQuos", spec := "wholeQuos", inPlace := ["math/bits.Add64", "math/bits.Sub64"], named := ["math/bits.divideError", "math/bits.overflowError"], apart := false, narrowed := true }
def WholeQuosUptoSaid : Prop := wholeQuosUptoRow.holds Try.pinned (OpenSpec.upto wholeQuosSpec)

/-- 'chamferlaw02.WholeOrder', WHERE WHAT IT READS IS OF BULK AT MOST 1048576: true; the input reads as it did. -/
def wholeOrderUptoRow : OpenClaim := { program := "ytokoagkbfdkacaa", sum := "17fe636a21d62d1c419eee226532d06571bdd4c9a42da7c44b98be87f142dae2", func := "chamfer/chamferlaw02.WholeOrder", spec := "wholeOrder", inPlace := ["math/bits.Add64", "math/bits.Sub64"], named := ["math/bits.divideError", "math/bits.overflowError"], apart := false, narrowed := true }
def WholeOrderUptoSaid : Prop := wholeOrderUptoRow.holds Try.pinned (OpenSpec.upto wholeOrderSpec)

/-- 'chamferlaw02.WholeWords', WHERE WHAT IT READS IS OF BULK AT MOST 1048576: true; the input reads as it did. -/
def wholeWordsUptoRow : OpenClaim := { program := "ytokoagkbfdkacaa", sum := "17fe636a21d62d1c419eee226532d06571bdd4c9a42da7c44b98be87f142dae2", func := "chamfer/chamferlaw02.WholeWords", spec := "wholeWords", inPlace := ["math/bits.Add64", "math/bits.Sub64"], named := ["math/bits.divideError", "math/bits.overflowError"], apart := false, narrowed := true }
def WholeWordsUptoSaid : Prop := wholeWordsUptoRow.holds Try.pinned (OpenSpec.upto wholeWordsSpec)

/-- 'chamferlaw02.WholePrimitives', WHERE WHAT IT READS IS OF BULK AT MOST 1048576: true; the input reads as it did. -/
def wholePrimitivesUptoRow : OpenClaim := { program := "ytokoagkbfdkacaa", sum := "17fe636a21d62d1c419eee226532d06571bdd4c9a42da7c44b98be87f142dae2", func := "chamfer/chamferlaw02.WholePrimitives", spec := "wholePrimitives", inPlace := ["math/bits.Add64", "math/bits.Sub64"], unfollowed := true, recurses := true, named := ["math/bits.divideError", "math/bits.overflowError"], apart := false, narrowed := true }
def WholePrimitivesUptoSaid : Prop := wholePrimitivesUptoRow.holds Try.pinned (OpenSpec.upto wholePrimitivesSpec)

/-- 'chamferlaw02.WholeSums', WHERE WHAT IT READS IS OF BULK AT MOST 1048576: true; the input reads as it did. -/
def wholeSumsUptoRow : OpenClaim := { program := "ytokoagkbfdkacaa", sum := "17fe636a21d62d1c419eee226532d06571bdd4c9a42da7c44b98be87f142dae2", func := "chamfer/chamferlaw02.WholeSums", spec := "wholeSums", inPlace := ["math/bits.Add64", "math/bits.Sub64"], named := ["math/bits.divideError", "math/bits.overflowError"], apart := false, narrowed := true }
def WholeSumsUptoSaid : Prop := wholeSumsUptoRow.holds Try.pinned (OpenSpec.upto wholeSumsSpec)

/-- 'chamferlaw02.WholeRing', WHERE WHAT IT READS IS OF BULK AT MOST 1048576: true; the input reads as it did. -/
def wholeRingUptoRow : OpenClaim := { program := "ytokoagkbfdkacaa", sum := "17fe636a21d62d1c419eee226532d06571bdd4c9a42da7c44b98be87f142dae2", func := "chamfer/chamferlaw02.WholeRing", spec := "wholeRing", inPlace := ["math/bits.Add64", "math/bits.Sub64"], named := ["math/bits.divideError", "math/bits.overflowError"], apart := false, narrowed := true }
def WholeRingUptoSaid : Prop := wholeRingUptoRow.holds Try.pinned (OpenSpec.upto wholeRingSpec)

/-- 'chamferlaw02.WholeKnown', WHERE WHAT IT READS IS OF BULK AT MOST 1048576: true; the input reads as it did. -/
def wholeKnownUptoRow : OpenClaim := { program := "ytokoagkbfdkacaa", sum := "17fe636a21d62d1c419eee226532d06571bdd4c9a42da7c44b98be87f142dae2", func := "chamfer/chamferlaw02.WholeKnown", spec := "wholeKnown", inPlace := ["math/bits.Add64", "math/bits.Sub64"], unfollowed := true, recurses := true, named := ["math/bits.divideError", "math/bits.overflowError"], apart := false, narrowed := true }
def WholeKnownUptoSaid : Prop := wholeKnownUptoRow.holds Try.pinned (OpenSpec.upto wholeKnownSpec)

/-- 'chamferlaw02.WholeCoprime', WHERE WHAT IT READS IS OF BULK AT MOST 1048576: true; the input reads as it did. -/
def wholeCoprimeUptoRow : OpenClaim := { program := "ytokoagkbfdkacaa", sum := "17fe636a21d62d1c419eee226532d06571bdd4c9a42da7c44b98be87f142dae2", func := "chamfer/chamferlaw02.WholeCoprime", spec := "wholeCoprime", inPlace := ["math/bits.Add64", "math/bits.Sub64"], unfollowed := true, recurses := true, named := ["math/bits.divideError", "math/bits.overflowError"], apart := false, narrowed := true }
def WholeCoprimeUptoSaid : Prop := wholeCoprimeUptoRow.holds Try.pinned (OpenSpec.upto wholeCoprimeSpec)

end Rows
end Go.Proofs.Ytokoagkbfdkacaa
