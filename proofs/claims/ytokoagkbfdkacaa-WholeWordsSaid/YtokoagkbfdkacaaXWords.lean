/- WholeWords, whatever it is given: the given row. -/
import Derived.Test.YtokoagkbfdkacaaWo
import Derived.Test.YtokoagkbfdkacaaB9
namespace Go.Proofs.Ytokoagkbfdkacaa
set_option linter.all false
set_option autoImplicit true
set_option relaxedAutoImplicit true
open Go Go.Proofs Go.ChangeShapes Go.WideShapes Go.ChangeAt Go.RowKit
open Go.ChangeMaps (open_string shut_string)
set_option maxRecDepth 100000
theorem wholeWords_lifted (os : Os) (started : os.Started) (H : Type) (enc : TypeId × Value → H) :
    ReturnsInHanded {} Try.checked os 6 .any (Rows.wholeWordsSpec.pre6 enc Try.prog Try.f6 Rows.wholeWordsRow.domain false) (Rows.wholeWordsSpec.post enc Try.prog Try.f6 false true false false) := by
  refine returnsInHanded_of_change (C := Try.checked) Try.own started (by kernel_rfl) Try.func6
    (ChangeSpec.witness6 (enc := enc) (C := Try.checked) false ⟨#[], #[.int .i64 0, .int .i64 0, .bool false, .int .u64 0], []⟩ 12 (by kernel_rfl) (by kernel_rfl) (by kernel_rfl) (by kernel_rfl)) ?_
  intro W base args ds gs before hval0 hW _ _
  have hval : ∀ (j : Nat) t v, Try.f6.params[j]? = some t → args[j]? = some v → Value.okWide Try.prog W .any base t v := hval0
  have hW' := hW
  obtain ⟨p, q, hA0, hV0, rfl, hfz, hnd⟩ := hW
  have hA : DataW.TrodAll enc Try.prog W 0 (fun _ => true) true Try.f6.params.toList args.toList ds p := hA0
  have hps : Try.f6.params.toList = [2, 2, 4, 23] := rfl
  rw [hps] at hA
  obtain ⟨v0, vs0, d0, ds0, p0, q0, e0, rfl, rfl, h0, hr0⟩ := trodAll_cons hA
  obtain ⟨v1, vs1, d1, ds1, p1, q1, rfl, rfl, rfl, h1, hr1⟩ := trodAll_cons hr0
  obtain ⟨v2, vs2, d2, ds2, p2, q2, rfl, rfl, rfl, h2, hr2⟩ := trodAll_cons hr1
  obtain ⟨v3, vs3, d3, ds3, p3, q3, rfl, rfl, rfl, h3, hr3⟩ := trodAll_cons hr2
  obtain ⟨rfl, rfl, rfl⟩ := trodAll_nil hr3
  obtain rfl : args = #[v0, v1, v2, v3] := by cases args; simp_all
  obtain ⟨rfl, rfl⟩ := trodVars_none hV0
  obtain ⟨x0, rfl, rfl, rfl, w0⟩ := open_int (t := 2) Try.underlying2 (hval 0 _ _ rfl rfl) h0
  have hn0 : -9223372036854775808 ≤ x0 ∧ x0 ≤ 9223372036854775807 := by simp [Lit.wf, IntKind.min, IntKind.max, IntKind.signed, IntKind.bits] at w0; omega
  obtain ⟨x1, rfl, rfl, rfl, w1⟩ := open_int (t := 2) Try.underlying2 (hval 1 _ _ rfl rfl) h1
  have hn1 : -9223372036854775808 ≤ x1 ∧ x1 ≤ 9223372036854775807 := by simp [Lit.wf, IntKind.min, IntKind.max, IntKind.signed, IntKind.bits] at w1; omega
  obtain ⟨x2, rfl, rfl, rfl⟩ := open_bool (t := 4) Try.underlying4 (hval 2 _ _ rfl rfl) h2
  obtain ⟨x3, rfl, rfl, rfl, w3⟩ := open_int (t := 23) Try.underlying23 (hval 3 _ _ rfl rfl) h3
  have hn3 : 0 ≤ x3 ∧ x3 < 18446744073709551616 := by simp [Lit.wf, IntKind.min, IntKind.max, IntKind.signed, IntKind.bits] at w3; omega
  have key := AM.WholeWords_spec (P := Try.prog) AM.prg_ok x0 hn0 x1 hn1 x2 x3.toNat (by omega)
  rw [Int.toNat_of_nonneg hn3.1] at key
  have hb : Try.f6.body = some (AM.bodyOf Try.f6) := rfl
  refine (CSpec.calls key Try.func6 hb (by kernel_rfl) (vs := [.int .i64 x0, .int .i64 x1, .bool x2, .int .u64 x3]) (w := W) (.int _ _ (.int _ _ (.bool _ (.int _ _ (.nil)))))).mono fun e W' ⟨he, hB⟩ => ?_
  subst he
  have e1 : Rows.wholeWordsSpec.fn H ([.lit (.int .i64 x0), .lit (.int .i64 x1), .lit (.bool x2), .lit (.int .u64 x3)] ++ []) = { results := [.lit (.bool true)], args := [.lit (.int .i64 x0), .lit (.int .i64 x1), .lit (.bool x2), .lit (.int .u64 x3)] } := rfl
  refine ⟨_, rfl, _, _, _, [], ([] : List MemPlace) ++ (([] : List MemPlace) ++ (([] : List MemPlace) ++ (([] : List MemPlace)))), [], hW', ?_, ?_, ?_, hB.frame _, fun h => by cases h⟩
  · rw [e1]; exact trodAll_mk1 (shut_bool Try.underlying4 true)
  · rw [e1]; exact trodAll_cons_mk (shut_int Try.underlying2 w0) (trodAll_cons_mk (shut_int Try.underlying2 w1) (trodAll_mk2 (shut_bool Try.underlying4 x2) (shut_int Try.underlying23 w3)))
  · first | exact ⟨rfl, rfl⟩ | exact rfl | trivial | constructor
theorem wholeWords_holds : Rows.WholeWordsSaid :=
  OpenClaim.holds_of_wide 6 Try.f6 rfl rfl rfl rfl rfl rfl rfl ⟨rfl, rfl, rfl, rfl, rfl⟩ rfl rfl rfl rfl rfl (by kernel_rfl) Try.func6 (by kernel_rfl)
    (of_decide_eq_true (by kernel_rfl)) (by unfold Func.isWrapper; first | (rw [if_pos (by decide +kernel)]; kernel_rfl) | (rw [if_neg (by decide +kernel)]; exact ⟨rfl, rfl⟩))
    (fun os started H enc _ => wholeWords_lifted os started H enc)
#print axioms wholeWords_holds
end Go.Proofs.Ytokoagkbfdkacaa
