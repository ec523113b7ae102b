/- WholeOrder, whatever it is given: the given row. -/
import Derived.Test.YtokoagkbfdkacaaWo
import Derived.Test.YtokoagkbfdkacaaB9
namespace Go.Proofs.Ytokoagkbfdkacaa
set_option linter.all false
set_option autoImplicit true
set_option relaxedAutoImplicit true
open Go Go.Proofs Go.ChangeShapes Go.WideShapes Go.ChangeAt Go.RowKit
open Go.ChangeMaps (open_string shut_string)
set_option maxRecDepth 100000
theorem wholeOrder_lifted (os : Os) (started : os.Started) (H : Type) (enc : TypeId × Value → H) :
    ReturnsInHanded {} Try.checked os 5 .any (Rows.wholeOrderSpec.pre6 enc Try.prog Try.f5 Rows.wholeOrderRow.domain false) (Rows.wholeOrderSpec.post enc Try.prog Try.f5 false true false false) := by
  refine returnsInHanded_of_change (C := Try.checked) Try.own started (by kernel_rfl) Try.func5
    (ChangeSpec.witness6 (enc := enc) (C := Try.checked) false ⟨#[], #[.agg #[.bool false, .slice none 0 0], .agg #[.bool false, .slice none 0 0], .agg #[.bool false, .slice none 0 0]], []⟩ 12 (by kernel_rfl) (by kernel_rfl) (by kernel_rfl) (by kernel_rfl)) ?_
  intro W base args ds gs before hval0 hW _ _
  have hval : ∀ (j : Nat) t v, Try.f5.params[j]? = some t → args[j]? = some v → Value.okWide Try.prog W .any base t v := hval0
  have hW' := hW
  obtain ⟨p, q, hA0, hV0, rfl, hfz, hnd⟩ := hW
  have hA : DataW.TrodAll enc Try.prog W 0 (fun _ => true) true Try.f5.params.toList args.toList ds p := hA0
  have hps : Try.f5.params.toList = [43, 43, 43] := rfl
  rw [hps] at hA
  obtain ⟨v0, vs0, d0, ds0, p0, q0, e0, rfl, rfl, h0, hr0⟩ := trodAll_cons hA
  obtain ⟨v1, vs1, d1, ds1, p1, q1, rfl, rfl, rfl, h1, hr1⟩ := trodAll_cons hr0
  obtain ⟨v2, vs2, d2, ds2, p2, q2, rfl, rfl, rfl, h2, hr2⟩ := trodAll_cons hr1
  obtain ⟨rfl, rfl, rfl⟩ := trodAll_nil hr2
  obtain rfl : args = #[v0, v1, v2] := by cases args; simp_all
  obtain ⟨rfl, rfl⟩ := trodVars_none hV0
  have g0 := h0
  have lt0 : ∀ x ∈ p0, x.block < W.heap.size := fun x hx => by simpa using hW'.lt x (by simp [hx])
  obtain ⟨x0, rl0, ok0⟩ := AM.arg_row (by kernel_rfl : AM.Sha.chk Try.prog (.row [.bool, .slice (.int .u16)]) 43 = true) h0 (hval 0 _ _ rfl rfl)
  have g1 := h1
  have lt1 : ∀ x ∈ p1, x.block < W.heap.size := fun x hx => by simpa using hW'.lt x (by simp [hx])
  obtain ⟨x1, rl1, ok1⟩ := AM.arg_row (by kernel_rfl : AM.Sha.chk Try.prog (.row [.bool, .slice (.int .u16)]) 43 = true) h1 (hval 1 _ _ rfl rfl)
  have g2 := h2
  have lt2 : ∀ x ∈ p2, x.block < W.heap.size := fun x hx => by simpa using hW'.lt x (by simp [hx])
  obtain ⟨x2, rl2, ok2⟩ := AM.arg_row (by kernel_rfl : AM.Sha.chk Try.prog (.row [.bool, .slice (.int .u16)]) 43 = true) h2 (hval 2 _ _ rfl rfl)
  have key := AM.WholeOrder_spec (P := Try.prog) AM.prg_ok x0 x1 x2 ok0 ok1 ok2
  have hb : Try.f5.body = some (AM.bodyOf Try.f5) := rfl
  refine (CSpec.calls key Try.func5 hb (by kernel_rfl) (vs := [v0, v1, v2]) (w := W) (AM.RL.cons rl0 (AM.RL.cons rl1 (AM.RL.cons rl2 (.nil))))).mono fun e W' ⟨he, hB⟩ => ?_
  subst he
  have e1 : Rows.wholeOrderSpec.fn H ([d0, d1, d2] ++ []) = { results := [.lit (.bool true)], args := [d0, d1, d2] } := rfl
  refine ⟨_, rfl, _, _, _, [], p0 ++ (p1 ++ (p2)), [], hW', ?_, ?_, ?_, hB.frame _, fun h => by cases h⟩
  · rw [e1]; exact trodAll_mk1 (shut_bool Try.underlying4 true)
  · rw [e1]; exact trodAll_cons_mk (Below.trod Try.laidOut (by kernel_rfl) (of_decide_eq_true (by kernel_rfl)) g0 hB lt0) (trodAll_mk2 (Below.trod Try.laidOut (by kernel_rfl) (of_decide_eq_true (by kernel_rfl)) g1 hB lt1) (Below.trod Try.laidOut (by kernel_rfl) (of_decide_eq_true (by kernel_rfl)) g2 hB lt2))
  · first | exact ⟨rfl, rfl⟩ | exact rfl | trivial | constructor
theorem wholeOrder_holds : Rows.WholeOrderSaid :=
  OpenClaim.holds_of_wide 5 Try.f5 rfl rfl rfl rfl rfl rfl rfl ⟨rfl, rfl, rfl, rfl, rfl⟩ rfl rfl rfl rfl rfl (by kernel_rfl) Try.func5 (by kernel_rfl)
    (of_decide_eq_true (by kernel_rfl)) (by unfold Func.isWrapper; first | (rw [if_pos (by decide +kernel)]; kernel_rfl) | (rw [if_neg (by decide +kernel)]; exact ⟨rfl, rfl⟩))
    (fun os started H enc _ => wholeOrder_lifted os started H enc)
#print axioms wholeOrder_holds
end Go.Proofs.Ytokoagkbfdkacaa
