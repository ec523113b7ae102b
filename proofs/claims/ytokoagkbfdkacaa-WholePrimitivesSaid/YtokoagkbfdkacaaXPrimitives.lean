/- WholePrimitives, whatever it is given: the given row. -/
import Derived.Test.YtokoagkbfdkacaaWq
import Derived.Test.YtokoagkbfdkacaaB9
namespace Go.Proofs.Ytokoagkbfdkacaa
set_option linter.all false
set_option autoImplicit true
set_option relaxedAutoImplicit true
open Go Go.Proofs Go.ChangeShapes Go.WideShapes Go.ChangeAt Go.RowKit
open Go.ChangeMaps (open_string shut_string)
set_option maxRecDepth 100000
theorem wholePrimitives_lifted (os : Os) (started : os.Started) (H : Type) (enc : TypeId × Value → H) :
    ReturnsInHanded {} Try.checked os 7 .any (Rows.wholePrimitivesSpec.pre6 enc Try.prog Try.f7 Rows.wholePrimitivesRow.domain false) (Rows.wholePrimitivesSpec.post enc Try.prog Try.f7 false true false false) := by
  refine returnsInHanded_of_change (C := Try.checked) Try.own started (by kernel_rfl) Try.func7
    (ChangeSpec.witness6 (enc := enc) (C := Try.checked) false ⟨#[], #[.slice none 0 0], []⟩ 12 (by kernel_rfl) (by kernel_rfl) (by kernel_rfl) (by kernel_rfl)) ?_
  intro W base args ds gs before hval0 hW _ _
  have hval : ∀ (j : Nat) t v, Try.f7.params[j]? = some t → args[j]? = some v → Value.okWide Try.prog W .any base t v := hval0
  have hW' := hW
  obtain ⟨p, q, hA0, hV0, rfl, hfz, hnd⟩ := hW
  have hA : DataW.TrodAll enc Try.prog W 0 (fun _ => true) true Try.f7.params.toList args.toList ds p := hA0
  have hps : Try.f7.params.toList = [71] := rfl
  rw [hps] at hA
  obtain ⟨v0, vs0, d0, ds0, p0, q0, e0, rfl, rfl, h0, hr0⟩ := trodAll_cons hA
  obtain ⟨rfl, rfl, rfl⟩ := trodAll_nil hr0
  obtain rfl : args = #[v0] := by cases args; simp_all
  obtain ⟨rfl, rfl⟩ := trodVars_none hV0
  have g0 := h0
  have lt0 : ∀ x ∈ p0, x.block < W.heap.size := fun x hx => by simpa using hW'.lt x (by simp [hx])
  obtain ⟨x0, rl0, ok0⟩ := arg_slice (by kernel_rfl : AM.Sha.chk Try.prog (.slice (.row [.bool, .slice (.int .u16)])) 71 = true) h0 (hval 0 _ _ rfl rfl)
  have key := AM.WholePrimitives_spec (P := Try.prog) AM.prg_ok x0 ok0
  have hb : Try.f7.body = some (AM.bodyOf Try.f7) := rfl
  refine (CSpec.calls key Try.func7 hb (by kernel_rfl) (vs := [v0]) (w := W) (AM.RL.cons rl0 (.nil))).mono fun e W' ⟨he, hB⟩ => ?_
  subst he
  have e1 : Rows.wholePrimitivesSpec.fn H ([d0] ++ []) = { results := [.lit (.bool true)], args := [d0] } := rfl
  refine ⟨_, rfl, _, _, _, [], p0, [], hW', ?_, ?_, ?_, hB.frame _, fun h => by cases h⟩
  · rw [e1]; exact trodAll_mk1 (shut_bool Try.underlying4 true)
  · rw [e1]; exact trodAll_mk1 (Below.trod Try.laidOut (by kernel_rfl) (of_decide_eq_true (by kernel_rfl)) g0 hB lt0)
  · first | exact ⟨rfl, rfl⟩ | exact rfl | trivial | constructor
theorem wholePrimitives_holds : Rows.WholePrimitivesSaid :=
  OpenClaim.holds_of_wide 7 Try.f7 rfl rfl rfl rfl rfl rfl rfl ⟨rfl, rfl, rfl, rfl, rfl⟩ rfl rfl rfl rfl rfl (by kernel_rfl) Try.func7 (by kernel_rfl)
    (of_decide_eq_true (by kernel_rfl)) (by unfold Func.isWrapper; first | (rw [if_pos (by decide +kernel)]; kernel_rfl) | (rw [if_neg (by decide +kernel)]; exact ⟨rfl, rfl⟩))
    (fun os started H enc _ => wholePrimitives_lifted os started H enc)
#print axioms wholePrimitives_holds
end Go.Proofs.Ytokoagkbfdkacaa
