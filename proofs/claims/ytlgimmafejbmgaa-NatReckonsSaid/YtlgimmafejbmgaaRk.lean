/- NatReckons, whatever it is given: the given row. -/
import Derived.Test.YtlgimmafejbmgaaRh
import Derived.Test.YtlgimmafejbmgaaRw
namespace Go.Proofs.Ytlgimmafejbmgaa
set_option linter.all false
set_option autoImplicit true
set_option relaxedAutoImplicit true
open Go Go.Proofs Go.ChangeShapes Go.WideShapes Go.ChangeAt Go.RowKit
open Go.ChangeMaps (open_string shut_string)
set_option maxRecDepth 100000
theorem natReckons_lifted (os : Os) (started : os.Started) (H : Type) (enc : TypeId × Value → H) :
    ReturnsInHanded {} Try.checked os 7 .any (Rows.natReckonsSpec.pre6 enc Try.prog Try.f7 Rows.natReckonsRow.domain false) (Rows.natReckonsSpec.post enc Try.prog Try.f7 false true false false) := by
  refine returnsInHanded_of_change (C := Try.checked) Try.own started (by kernel_rfl) Try.func7
    (ChangeSpec.witness6 (enc := enc) (C := Try.checked) false ⟨#[], #[.string ⟨#[]⟩, .string ⟨#[]⟩], []⟩ 8 (by kernel_rfl) (by kernel_rfl) (by kernel_rfl) (by kernel_rfl)) ?_
  intro W base args ds gs before hval0 hW _ _
  have hval : ∀ (j : Nat) t v, Try.f7.params[j]? = some t → args[j]? = some v → Value.okWide Try.prog W .any base t v := hval0
  have hW' := hW
  obtain ⟨p, q, hA0, hV0, rfl, hfz, hnd⟩ := hW
  have hA : DataW.TrodAll enc Try.prog W 0 (fun _ => true) true Try.f7.params.toList args.toList ds p := hA0
  have hps : Try.f7.params.toList = [9, 9] := rfl
  rw [hps] at hA
  obtain ⟨v0, vs0, d0, ds0, p0, q0, e0, rfl, rfl, h0, hr0⟩ := trodAll_cons hA
  obtain ⟨v1, vs1, d1, ds1, p1, q1, rfl, rfl, rfl, h1, hr1⟩ := trodAll_cons hr0
  obtain ⟨rfl, rfl, rfl⟩ := trodAll_nil hr1
  obtain rfl : args = #[v0, v1] := by cases args; simp_all
  obtain ⟨rfl, rfl⟩ := trodVars_none hV0
  obtain ⟨x0, rfl, rfl, rfl, w0⟩ := open_string (t := 9) Try.underlying9 (hval 0 _ _ rfl rfl) h0
  obtain ⟨x1, rfl, rfl, rfl, w1⟩ := open_string (t := 9) Try.underlying9 (hval 1 _ _ rfl rfl) h1
  have key := AM.NatReckons_spec (P := Try.prog) AM.prg_ok x0 x1
  have hb : Try.f7.body = some (AM.bodyOf Try.f7) := rfl
  refine (CSpec.calls key Try.func7 hb (by kernel_rfl) (vs := [.string x0, .string x1]) (w := W) (.str _ (.str _ .nil))).mono fun e W' ⟨he, hB⟩ => ?_
  subst he
  have e1 : Rows.natReckonsSpec.fn H ([.lit (.string x0.data.toList), .lit (.string x1.data.toList)] ++ []) = { results := [.lit (.bool true)], args := [.lit (.string x0.data.toList), .lit (.string x1.data.toList)] } := rfl
  refine ⟨_, rfl, _, _, _, [], [], [], hW', ?_, ?_, ?_, hB.frame _, fun h => by cases h⟩
  · rw [e1]; exact trodAll_mk1 (shut_bool Try.underlying4 true)
  · rw [e1]; exact trodAll_mk2 (shut_string Try.underlying9 w0) (shut_string Try.underlying9 w1)
  · first | exact ⟨rfl, rfl⟩ | exact rfl | trivial | constructor
theorem natReckons_holds : Rows.NatReckonsSaid :=
  OpenClaim.holds_of_wide 7 Try.f7 rfl rfl rfl rfl rfl rfl rfl ⟨rfl, rfl, rfl, rfl, rfl⟩ rfl rfl rfl rfl rfl (by kernel_rfl) Try.func7 (by kernel_rfl)
    (of_decide_eq_true (by kernel_rfl)) (by unfold Func.isWrapper; first | (rw [if_pos (by decide +kernel)]; kernel_rfl) | (rw [if_neg (by decide +kernel)]; exact ⟨rfl, rfl⟩))
    (fun os started H enc _ => natReckons_lifted os started H enc)
#print axioms natReckons_holds
end Go.Proofs.Ytlgimmafejbmgaa
