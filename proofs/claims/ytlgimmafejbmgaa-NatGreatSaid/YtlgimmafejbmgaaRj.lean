/- NatGreat, whatever it is given: the given row. -/
import Derived.Test.YtlgimmafejbmgaaRh
import Derived.Test.YtlgimmafejbmgaaRw
namespace Go.Proofs.Ytlgimmafejbmgaa
set_option linter.all false
set_option autoImplicit true
set_option relaxedAutoImplicit true
open Go Go.Proofs Go.ChangeShapes Go.WideShapes Go.ChangeAt Go.RowKit
open Go.ChangeMaps (open_string shut_string)
set_option maxRecDepth 100000
theorem natGreat_lifted (os : Os) (started : os.Started) (H : Type) (enc : TypeId × Value → H) :
    ReturnsInHanded {} Try.checked os 5 .any (Rows.natGreatSpec.pre6 enc Try.prog Try.f5 Rows.natGreatRow.domain false) (Rows.natGreatSpec.post enc Try.prog Try.f5 false true false false) := by
  refine returnsInHanded_of_change (C := Try.checked) Try.own started (by kernel_rfl) Try.func5
    (ChangeSpec.witness6 (enc := enc) (C := Try.checked) false ⟨#[], #[.string ⟨#[]⟩, .string ⟨#[]⟩, .string ⟨#[]⟩, .string ⟨#[]⟩], []⟩ 8 (by kernel_rfl) (by kernel_rfl) (by kernel_rfl) (by kernel_rfl)) ?_
  intro W base args ds gs before hval0 hW _ _
  have hval : ∀ (j : Nat) t v, Try.f5.params[j]? = some t → args[j]? = some v → Value.okWide Try.prog W .any base t v := hval0
  have hW' := hW
  obtain ⟨p, q, hA0, hV0, rfl, hfz, hnd⟩ := hW
  have hA : DataW.TrodAll enc Try.prog W 0 (fun _ => true) true Try.f5.params.toList args.toList ds p := hA0
  have hps : Try.f5.params.toList = [9, 9, 9, 9] := rfl
  rw [hps] at hA
  obtain ⟨v0, vs0, d0, ds0, p0, q0, e0, rfl, rfl, h0, hr0⟩ := trodAll_cons hA
  obtain ⟨v1, vs1, d1, ds1, p1, q1, rfl, rfl, rfl, h1, hr1⟩ := trodAll_cons hr0
  obtain ⟨v2, vs2, d2, ds2, p2, q2, rfl, rfl, rfl, h2, hr2⟩ := trodAll_cons hr1
  obtain ⟨v3, vs3, d3, ds3, p3, q3, rfl, rfl, rfl, h3, hr3⟩ := trodAll_cons hr2
  obtain ⟨rfl, rfl, rfl⟩ := trodAll_nil hr3
  obtain rfl : args = #[v0, v1, v2, v3] := by cases args; simp_all
  obtain ⟨rfl, rfl⟩ := trodVars_none hV0
  obtain ⟨x0, rfl, rfl, rfl, w0⟩ := open_string (t := 9) Try.underlying9 (hval 0 _ _ rfl rfl) h0
  obtain ⟨x1, rfl, rfl, rfl, w1⟩ := open_string (t := 9) Try.underlying9 (hval 1 _ _ rfl rfl) h1
  obtain ⟨x2, rfl, rfl, rfl, w2⟩ := open_string (t := 9) Try.underlying9 (hval 2 _ _ rfl rfl) h2
  obtain ⟨x3, rfl, rfl, rfl, w3⟩ := open_string (t := 9) Try.underlying9 (hval 3 _ _ rfl rfl) h3
  have key := AM.NatGreat_spec (P := Try.prog) AM.prg_ok x0 x1 x2 x3
  have hb : Try.f5.body = some (AM.bodyOf Try.f5) := rfl
  refine (CSpec.calls key Try.func5 hb (by kernel_rfl) (vs := [.string x0, .string x1, .string x2, .string x3]) (w := W) (.str _ (.str _ (.str _ (.str _ .nil))))).mono fun e W' ⟨he, hB⟩ => ?_
  subst he
  have e1 : Rows.natGreatSpec.fn H ([.lit (.string x0.data.toList), .lit (.string x1.data.toList), .lit (.string x2.data.toList), .lit (.string x3.data.toList)] ++ []) = { results := [.lit (.bool true)], args := [.lit (.string x0.data.toList), .lit (.string x1.data.toList), .lit (.string x2.data.toList), .lit (.string x3.data.toList)] } := rfl
  refine ⟨_, rfl, _, _, _, [], [], [], hW', ?_, ?_, ?_, hB.frame _, fun h => by cases h⟩
  · rw [e1]; exact trodAll_mk1 (shut_bool Try.underlying4 true)
  · rw [e1]; exact trodAll_cons_mk (shut_string Try.underlying9 w0) (trodAll_cons_mk (shut_string Try.underlying9 w1) (trodAll_mk2 (shut_string Try.underlying9 w2) (shut_string Try.underlying9 w3)))
  · first | exact ⟨rfl, rfl⟩ | exact rfl | trivial | constructor
theorem natGreat_holds : Rows.NatGreatSaid :=
  OpenClaim.holds_of_wide 5 Try.f5 rfl rfl rfl rfl rfl rfl rfl ⟨rfl, rfl, rfl, rfl, rfl⟩ rfl rfl rfl rfl rfl (by kernel_rfl) Try.func5 (by kernel_rfl)
    (of_decide_eq_true (by kernel_rfl)) (by unfold Func.isWrapper; first | (rw [if_pos (by decide +kernel)]; kernel_rfl) | (rw [if_neg (by decide +kernel)]; exact ⟨rfl, rfl⟩))
    (fun os started H enc _ => natGreat_lifted os started H enc)
#print axioms natGreat_holds
end Go.Proofs.Ytlgimmafejbmgaa
