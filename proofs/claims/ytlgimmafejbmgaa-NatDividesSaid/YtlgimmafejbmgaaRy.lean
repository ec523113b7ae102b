/- NatDivides, whatever the three texts: the given row. -/
import Derived.Test.YtlgimmafejbmgaaNw
import Derived.Test.YtlgimmafejbmgaaRw
namespace Go.Proofs.Ytlgimmafejbmgaa
set_option linter.all false
set_option autoImplicit true
set_option relaxedAutoImplicit true
open Go Go.Proofs Go.ChangeShapes Go.WideShapes Go.ChangeAt Go.RowKit
open Go.ChangeMaps (open_string shut_string)
set_option maxRecDepth 100000
theorem natDivides_lifted (os : Os) (started : os.Started) (H : Type) (enc : TypeId × Value → H) :
    ReturnsInHanded {} Try.checked os 8 .any (Rows.natDividesSpec.pre6 enc Try.prog Try.f8 Rows.natDividesRow.domain false) (Rows.natDividesSpec.post enc Try.prog Try.f8 false true false false) := by
  refine returnsInHanded_of_change (C := Try.checked) Try.own started (by kernel_rfl) Try.func8
    (ChangeSpec.witness6 (enc := enc) (C := Try.checked) false ⟨#[], #[.string ⟨#[]⟩, .string ⟨#[]⟩, .string ⟨#[]⟩], []⟩ 8 (by kernel_rfl) (by kernel_rfl) (by kernel_rfl) (by kernel_rfl)) ?_
  intro W base args ds gs before hval0 hW _ _
  have hval : ∀ (j : Nat) t v, Try.f8.params[j]? = some t → args[j]? = some v → Value.okWide Try.prog W .any base t v := hval0
  have hW' := hW
  obtain ⟨p, q, hA0, hV0, rfl, hfz, hnd⟩ := hW
  have hA : DataW.TrodAll enc Try.prog W 0 (fun _ => true) true Try.f8.params.toList args.toList ds p := hA0
  have hps : Try.f8.params.toList = [9, 9, 9] := rfl
  rw [hps] at hA
  obtain ⟨v0, vs0, d0, ds0, p0, q0, e0, rfl, rfl, h0, hr0⟩ := trodAll_cons hA
  obtain ⟨v1, vs1, d1, ds1, p1, q1, rfl, rfl, rfl, h1, hr1⟩ := trodAll_cons hr0
  obtain ⟨v2, vs2, d2, ds2, p2, q2, rfl, rfl, rfl, h2, hr2⟩ := trodAll_cons hr1
  obtain ⟨rfl, rfl, rfl⟩ := trodAll_nil hr2
  obtain rfl : args = #[v0, v1, v2] := by cases args; simp_all
  obtain ⟨rfl, rfl⟩ := trodVars_none hV0
  obtain ⟨s, rfl, rfl, rfl, ws⟩ := open_string (t := 9) Try.underlying9 (hval 0 _ _ rfl rfl) h0
  obtain ⟨t, rfl, rfl, rfl, wt⟩ := open_string (t := 9) Try.underlying9 (hval 1 _ _ rfl rfl) h1
  obtain ⟨u, rfl, rfl, rfl, wu⟩ := open_string (t := 9) Try.underlying9 (hval 2 _ _ rfl rfl) h2
  have key := AM.NatDivides_spec (P := Try.prog) AM.prg_ok s t u
  have hb : Try.f8.body = some (AM.bodyOf Try.f8) := rfl
  refine (CSpec.calls key Try.func8 hb (by kernel_rfl) (vs := [.string s, .string t, .string u]) (w := W) (.str _ (.str _ (.str _ .nil)))).mono fun e W' ⟨he, hB⟩ => ?_
  subst he
  have e1 : Rows.natDividesSpec.fn H ([.lit (.string s.data.toList), .lit (.string t.data.toList), .lit (.string u.data.toList)] ++ []) = { results := [.lit (.bool true)], args := [.lit (.string s.data.toList), .lit (.string t.data.toList), .lit (.string u.data.toList)] } := rfl
  refine ⟨_, rfl, _, _, _, [], [], [], hW', ?_, ?_, ?_, hB.frame _, fun h => by cases h⟩
  · rw [e1]; exact trodAll_mk1 (shut_bool Try.underlying4 true)
  · rw [e1]; exact trodAll_cons_mk (shut_string Try.underlying9 ws) (trodAll_mk2 (shut_string Try.underlying9 wt) (shut_string Try.underlying9 wu))
  · first | exact ⟨rfl, rfl⟩ | exact rfl | trivial | constructor
theorem natDivides_holds : Rows.NatDividesSaid :=
  OpenClaim.holds_of_wide 8 Try.f8 rfl rfl rfl rfl rfl rfl rfl ⟨rfl, rfl, rfl, rfl, rfl⟩ rfl rfl rfl rfl rfl (by kernel_rfl) Try.func8 (by kernel_rfl)
    (of_decide_eq_true (by kernel_rfl)) (by unfold Func.isWrapper; first | (rw [if_pos (by decide +kernel)]; kernel_rfl) | (rw [if_neg (by decide +kernel)]; exact ⟨rfl, rfl⟩))
    (fun os started H enc _ => natDivides_lifted os started H enc)
#print axioms natDivides_holds
end Go.Proofs.Ytlgimmafejbmgaa
