/- NatKnown: the given row. -/
import Derived.Test.YtlgimmafejbmgaaSk
import Derived.Test.YtlgimmafejbmgaaRw
namespace Go.Proofs.Ytlgimmafejbmgaa
set_option linter.all false
set_option autoImplicit true
set_option relaxedAutoImplicit true
open Go Go.Proofs Go.ChangeShapes Go.WideShapes Go.ChangeAt Go.RowKit
set_option maxRecDepth 100000
theorem natKnown_lifted (os : Os) (started : os.Started) (H : Type) (enc : TypeId × Value → H) :
    ReturnsInHanded {} Try.checked os 9 .any (Rows.natKnownSpec.pre6 enc Try.prog Try.f9 Rows.natKnownRow.domain false) (Rows.natKnownSpec.post enc Try.prog Try.f9 false true false false) := by
  refine returnsInHanded_of_change (C := Try.checked) Try.own started (by kernel_rfl) Try.func9
    (ChangeSpec.witness6 (enc := enc) (C := Try.checked) false ⟨#[], #[], []⟩ 8 (by kernel_rfl) (by kernel_rfl) (by kernel_rfl) (by kernel_rfl)) ?_
  intro W base args ds gs before hval0 hW _ _
  have hW' := hW
  obtain ⟨p, q, hA0, hV0, rfl, hfz, hnd⟩ := hW
  have hA : DataW.TrodAll enc Try.prog W 0 (fun _ => true) true Try.f9.params.toList args.toList ds p := hA0
  have hps : Try.f9.params.toList = [] := rfl
  rw [hps] at hA
  obtain ⟨rfl, rfl, rfl⟩ := trodAll_none hA
  obtain ⟨rfl, rfl⟩ := trodVars_none hV0
  have key := AM.NatKnown_spec (P := Try.prog) AM.prg_ok AM.sh_rep
  have hb : Try.f9.body = some (AM.bodyOf Try.f9) := rfl
  refine (CSpec.calls key Try.func9 hb (by kernel_rfl) (vs := []) (w := W) .nil).mono fun e W' ⟨he, hB⟩ => ?_
  subst he
  have e1 : Rows.natKnownSpec.fn H ([] ++ []) = { results := [.lit (.bool true)], args := [] } := rfl
  refine ⟨_, rfl, _, _, _, [], [], [], hW', ?_, ?_, ?_, hB.frame _, fun h => by cases h⟩
  · rw [e1]; exact trodAll_mk1 (shut_bool Try.underlying4 true)
  · rw [e1]; first | exact ⟨rfl, rfl⟩ | exact rfl | trivial | constructor
  · first | exact ⟨rfl, rfl⟩ | exact rfl | trivial | constructor
theorem natKnown_holds : Rows.NatKnownSaid :=
  OpenClaim.holds_of_wide 9 Try.f9 rfl rfl rfl rfl rfl rfl rfl ⟨rfl, rfl, rfl, rfl, rfl⟩ rfl rfl rfl rfl rfl (by kernel_rfl) Try.func9 (by kernel_rfl)
    (of_decide_eq_true (by kernel_rfl)) (by unfold Func.isWrapper; first | (rw [if_pos (by decide +kernel)]; kernel_rfl) | (rw [if_neg (by decide +kernel)]; exact ⟨rfl, rfl⟩))
    (fun os started H enc _ => natKnown_lifted os started H enc)
#print axioms natKnown_holds
end Go.Proofs.Ytlgimmafejbmgaa
