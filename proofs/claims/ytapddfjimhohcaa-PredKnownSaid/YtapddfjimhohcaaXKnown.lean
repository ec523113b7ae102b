/- PredKnown, whatever it is given: the given row. -/
import Derived.Test.YtapddfjimhohcaaB7
import Derived.Test.YtapddfjimhohcaaB3
namespace Go.Proofs.Ytapddfjimhohcaa
set_option linter.all false
set_option autoImplicit true
set_option relaxedAutoImplicit true
open Go Go.Proofs Go.ChangeShapes Go.WideShapes Go.ChangeAt Go.RowKit
open Go.ChangeMaps (open_string shut_string)
set_option maxRecDepth 100000
theorem predKnown_lifted (os:Os) (started:os.Started) (H:Type) (enc:TypeId × Value→H) :
 ReturnsInHanded {} Try.checked os 3 .any (Rows.predKnownSpec.pre6 enc Try.prog Try.f3 Rows.predKnownRow.domain false) (Rows.predKnownSpec.post enc Try.prog Try.f3 false true false false):=by
 refine returnsInHanded_of_change (C:=Try.checked) Try.own started (by kernel_rfl) Try.func3
  (ChangeSpec.witness6 (enc:=enc) (C:=Try.checked) false ⟨#[],#[],[]⟩ 12 (by kernel_rfl) (by kernel_rfl) (by kernel_rfl) (by kernel_rfl)) ?_
 intro W base args ds gs before hval0 hW _ _
 have hval:∀ (j:Nat) t v,Try.f3.params[j]? = some t→args[j]? = some v→Value.okWide Try.prog W .any base t v:=hval0
 have hW':=hW
 obtain ⟨p,q,hA0,hV0,rfl,hfz,hnd⟩:=hW
 have hA:DataW.TrodAll enc Try.prog W 0 (fun _=>true) true Try.f3.params.toList args.toList ds p:=hA0
 have hps:Try.f3.params.toList=[]:=rfl
 rw [hps] at hA
 obtain ⟨rfl,rfl,rfl⟩:=trodAll_none hA
 obtain ⟨rfl,rfl⟩:=trodVars_none hV0
 have key:=AM.PredKnown_spec (P:=Try.prog) AM.prg_ok
 have hb:Try.f3.body=some (AM.bodyOf Try.f3):=rfl
 refine (CSpec.calls key Try.func3 hb (by kernel_rfl) (vs:=[]) (w:=W) (.nil)).mono fun e W' ⟨he,hB⟩=>?_
 subst he
 have e1:Rows.predKnownSpec.fn H ([]++[])={ results:=[.lit (.bool true)],args:=[] }:=rfl
 refine ⟨_,rfl,_,_,_,[],[],[],hW',?_,?_,?_,hB.frame _,fun h=>by cases h⟩
 · rw [e1]; exact trodAll_mk1 (shut_bool Try.underlying4 true)
 · rw [e1]; first|exact ⟨rfl,rfl⟩|exact rfl|trivial|constructor
 · first|exact ⟨rfl,rfl⟩|exact rfl|trivial|constructor
theorem predKnown_holds:Rows.PredKnownSaid :=
 OpenClaim.holds_of_wide 3 Try.f3 rfl rfl rfl rfl rfl rfl rfl ⟨rfl,rfl,rfl,rfl,rfl⟩ rfl rfl rfl rfl rfl (by kernel_rfl) Try.func3 (by kernel_rfl)
  (of_decide_eq_true (by kernel_rfl)) (by unfold Func.isWrapper; first|(rw [if_pos (by decide +kernel)]; kernel_rfl)|(rw [if_neg (by decide +kernel)]; exact ⟨rfl,rfl⟩))
  (fun os started H enc _=>predKnown_lifted os started H enc)
#print axioms predKnown_holds
end Go.Proofs.Ytapddfjimhohcaa
