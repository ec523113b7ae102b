/- VecKnown, whatever it is given: the given row. -/
import Derived.Test.YtbfapomdnocbaaaGreatDoorVu
import Derived.Test.YtbfapomdnocbaaaGreatDoorB3
import Derived.Lay
import Derived.LaidOnce
import Derived.SevenTiedAt
import Derived.Test.YtbfapomdnocbaaaGreatDoorCards
import Derived.Test.YtbfapomdnocbaaaGreatDoorTie
namespace Go.Proofs.YtbfapomdnocbaaaGreatDoor
set_option linter.all false
set_option autoImplicit true
set_option relaxedAutoImplicit true
open Go Go.Proofs Go.ChangeShapes Go.WideShapes Go.ChangeAt Go.RowKit
open Go.ChangeMaps (open_string shut_string)
set_option maxRecDepth 100000
theorem vecKnown_lifted (os : Os) (started : os.Started) (H : Type) (enc : TypeId × Value → H) :
 ReturnsInHanded {} Tryz.checked os 11 .any (fun w args => (Rows.vecKnownSpec.pre enc Tryz.prog Tryz.f11 Rows.vecKnownRow.domain false w args ∧ laidMetH Tryz.prog Rows.vecKnownRow.laid w) ∧ sizedMet enc Tryz.prog Tryz.f11 (OpenSpec.ofChange Rows.vecKnownSpec) false w args)
  (Rows.vecKnownSpec.post enc Tryz.prog Tryz.f11 false true false false) := by
 refine returnsInHanded_of_change_and (C := Tryz.checked) (X := fun w _ => laidMetH Tryz.prog Rows.vecKnownRow.laid w) (fun _ _ _ hh h => h.of_heap hh) Tryz.own started (by kernel_rfl) Tryz.func11
  (ChangeSpec.witness_shaped (enc := enc) (C := Tryz.checked) (os := os) (X := fun w _ => laidMetH Tryz.prog Rows.vecKnownRow.laid w) false (World.laidAll Tryz.prog os Rows.vecKnownRow.laid) #[] 12 (World.laidAll_os _ _ _)
    (World.shaped_of_ZipB (by kernel_rfl) (by kernel_rfl)) (by kernel_rfl) (by kernel_rfl) (by kernel_rfl)
    (by rw [MakeChecks.laidMetH_plain _ _ _ (by kernel_rfl)]; exact laidMet_laidAll _ (by kernel_rfl) (by kernel_rfl))) ?_
 intro W base args ds gs before hval0 hW _ hwt _ _
 have hval : ∀ (j : Nat) t v, Tryz.f11.params[j]? = some t → args[j]? = some v → Value.okWide Tryz.prog W .any base t v := hval0
 have hW' := hW
 obtain ⟨p, q, hA0, hV0, rfl, hfz, hnd⟩ := hW
 have hA : DataW.TrodAll enc Tryz.prog W 0 (fun _ => true) true Tryz.f11.params.toList args.toList ds p := hA0
 have hps : Tryz.f11.params.toList = [] := rfl
 rw [hps] at hA
 obtain ⟨rfl, rfl, rfl⟩ := trodAll_none hA
 obtain ⟨rfl, rfl⟩ := trodVars_none hV0
 have key := AM.VecKnown_spec (P := Tryz.prog) AM.prg_ok
 have hb : Tryz.f11.body = some (AM.bodyOf Tryz.f11) := rfl
 refine (CSpec.calls key Tryz.func11 hb (by kernel_rfl) (vs := []) (w := W) (.nil)).mono fun e W' ⟨he, hB⟩ => ?_
 subst he
 have e1 : Rows.vecKnownSpec.fn H ([] ++ []) = { results := [.lit (.bool true)], args := [] } := rfl
 refine ⟨_, rfl, _, _, _, [], [], [], hW', ?_, ?_, ?_, hB.frame _, fun h => by cases h⟩
 · rw [e1]; exact trodAll_mk1 (shut_bool Tryz.underlying4 true)
 · rw [e1]; first | exact ⟨rfl, rfl⟩ | exact rfl | trivial | constructor
 · first | exact ⟨rfl, rfl⟩ | exact rfl | trivial | constructor
theorem vecKnown_row : Rows.VecKnownSaid :=
 OpenClaim.holds_of_wide 11 Tryz.f11 rfl rfl rfl rfl rfl rfl rfl ⟨rfl, rfl, rfl, rfl, rfl⟩ rfl rfl rfl rfl rfl (by kernel_rfl) Tryz.func11 (by kernel_rfl)
  (of_decide_eq_true (by kernel_rfl)) (by unfold Func.isWrapper; first | (rw [if_pos (by decide +kernel)]; kernel_rfl) | (rw [if_neg (by decide +kernel)]; exact ⟨rfl, rfl⟩))
  (fun os started H enc _ => vecKnown_lifted os started H enc)
theorem vecKnown_holds : Rows.VecKnownCardSaid :=
 Claim7.holds_tied_plain_at .later [] [.data, .pinned] true (true, "cb29fab55bc7995ab276d01e3a595804839181ecef77fbc7d0ed9a46fc6f84b5") false vecKnown_row (fun _ h => by cases h) (by kernel_rfl) (fun _ h => by cases h) vecKnown_row_tie rfl ⟨rfl, rfl⟩ (by kernel_rfl) rfl
  (fun f fn hf hfn => by
    obtain rfl : f = 11 := Option.some.inj ((show Tryz.prog.funcNamed "chamfer/chamferlaw04.VecKnown" = some 11 by kernel_rfl).symm.trans hf) |>.symm
    obtain rfl : fn = Tryz.f11 := (Option.some.inj (Tryz.func11.symm.trans hfn)).symm
    exact ⟨by kernel_rfl, fun j t ht => by
     have hm : t ∈ ([] : List TypeId) := by simpa using Array.mem_of_getElem? (show (#[] : Array TypeId)[j]? = some t from ht)
     have hall : (([] : List TypeId).all fun u => !Tryz.prog.wantsStandIn u) = true := by kernel_rfl
     exact (show Tryz.prog.wantsStandIn t = false by simpa using List.all_eq_true.1 hall t hm)⟩)
  (by kernel_rfl)
#print axioms vecKnown_holds
end Go.Proofs.YtbfapomdnocbaaaGreatDoor
