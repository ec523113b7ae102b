/- FracKnown, whatever it is given: the given row. -/
import Derived.Test.YtjnhekedclcbfaaDoorFw
import Derived.Test.YtjnhekedclcbfaaDoorB3
import Derived.Test.YtjnhekedclcbfaaDoorSk
import Derived.Lay
import Derived.LaidOnce
import Derived.SevenTiedAt
import Derived.Test.YtjnhekedclcbfaaDoorCards
import Derived.Test.YtjnhekedclcbfaaDoorTie
namespace Go.Proofs.YtjnhekedclcbfaaDoor
set_option linter.all false
set_option autoImplicit true
set_option relaxedAutoImplicit true
open Go Go.Proofs Go.ChangeShapes Go.WideShapes Go.ChangeAt Go.RowKit
open Go.ChangeMaps (open_string shut_string)
set_option maxRecDepth 100000
theorem fracKnown_lifted (os : Os) (started : os.Started) (H : Type) (enc : TypeId × Value → H) :
    ReturnsInHanded {} Tryd.checked os 6 .any (fun w args => (Rows.fracKnownSpec.pre enc Tryd.prog Tryd.f6 Rows.fracKnownRow.domain false w args ∧ laidMetH Tryd.prog Rows.fracKnownRow.laid w) ∧ sizedMet enc Tryd.prog Tryd.f6 (OpenSpec.ofChange Rows.fracKnownSpec) false w args)
      (Rows.fracKnownSpec.post enc Tryd.prog Tryd.f6 false true false false) := by
  refine returnsInHanded_of_change_and (C := Tryd.checked) (X := fun w _ => laidMetH Tryd.prog Rows.fracKnownRow.laid w) (fun _ _ _ hh h => h.of_heap hh) Tryd.own started (by kernel_rfl) Tryd.func6
    (ChangeSpec.witness_shaped (enc := enc) (C := Tryd.checked) (os := os) (X := fun w _ => laidMetH Tryd.prog Rows.fracKnownRow.laid w) false (World.laidAll Tryd.prog os Rows.fracKnownRow.laid) #[] 12 (World.laidAll_os _ _ _)
      (World.shaped_of_ZipB (by kernel_rfl) (by kernel_rfl)) (by kernel_rfl) (by kernel_rfl) (by kernel_rfl)
      (by rw [MakeChecks.laidMetH_plain _ _ _ (by kernel_rfl)]; exact laidMet_laidAll _ (by kernel_rfl) (by kernel_rfl))) ?_
  intro W base args ds gs before hval0 hW _ _ _ _
  have hval : ∀ (j : Nat) t v, Tryd.f6.params[j]? = some t → args[j]? = some v → Value.okWide Tryd.prog W .any base t v := hval0
  have hW' := hW
  obtain ⟨p, q, hA0, hV0, rfl, hfz, hnd⟩ := hW
  have hA : DataW.TrodAll enc Tryd.prog W 0 (fun _ => true) true Tryd.f6.params.toList args.toList ds p := hA0
  have hps : Tryd.f6.params.toList = [] := rfl
  rw [hps] at hA
  obtain ⟨rfl, rfl, rfl⟩ := trodAll_none hA
  obtain ⟨rfl, rfl⟩ := trodVars_none hV0
  have key := AM.FracKnown_spec (P := Tryd.prog) AM.prg_ok AM.sh_rep
  have hb : Tryd.f6.body = some (AM.bodyOf Tryd.f6) := rfl
  refine (CSpec.calls key Tryd.func6 hb (by kernel_rfl) (vs := []) (w := W) (.nil)).mono fun e W' ⟨he, hB⟩ => ?_
  subst he
  have e1 : Rows.fracKnownSpec.fn H ([] ++ []) = { results := [.lit (.bool true)], args := [] } := rfl
  refine ⟨_, rfl, _, _, _, [], [], [], hW', ?_, ?_, ?_, hB.frame _, fun h => by cases h⟩
  · rw [e1]; exact trodAll_mk1 (shut_bool Tryd.underlying4 true)
  · rw [e1]; first | exact ⟨rfl, rfl⟩ | exact rfl | trivial | constructor
  · first | exact ⟨rfl, rfl⟩ | exact rfl | trivial | constructor
theorem fracKnown_row : Rows.FracKnownSaid :=
  OpenClaim.holds_of_wide 6 Tryd.f6 rfl rfl rfl rfl rfl rfl rfl ⟨rfl, rfl, rfl, rfl, rfl⟩ rfl rfl rfl rfl rfl (by kernel_rfl) Tryd.func6 (by kernel_rfl)
    (of_decide_eq_true (by kernel_rfl)) (by unfold Func.isWrapper; first | (rw [if_pos (by decide +kernel)]; kernel_rfl) | (rw [if_neg (by decide +kernel)]; exact ⟨rfl, rfl⟩))
    (fun os started H enc _ => fracKnown_lifted os started H enc)
theorem fracKnown_holds : Rows.FracKnownCardSaid :=
  Claim7.holds_tied_plain_at .later [] [.data, .pinned] true (true, "b152a7ad23ac56c8a6ace90ef8e33aa36214da2c6b11ed5b5e98d4a7ed824a87") false fracKnown_row (fun _ h => by cases h) (by kernel_rfl) (fun _ h => by cases h) fracKnown_row_tie rfl ⟨rfl, rfl⟩ (by kernel_rfl) rfl
    (fun f fn hf hfn => by
      obtain rfl : f = 6 := Option.some.inj ((show Tryd.prog.funcNamed "chamfer/chamferlaw03.FracKnown" = some 6 by kernel_rfl).symm.trans hf) |>.symm
      obtain rfl : fn = Tryd.f6 := (Option.some.inj (Tryd.func6.symm.trans hfn)).symm
      exact ⟨by kernel_rfl, fun j t ht => by
        have hm : t ∈ ([] : List TypeId) := by simpa using Array.mem_of_getElem? (show (#[] : Array TypeId)[j]? = some t from ht)
        have hall : (([] : List TypeId).all fun u => !Tryd.prog.wantsStandIn u) = true := by kernel_rfl
        exact (show Tryd.prog.wantsStandIn t = false by simpa using List.all_eq_true.1 hall t hm)⟩)
    (by kernel_rfl)
#print axioms fracKnown_holds
end Go.Proofs.YtjnhekedclcbfaaDoor
