/- FracField, whatever it is given: the given row. -/
import Derived.Test.YtjnhekedclcbfaaDoorFq
import Derived.Test.YtjnhekedclcbfaaDoorB3
import Derived.Lay
import Derived.LaidOnce
import Derived.SevenTiedAt
import Derived.Test.YtjnhekedclcbfaaDoorCards
import Derived.Test.YtjnhekedclcbfaaDoorTie
namespace Go.Proofs.YtjnhekedclcbfaaDoor
set_option linter.all false
set_option autoImplicit true
set_option relaxedAutoImplicit true
open Go Go.Proofs Go.ChangeShapes Go.WideShapes Go.ChangeAt Go.RowKit
open Go.ChangeMaps (open_string shut_string)
set_option maxRecDepth 100000
theorem fracField_lifted (os : Os) (started : os.Started) (H : Type) (enc : TypeId × Value → H) :
    ReturnsInHanded {} Tryd.checked os 5 .any (fun w args => (Rows.fracFieldSpec.pre enc Tryd.prog Tryd.f5 Rows.fracFieldRow.domain false w args ∧ laidMetH Tryd.prog Rows.fracFieldRow.laid w) ∧ sizedMet enc Tryd.prog Tryd.f5 (OpenSpec.ofChange Rows.fracFieldSpec) false w args)
      (Rows.fracFieldSpec.post enc Tryd.prog Tryd.f5 false true false false) := by
  refine returnsInHanded_of_change_and (C := Tryd.checked) (X := fun w _ => laidMetH Tryd.prog Rows.fracFieldRow.laid w) (fun _ _ _ hh h => h.of_heap hh) Tryd.own started (by kernel_rfl) Tryd.func5
    (ChangeSpec.witness_shaped (enc := enc) (C := Tryd.checked) (os := os) (X := fun w _ => laidMetH Tryd.prog Rows.fracFieldRow.laid w) false (World.laidAll Tryd.prog os Rows.fracFieldRow.laid) #[.string ⟨#[]⟩, .string ⟨#[]⟩, .string ⟨#[]⟩] 12 (World.laidAll_os _ _ _)
      (World.shaped_of_ZipB (by kernel_rfl) (by kernel_rfl)) (by kernel_rfl) (by kernel_rfl) (by kernel_rfl)
      (by rw [MakeChecks.laidMetH_plain _ _ _ (by kernel_rfl)]; exact laidMet_laidAll _ (by kernel_rfl) (by kernel_rfl))) ?_
  intro W base args ds gs before hval0 hW _ _ _ _
  have hval : ∀ (j : Nat) t v, Tryd.f5.params[j]? = some t → args[j]? = some v → Value.okWide Tryd.prog W .any base t v := hval0
  have hW' := hW
  obtain ⟨p, q, hA0, hV0, rfl, hfz, hnd⟩ := hW
  have hA : DataW.TrodAll enc Tryd.prog W 0 (fun _ => true) true Tryd.f5.params.toList args.toList ds p := hA0
  have hps : Tryd.f5.params.toList = [9, 9, 9] := rfl
  rw [hps] at hA
  obtain ⟨v0, vs0, d0, ds0, p0, q0, e0, rfl, rfl, h0, hr0⟩ := trodAll_cons hA
  obtain ⟨v1, vs1, d1, ds1, p1, q1, rfl, rfl, rfl, h1, hr1⟩ := trodAll_cons hr0
  obtain ⟨v2, vs2, d2, ds2, p2, q2, rfl, rfl, rfl, h2, hr2⟩ := trodAll_cons hr1
  obtain ⟨rfl, rfl, rfl⟩ := trodAll_nil hr2
  obtain rfl : args = #[v0, v1, v2] := by cases args; simp_all
  obtain ⟨rfl, rfl⟩ := trodVars_none hV0
  obtain ⟨x0, rfl, rfl, rfl, w0⟩ := open_string (t := 9) Tryd.underlying9 (hval 0 _ _ rfl rfl) h0
  obtain ⟨x1, rfl, rfl, rfl, w1⟩ := open_string (t := 9) Tryd.underlying9 (hval 1 _ _ rfl rfl) h1
  obtain ⟨x2, rfl, rfl, rfl, w2⟩ := open_string (t := 9) Tryd.underlying9 (hval 2 _ _ rfl rfl) h2
  have key := AM.FracField_spec (P := Tryd.prog) AM.prg_ok x0 x1 x2
  have hb : Tryd.f5.body = some (AM.bodyOf Tryd.f5) := rfl
  refine (CSpec.calls key Tryd.func5 hb (by kernel_rfl) (vs := [.string x0, .string x1, .string x2]) (w := W) (.str _ (.str _ (.str _ (.nil))))).mono fun e W' ⟨he, hB⟩ => ?_
  subst he
  have e1 : Rows.fracFieldSpec.fn H ([.lit (.string x0.data.toList), .lit (.string x1.data.toList), .lit (.string x2.data.toList)] ++ []) = { results := [.lit (.bool true)], args := [.lit (.string x0.data.toList), .lit (.string x1.data.toList), .lit (.string x2.data.toList)] } := rfl
  refine ⟨_, rfl, _, _, _, [], ([] : List MemPlace) ++ (([] : List MemPlace) ++ (([] : List MemPlace))), [], hW', ?_, ?_, ?_, hB.frame _, fun h => by cases h⟩
  · rw [e1]; exact trodAll_mk1 (shut_bool Tryd.underlying4 true)
  · rw [e1]; exact trodAll_cons_mk (shut_string Tryd.underlying9 w0) (trodAll_mk2 (shut_string Tryd.underlying9 w1) (shut_string Tryd.underlying9 w2))
  · first | exact ⟨rfl, rfl⟩ | exact rfl | trivial | constructor
theorem fracField_row : Rows.FracFieldSaid :=
  OpenClaim.holds_of_wide 5 Tryd.f5 rfl rfl rfl rfl rfl rfl rfl ⟨rfl, rfl, rfl, rfl, rfl⟩ rfl rfl rfl rfl rfl (by kernel_rfl) Tryd.func5 (by kernel_rfl)
    (of_decide_eq_true (by kernel_rfl)) (by unfold Func.isWrapper; first | (rw [if_pos (by decide +kernel)]; kernel_rfl) | (rw [if_neg (by decide +kernel)]; exact ⟨rfl, rfl⟩))
    (fun os started H enc _ => fracField_lifted os started H enc)
theorem fracField_holds : Rows.FracFieldCardSaid :=
  Claim7.holds_tied_plain_at .later [] [.data, .pinned] true (true, "b152a7ad23ac56c8a6ace90ef8e33aa36214da2c6b11ed5b5e98d4a7ed824a87") false fracField_row (fun _ h => by cases h) (by kernel_rfl) (fun _ h => by cases h) fracField_row_tie rfl ⟨rfl, rfl⟩ (by kernel_rfl) rfl
    (fun f fn hf hfn => by
      obtain rfl : f = 5 := Option.some.inj ((show Tryd.prog.funcNamed "chamfer/chamferlaw03.FracField" = some 5 by kernel_rfl).symm.trans hf) |>.symm
      obtain rfl : fn = Tryd.f5 := (Option.some.inj (Tryd.func5.symm.trans hfn)).symm
      exact ⟨by kernel_rfl, fun j t ht => by
        have hm : t ∈ ([9] : List TypeId) := by simpa using Array.mem_of_getElem? (show (#[9, 9, 9] : Array TypeId)[j]? = some t from ht)
        have hall : (([9] : List TypeId).all fun u => !Tryd.prog.wantsStandIn u) = true := by kernel_rfl
        exact (show Tryd.prog.wantsStandIn t = false by simpa using List.all_eq_true.1 hall t hm)⟩)
    (by kernel_rfl)
#print axioms fracField_holds
end Go.Proofs.YtjnhekedclcbfaaDoor
