/- FracReads, whatever it is given: the given row. -/
import Derived.Test.YtjnhekedclcbfaaGreatDoorFs
import Derived.Test.YtjnhekedclcbfaaGreatDoorB3
import Derived.Lay
import Derived.LaidOnce
import Derived.SevenTiedAt
import Derived.Test.YtjnhekedclcbfaaGreatDoorCards
import Derived.Test.YtjnhekedclcbfaaGreatDoorTie
namespace Go.Proofs.YtjnhekedclcbfaaGreatDoor
set_option linter.all false
set_option autoImplicit true
set_option relaxedAutoImplicit true
open Go Go.Proofs Go.ChangeShapes Go.WideShapes Go.ChangeAt Go.RowKit
open Go.ChangeMaps (open_string shut_string)
set_option maxRecDepth 100000
theorem fracReads_lifted (os : Os) (started : os.Started) (H : Type) (enc : TypeId × Value → H) :
    ReturnsInHanded {} Tryz.checked os 4 .any (fun w args => (Rows.fracReadsSpec.pre enc Tryz.prog Tryz.f4 Rows.fracReadsRow.domain false w args ∧ laidMetH Tryz.prog Rows.fracReadsRow.laid w) ∧ sizedMet enc Tryz.prog Tryz.f4 (OpenSpec.ofChange Rows.fracReadsSpec) false w args)
      (Rows.fracReadsSpec.post enc Tryz.prog Tryz.f4 false true false false) := by
  refine returnsInHanded_of_change_and (C := Tryz.checked) (X := fun w _ => laidMetH Tryz.prog Rows.fracReadsRow.laid w) (fun _ _ _ hh h => h.of_heap hh) Tryz.own started (by kernel_rfl) Tryz.func4
    (ChangeSpec.witness_shaped (enc := enc) (C := Tryz.checked) (os := os) (X := fun w _ => laidMetH Tryz.prog Rows.fracReadsRow.laid w) false (World.laidAll Tryz.prog os Rows.fracReadsRow.laid) #[.string ⟨#[]⟩, .int .i64 0] 12 (World.laidAll_os _ _ _)
      (World.shaped_of_ZipB (by kernel_rfl) (by kernel_rfl)) (by kernel_rfl) (by kernel_rfl) (by kernel_rfl)
      (by rw [MakeChecks.laidMetH_plain _ _ _ (by kernel_rfl)]; exact laidMet_laidAll _ (by kernel_rfl) (by kernel_rfl))) ?_
  intro W base args ds gs before hval0 hW _ _ _ _
  have hval : ∀ (j : Nat) t v, Tryz.f4.params[j]? = some t → args[j]? = some v → Value.okWide Tryz.prog W .any base t v := hval0
  have hW' := hW
  obtain ⟨p, q, hA0, hV0, rfl, hfz, hnd⟩ := hW
  have hA : DataW.TrodAll enc Tryz.prog W 0 (fun _ => true) true Tryz.f4.params.toList args.toList ds p := hA0
  have hps : Tryz.f4.params.toList = [9, 2] := rfl
  rw [hps] at hA
  obtain ⟨v0, vs0, d0, ds0, p0, q0, e0, rfl, rfl, h0, hr0⟩ := trodAll_cons hA
  obtain ⟨v1, vs1, d1, ds1, p1, q1, rfl, rfl, rfl, h1, hr1⟩ := trodAll_cons hr0
  obtain ⟨rfl, rfl, rfl⟩ := trodAll_nil hr1
  obtain rfl : args = #[v0, v1] := by cases args; simp_all
  obtain ⟨rfl, rfl⟩ := trodVars_none hV0
  obtain ⟨x0, rfl, rfl, rfl, w0⟩ := open_string (t := 9) Tryz.underlying9 (hval 0 _ _ rfl rfl) h0
  obtain ⟨x1, rfl, rfl, rfl, w1⟩ := open_int (t := 2) Tryz.underlying2 (hval 1 _ _ rfl rfl) h1
  have hn1 : -9223372036854775808 ≤ x1 ∧ x1 ≤ 9223372036854775807 := by simp [Lit.wf, IntKind.min, IntKind.max, IntKind.signed, IntKind.bits] at w1; omega
  have key := AM.FracReads_spec (P := Tryz.prog) AM.prg_ok x0 x1 hn1
  have hb : Tryz.f4.body = some (AM.bodyOf Tryz.f4) := rfl
  refine (CSpec.calls key Tryz.func4 hb (by kernel_rfl) (vs := [.string x0, .int .i64 x1]) (w := W) (.str _ (.int _ _ (.nil)))).mono fun e W' ⟨he, hB⟩ => ?_
  subst he
  have e1 : Rows.fracReadsSpec.fn H ([.lit (.string x0.data.toList), .lit (.int .i64 x1)] ++ []) = { results := [.lit (.bool true)], args := [.lit (.string x0.data.toList), .lit (.int .i64 x1)] } := rfl
  refine ⟨_, rfl, _, _, _, [], ([] : List MemPlace) ++ (([] : List MemPlace)), [], hW', ?_, ?_, ?_, hB.frame _, fun h => by cases h⟩
  · rw [e1]; exact trodAll_mk1 (shut_bool Tryz.underlying4 true)
  · rw [e1]; exact trodAll_mk2 (shut_string Tryz.underlying9 w0) (shut_int Tryz.underlying2 w1)
  · first | exact ⟨rfl, rfl⟩ | exact rfl | trivial | constructor
theorem fracReads_row : Rows.FracReadsSaid :=
  OpenClaim.holds_of_wide 4 Tryz.f4 rfl rfl rfl rfl rfl rfl rfl ⟨rfl, rfl, rfl, rfl, rfl⟩ rfl rfl rfl rfl rfl (by kernel_rfl) Tryz.func4 (by kernel_rfl)
    (of_decide_eq_true (by kernel_rfl)) (by unfold Func.isWrapper; first | (rw [if_pos (by decide +kernel)]; kernel_rfl) | (rw [if_neg (by decide +kernel)]; exact ⟨rfl, rfl⟩))
    (fun os started H enc _ => fracReads_lifted os started H enc)
theorem fracReads_holds : Rows.FracReadsCardSaid :=
  Claim7.holds_tied_plain_at .later [] [.data, .pinned] true (true, "b173d6841dddfda294439f5e46e116b2fc847e0075d1adbe50d09dc807bf1d5d") false fracReads_row (fun _ h => by cases h) (by kernel_rfl) (fun _ h => by cases h) fracReads_row_tie rfl ⟨rfl, rfl⟩ (by kernel_rfl) rfl
    (fun f fn hf hfn => by
      obtain rfl : f = 4 := Option.some.inj ((show Tryz.prog.funcNamed "chamfer/chamferlaw03.FracReads" = some 4 by kernel_rfl).symm.trans hf) |>.symm
      obtain rfl : fn = Tryz.f4 := (Option.some.inj (Tryz.func4.symm.trans hfn)).symm
      exact ⟨by kernel_rfl, fun j t ht => by
        have hm : t ∈ ([9, 2] : List TypeId) := by simpa using Array.mem_of_getElem? (show (#[9, 2] : Array TypeId)[j]? = some t from ht)
        have hall : (([9, 2] : List TypeId).all fun u => !Tryz.prog.wantsStandIn u) = true := by kernel_rfl
        exact (show Tryz.prog.wantsStandIn t = false by simpa using List.all_eq_true.1 hall t hm)⟩)
    (by kernel_rfl)
#print axioms fracReads_holds
end Go.Proofs.YtjnhekedclcbfaaGreatDoor
