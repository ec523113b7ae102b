/- VecWords, whatever it is given: the given row. -/
import Derived.Test.YtbfapomdnocbaaaGreatDoorVo
import Derived.Test.YtbfapomdnocbaaaGreatDoorB3
import Derived.Lay
import Derived.LaidOnce
import Derived.SevenTiedAt
import Derived.Test.YtbfapomdnocbaaaGreatDoorCards
import Derived.Test.YtbfapomdnocbaaaGreatDoorTie
namespace Go.Proofs.YtbfapomdnocbaaaGreatDoor
set_option linter.all false
set_option autoImplicit true
set_option relaxedAutoImplicit true
open Go Go.Proofs Go.ChangeShapes Go.WideShapes Go.ChangeAt Go.RowKit
open Go.ChangeMaps (open_string shut_string)
set_option maxRecDepth 100000
theorem vecWords_lifted (os : Os) (started : os.Started) (H : Type) (enc : TypeId × Value → H) :
 ReturnsInHanded {} Tryz.checked os 3 .any (fun w args => (Rows.vecWordsSpec.pre enc Tryz.prog Tryz.f3 Rows.vecWordsRow.domain false w args ∧ laidMetH Tryz.prog Rows.vecWordsRow.laid w) ∧ sizedMet enc Tryz.prog Tryz.f3 (OpenSpec.ofChange Rows.vecWordsSpec) false w args)
  (Rows.vecWordsSpec.post enc Tryz.prog Tryz.f3 false true false false) := by
 refine returnsInHanded_of_change_and (C := Tryz.checked) (X := fun w _ => laidMetH Tryz.prog Rows.vecWordsRow.laid w) (fun _ _ _ hh h => h.of_heap hh) Tryz.own started (by kernel_rfl) Tryz.func3
  (ChangeSpec.witness_shaped (enc := enc) (C := Tryz.checked) (os := os) (X := fun w _ => laidMetH Tryz.prog Rows.vecWordsRow.laid w) false (World.laidAll Tryz.prog os Rows.vecWordsRow.laid) #[.int .i64 0, .int .i64 0, .int .i64 0] 12 (World.laidAll_os _ _ _)
    (World.shaped_of_ZipB (by kernel_rfl) (by kernel_rfl)) (by kernel_rfl) (by kernel_rfl) (by kernel_rfl)
    (by rw [MakeChecks.laidMetH_plain _ _ _ (by kernel_rfl)]; exact laidMet_laidAll _ (by kernel_rfl) (by kernel_rfl))) ?_
 intro W base args ds gs before hval0 hW _ hwt _ _
 have hval : ∀ (j : Nat) t v, Tryz.f3.params[j]? = some t → args[j]? = some v → Value.okWide Tryz.prog W .any base t v := hval0
 have hW' := hW
 obtain ⟨p, q, hA0, hV0, rfl, hfz, hnd⟩ := hW
 have hA : DataW.TrodAll enc Tryz.prog W 0 (fun _ => true) true Tryz.f3.params.toList args.toList ds p := hA0
 have hps : Tryz.f3.params.toList = [2, 2, 2] := rfl
 rw [hps] at hA
 obtain ⟨v0, vs0, d0, ds0, p0, q0, e0, rfl, rfl, h0, hr0⟩ := trodAll_cons hA
 obtain ⟨v1, vs1, d1, ds1, p1, q1, rfl, rfl, rfl, h1, hr1⟩ := trodAll_cons hr0
 obtain ⟨v2, vs2, d2, ds2, p2, q2, rfl, rfl, rfl, h2, hr2⟩ := trodAll_cons hr1
 obtain ⟨rfl, rfl, rfl⟩ := trodAll_nil hr2
 obtain rfl : args = #[v0, v1, v2] := by cases args; simp_all
 obtain ⟨rfl, rfl⟩ := trodVars_none hV0
 obtain ⟨x0, rfl, rfl, rfl, w0⟩ := open_int (t := 2) Tryz.underlying2 (hval 0 _ _ rfl rfl) h0
 have hn0 : -9223372036854775808 ≤ x0 ∧ x0 ≤ 9223372036854775807 := by simp [Lit.wf, IntKind.min, IntKind.max, IntKind.signed, IntKind.bits] at w0; omega
 obtain ⟨x1, rfl, rfl, rfl, w1⟩ := open_int (t := 2) Tryz.underlying2 (hval 1 _ _ rfl rfl) h1
 have hn1 : -9223372036854775808 ≤ x1 ∧ x1 ≤ 9223372036854775807 := by simp [Lit.wf, IntKind.min, IntKind.max, IntKind.signed, IntKind.bits] at w1; omega
 obtain ⟨x2, rfl, rfl, rfl, w2⟩ := open_int (t := 2) Tryz.underlying2 (hval 2 _ _ rfl rfl) h2
 have hn2 : -9223372036854775808 ≤ x2 ∧ x2 ≤ 9223372036854775807 := by simp [Lit.wf, IntKind.min, IntKind.max, IntKind.signed, IntKind.bits] at w2; omega
 have key := AM.VecWords_spec (P := Tryz.prog) AM.prg_ok x0 hn0 x1 hn1 x2 hn2
 have hb : Tryz.f3.body = some (AM.bodyOf Tryz.f3) := rfl
 refine (CSpec.calls key Tryz.func3 hb (by kernel_rfl) (vs := [.int .i64 x0, .int .i64 x1, .int .i64 x2]) (w := W) (.int _ _ (.int _ _ (.int _ _ (.nil))))).mono fun e W' ⟨he, hB⟩ => ?_
 subst he
 have e1 : Rows.vecWordsSpec.fn H ([.lit (.int .i64 x0), .lit (.int .i64 x1), .lit (.int .i64 x2)] ++ []) = { results := [.lit (.bool true)], args := [.lit (.int .i64 x0), .lit (.int .i64 x1), .lit (.int .i64 x2)] } := rfl
 refine ⟨_, rfl, _, _, _, [], ([] : List MemPlace) ++ (([] : List MemPlace) ++ (([] : List MemPlace))), [], hW', ?_, ?_, ?_, hB.frame _, fun h => by cases h⟩
 · rw [e1]; exact trodAll_mk1 (shut_bool Tryz.underlying4 true)
 · rw [e1]; exact trodAll_cons_mk (shut_int Tryz.underlying2 w0) (trodAll_mk2 (shut_int Tryz.underlying2 w1) (shut_int Tryz.underlying2 w2))
 · first | exact ⟨rfl, rfl⟩ | exact rfl | trivial | constructor
theorem vecWords_row : Rows.VecWordsSaid :=
 OpenClaim.holds_of_wide 3 Tryz.f3 rfl rfl rfl rfl rfl rfl rfl ⟨rfl, rfl, rfl, rfl, rfl⟩ rfl rfl rfl rfl rfl (by kernel_rfl) Tryz.func3 (by kernel_rfl)
  (of_decide_eq_true (by kernel_rfl)) (by unfold Func.isWrapper; first | (rw [if_pos (by decide +kernel)]; kernel_rfl) | (rw [if_neg (by decide +kernel)]; exact ⟨rfl, rfl⟩))
  (fun os started H enc _ => vecWords_lifted os started H enc)
theorem vecWords_holds : Rows.VecWordsCardSaid :=
 Claim7.holds_tied_plain_at .later [] [.data, .pinned] true (true, "cb29fab55bc7995ab276d01e3a595804839181ecef77fbc7d0ed9a46fc6f84b5") false vecWords_row (fun _ h => by cases h) (by kernel_rfl) (fun _ h => by cases h) vecWords_row_tie rfl ⟨rfl, rfl⟩ (by kernel_rfl) rfl
  (fun f fn hf hfn => by
    obtain rfl : f = 3 := Option.some.inj ((show Tryz.prog.funcNamed "chamfer/chamferlaw04.VecWords" = some 3 by kernel_rfl).symm.trans hf) |>.symm
    obtain rfl : fn = Tryz.f3 := (Option.some.inj (Tryz.func3.symm.trans hfn)).symm
    exact ⟨by kernel_rfl, fun j t ht => by
     have hm : t ∈ ([2] : List TypeId) := by simpa using Array.mem_of_getElem? (show (#[2, 2, 2] : Array TypeId)[j]? = some t from ht)
     have hall : (([2] : List TypeId).all fun u => !Tryz.prog.wantsStandIn u) = true := by kernel_rfl
     exact (show Tryz.prog.wantsStandIn t = false by simpa using List.all_eq_true.1 hall t hm)⟩)
  (by kernel_rfl)
#print axioms vecWords_holds
end Go.Proofs.YtbfapomdnocbaaaGreatDoor
