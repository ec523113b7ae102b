/- NatBack, whatever the text and the number: the given row. -/
import Derived.Test.YtlgimmafejbmgaaNs
import Derived.Test.YtlgimmafejbmgaaSh
import Derived.Test.YtlgimmafejbmgaaRows
import Derived.ProofKit
import Derived.ChangeBears2
import Derived.OpenShut
import Derived.JoinedOf
import Derived.Handed
namespace Go.Proofs.Ytlgimmafejbmgaa
set_option linter.all false
set_option autoImplicit true
set_option relaxedAutoImplicit true
open Go Go.Proofs Go.ChangeShapes Go.WideShapes Go.ChangeAt Go.RowKit
open Go.ChangeMaps (open_string shut_string)
set_option maxRecDepth 100000
theorem CSpec.calls {P : Program} {f : Nat} {fn : Func} {c : Code} {args : List AM.AV} {b : Bool} (h : AM.CSpec P f args (.bool b)) (hf : P.funcs[f]? = some fn) (hb : fn.body = some c) (hn : (fn.name == "runtime.NumGoroutine") = false) {vs : List Value} {w : World}
    (hr : AM.RL (fun _ => False) (fun _ => none) w vs args) : Calls P f vs.toArray w fun e w' => e = .returned (.bool b) ∧ Below w.heap.size w w' := by
  have := h (fun _ => False) (fun _ => none) w vs (fun _ h => h.elim) hr
  unfold AM.Invk at this
  rw [AM.callFunc_enter hf hb hn] at this
  simp only [] at this
  refine this.mono fun e w' ⟨v, he, hv, hB⟩ => ?_
  rw [he, hv.bool_inv]; exact ⟨rfl, hB⟩
theorem Try.own : ownKnob Try.prog.godebug = none := by kernel_rfl
theorem natBack_lifted (os : Os) (started : os.Started) (H : Type) (enc : TypeId × Value → H) :
    ReturnsInHanded {} Try.checked os 4 .any (Rows.natBackSpec.pre6 enc Try.prog Try.f4 Rows.natBackRow.domain false) (Rows.natBackSpec.post enc Try.prog Try.f4 false true false false) := by
  refine returnsInHanded_of_change (C := Try.checked) Try.own started (by kernel_rfl) Try.func4
    (ChangeSpec.witness6 (enc := enc) (C := Try.checked) false ⟨#[], #[.string ⟨#[]⟩, .int .u64 0], []⟩ 8 (by kernel_rfl) (by kernel_rfl) (by kernel_rfl) (by kernel_rfl)) ?_
  intro W base args ds gs before hval0 hW _ _
  have hval : ∀ (j : Nat) t v, Try.f4.params[j]? = some t → args[j]? = some v → Value.okWide Try.prog W .any base t v := hval0
  have hW' := hW
  obtain ⟨p, q, hA0, hV0, rfl, hfz, hnd⟩ := hW
  have hA : DataW.TrodAll enc Try.prog W 0 (fun _ => true) true Try.f4.params.toList args.toList ds p := hA0
  have hps : Try.f4.params.toList = [9, 22] := rfl
  rw [hps] at hA
  obtain ⟨v0, v1, d0, d1, p0, p1, rfl, rfl, rfl, h0, h1⟩ := trodAll_two hA
  obtain ⟨rfl, rfl⟩ := trodVars_none hV0
  obtain ⟨s, rfl, rfl, rfl, ws⟩ := open_string (t := 9) Try.underlying9 (hval 0 _ _ rfl rfl) h0
  obtain ⟨n, rfl, rfl, rfl, wn⟩ := open_int (t := 22) Try.underlying22 (hval 1 _ _ rfl rfl) h1
  have hn : 0 ≤ n ∧ n < 18446744073709551616 := by simp [Lit.wf, IntKind.min, IntKind.max, IntKind.signed, IntKind.bits] at wn; omega
  have key := AM.NatBack_spec (P := Try.prog) AM.prg_ok s n.toNat (by omega)
  rw [Int.toNat_of_nonneg hn.1] at key
  have hb : Try.f4.body = some (AM.bodyOf Try.f4) := rfl
  refine (CSpec.calls key Try.func4 hb (by kernel_rfl) (vs := [.string s, .int .u64 n]) (w := W) (.str _ (.int _ _ .nil))).mono fun e W' ⟨he, hB⟩ => ?_
  subst he
  have e1 : Rows.natBackSpec.fn H ([.lit (.string s.data.toList), .lit (.int .u64 n)] ++ []) = { results := [.lit (.bool true)], args := [.lit (.string s.data.toList), .lit (.int .u64 n)] } := rfl
  refine ⟨_, rfl, _, _, _, [], [], [], hW', ?_, ?_, ?_, hB.frame _, fun h => by cases h⟩
  · rw [e1]; exact trodAll_mk1 (shut_bool Try.underlying4 true)
  · rw [e1]; exact trodAll_mk2 (shut_string Try.underlying9 ws) (shut_int Try.underlying22 wn)
  · first | exact ⟨rfl, rfl⟩ | exact rfl | trivial | constructor
theorem natBack_holds : Rows.NatBackSaid :=
  OpenClaim.holds_of_wide 4 Try.f4 rfl rfl rfl rfl rfl rfl rfl ⟨rfl, rfl, rfl, rfl, rfl⟩ rfl rfl rfl rfl rfl (by kernel_rfl) Try.func4 (by kernel_rfl)
    (of_decide_eq_true (by kernel_rfl)) (by unfold Func.isWrapper; first | (rw [if_pos (by decide +kernel)]; kernel_rfl) | (rw [if_neg (by decide +kernel)]; exact ⟨rfl, rfl⟩))
    (fun os started H enc _ => natBack_lifted os started H enc)
#print axioms natBack_holds
end Go.Proofs.Ytlgimmafejbmgaa
