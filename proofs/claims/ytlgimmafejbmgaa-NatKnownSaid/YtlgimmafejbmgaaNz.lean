/- NatKnown. -/
import Derived.Test.YtlgimmafejbmgaaNv
namespace Go.Proofs.Ytlgimmafejbmgaa.AM
set_option linter.all false
set_option autoImplicit true
set_option relaxedAutoImplicit true
open Go Go.Proofs
set_option maxRecDepth 100000
set_option maxHeartbeats 8000000
set_option linter.unusedSimpArgs false
variable {P : Program}

def repB (c : Nat) : ByteArray := ⟨(List.replicate c 57).toArray⟩
def RepOk (P : Program) : Prop := ∀ c : Nat, c ≤ 100000 → CSpec P 36 [.str ⟨#[57]⟩, .int .i64 (c : Int)] (.str (repB c))
def repS : List AV → Option (Prop × AV)
  | [.str s, .int .i64 c] => some (s = ⟨#[57]⟩ ∧ 0 ≤ c ∧ c.toNat ≤ 100000, .str (repB c.toNat))
  | _ => none
theorem repS_ok (hR : RepOk P) (args p r) (h : repS args = some (p, r)) (hp : p) : CSpec P 36 args r := by
  unfold repS at h
  split at h
  · simp only [Option.some.injEq, Prod.mk.injEq] at h
    obtain ⟨rfl, rfl⟩ := h
    obtain ⟨rfl, h2, h3⟩ := hp
    have := hR _ h3
    rw [nn h2] at this; exact this
  · simp at h
attribute [go_sem] repS
noncomputable def Sz : Nat → List AV → Option (Prop × AV) := addS Sj 36 repS
theorem Sz_ok (hP : PrgOk P) (hR : RepOk P) : EnvOk P ⟨T0, Sz⟩ := (Sj_ok hP).add (repS_ok hR)
attribute [go_sem] Sz
theorem bl_repB (c : Nat) : bl (repB c) = List.replicate c 57 := by
  unfold bl repB
  simp
theorem okD_rep (c : Nat) (h : 0 < c) : okD (List.replicate c 57) := by
  refine ⟨by intro e; have := congrArg List.length e; simp at this; omega, ?_, fun d hd => by rw [List.eq_of_mem_replicate hd]; decide⟩
  rintro ⟨_, h2⟩
  obtain ⟨n, rfl⟩ : ∃ n, c = n + 1 := ⟨c - 1, by omega⟩
  simp [List.replicate_succ] at h2
theorem bl_append (x y : ByteArray) : bl (x ++ y) = bl x ++ bl y := by
  unfold bl; simp [ByteArray.data_append]
theorem NatKnown_spec (hP : PrgOk P) (hR : RepOk P) : CSpec P 9 [] (.bool true) := by
  have HE := Sz_ok hP hR
  refine CSpec_vc (E := ⟨T0, Sz⟩) (fn9 hP) HE hP.mix rfl (by first | rfl | (simp only [go_sem]; done)) (by first | rfl | (simp only [go_sem]; done)) (Nat.le_of_ble_eq_true rfl) ?_
  have p1 : parseR (bl ⟨#[]⟩) = .tup [(.agg [.opq (.nat (0)), .pad]), .int .i64 12] := parse_bad (fun h => h.1 rfl)
  have p2 : parseR (bl ⟨#[48, 48, 55]⟩) = .tup [(.agg [.opq (.nat (0)), .pad]), .int .i64 12] := parse_bad (fun h => h.2.1 ⟨by decide, by decide⟩)
  have p3 : parseR (bl ⟨#[43, 49]⟩) = .tup [(.agg [.opq (.nat (0)), .pad]), .int .i64 12] := parse_bad (fun h => by have := h.2.2 43 (by decide); omega)
  have q1 : (bl ⟨#[]⟩).length ≤ 1099511627776 := by decide
  have q2 : (bl ⟨#[48, 48, 55]⟩).length ≤ 1099511627776 := by decide
  have q3 : (bl ⟨#[43, 49]⟩).length ≤ 1099511627776 := by decide
  obtain ⟨L6, hL6⟩ : ∃ L, bl (repB 256) = L := ⟨_, rfl⟩
  obtain ⟨L7, hL7⟩ : ∃ L, bl (repB 257) = L := ⟨_, rfl⟩
  have e6 : L6 = List.replicate 256 57 := by rw [← hL6, bl_repB]
  have e7 : L7 = List.replicate 257 57 := by rw [← hL7, bl_repB]
  have k6 : okD L6 := by rw [e6]; exact okD_rep 256 (by decide)
  have l6 : L6.length = 256 := by rw [e6, List.length_replicate]
  have l7 : L7.length = 257 := by rw [e7, List.length_replicate]
  have m6 : L6.length ≤ 1099511627776 := by omega
  have m7 : L7.length ≤ 1099511627776 := by omega
  obtain ⟨V, hV⟩ : ∃ V, valL L6 = V := ⟨_, rfl⟩
  have p4 : parseR L6 = .tup [(.agg [.opq (.nat (V)), .pad]), .int .i64 0] := by rw [parse_ok k6 (by omega), hV]
  have hVb : blen V ≤ 68719476736 := by
    have := valL_blen k6 (by omega)
    rw [hV] at this; omega
  have hVd : (decL V).length = 256 := by rw [← hV, decL_val k6, l6]
  have p5 : parseR L7 = .tup [(.agg [.opq (.nat (0)), .pad]), .int .i64 3] := parse_long (by rw [e7]; exact okD_rep 257 (by decide)) (by omega)
  have p6 : parseR (L6 ++ bl ⟨#[120]⟩) = .tup [(.agg [.opq (.nat (0)), .pad]), .int .i64 12] := parse_bad (fun h => by have := h.2.2 120 (List.mem_append_right _ (by decide)); omega)
  have m8 : L6.length + (bl ⟨#[120]⟩).length ≤ 1099511627776 := by rw [l6]; decide
  have m9 : (bl ⟨#[120]⟩).length = 1 := rfl
  clear e6 e7
  have b0 : blen 0 ≤ 68719476736 := by decide
  have b00 : blen 0 = 0 := by decide
  have b7 : blen 7 ≤ 68719476736 := by decide
  have b12 : blen 12 ≤ 68719476736 := by decide
  have b18 : blen 18 ≤ 68719476736 := by decide
  have b6 : blen 6 ≤ 68719476736 := by decide
  have g1 : Nat.gcd 12 18 = 6 := by decide
  have g2 : Nat.gcd 0 0 = 0 := by decide
  have d0 : ((decS 0).toList == (ByteArray.mk #[48]).toList) = true := by rw [show decS 0 = ByteArray.mk #[48] from rfl]; exact beq_self_eq_true _
  have d6 : ((decS 6).toList == (ByteArray.mk #[54]).toList) = true := by
    have h := decS_val (s := ByteArray.mk #[54]) (show okD [54] from ⟨by decide, by decide, by decide⟩)
    rw [show valL (bl (ByteArray.mk #[54])) = 6 from rfl] at h
    rw [h]; exact beq_self_eq_true _
  simp (maxSteps := 1000000) only [go_sem, Nat.reduceBEq, Nat.reduceAdd, Nat.reduceLT, Nat.reduceMul, Nat.reduceSub, Nat.reduceLeDiff, Nat.reduceEqDiff, Int.reduceToNat, Nat.reduceBeqDiff, Nat.reduceBneDiff, decide_false, and_self, List.reduceReplicate, List.flatten_cons, List.flatten_nil, true_and, and_true, eq_self, decide_true, reduceIte, reduceCtorEq, List.any_toArray, Region.binds, Int.reduceBEq, Int.reduceBNe, Int.reduceLT, p1, p2, p3, q1, q2, q3, hL6, hL7, l6, l7, m9, bl_append, p4, p5, p6, hVb, size_bl, bl_decS, hVd, b0, b00, b7, b12, b18, b6, g1, g2, d0, d6, List.length_replicate]
  exact ⟨by decide, by decide, by decide, by decide, by decide, by decide, .refl _⟩
end Go.Proofs.Ytlgimmafejbmgaa.AM
