/- Texts as numbers; the same number. -/
import Derived.Test.YtlgimmafejbmgaaNs
namespace Go.Proofs.Ytlgimmafejbmgaa.AM
set_option linter.all false
set_option autoImplicit true
set_option relaxedAutoImplicit true
open Go Go.Proofs
set_option maxRecDepth 100000
set_option maxHeartbeats 8000000
set_option linter.unusedSimpArgs false
variable {P : Program}

theorem lap_cons {α : Type} (a : α) (l r : List α) : List.append (a :: l) r = a :: List.append l r := rfl
theorem lap_nil {α : Type} (r : List α) : List.append [] r = r := rfl
attribute [go_sem] lap_cons lap_nil
def okP (s : ByteArray) : Prop := okD (bl s) ∧ (bl s).length ≤ 256
def val (s : ByteArray) : Nat := valL (bl s)
theorem val_blen {s : ByteArray} (h : okP s) : blen (val s) ≤ 1024 := valL_blen h.1 h.2
theorem parse_yes {s : ByteArray} (h : okP s) : parseR (bl s) = .tup [(.agg [.opq (.nat (val s)), .pad]), .int .i64 0] := parse_ok h.1 h.2
theorem parse_no {s : ByteArray} (h : ¬ okP s) : ∃ e : Int, (e == 0) = false ∧ (e == 12 || e == 3) = true ∧ parseR (bl s) = .tup [(.agg [.opq (.nat (0)), .pad]), .int .i64 e] := by
  by_cases h1 : okD (bl s)
  · by_cases h2 : (bl s).length ≤ 256
    · exact absurd ⟨h1, h2⟩ h
    · exact ⟨3, by decide, by decide, parse_long h1 (by omega)⟩
  · exact ⟨12, by decide, by decide, parse_bad h1⟩

noncomputable def allR (a b c : ByteArray) : AV := by classical exact if okP a ∧ okP b ∧ okP c then .tup [.imm 3 [.opq (.nat (val a)), .pad, .opq (.nat (val b)), .pad, .opq (.nat (val c)), .pad], .bool true] else .tup [.nils, .bool false]
theorem allR_yes {a b c : ByteArray} (ha : okP a) (hb : okP b) (hc : okP c) : allR a b c = .tup [.imm 3 [.opq (.nat (val a)), .pad, .opq (.nat (val b)), .pad, .opq (.nat (val c)), .pad], .bool true] := by unfold allR; rw [if_pos ⟨ha, hb, hc⟩]
theorem allR_no {a b c : ByteArray} (h : ¬ (okP a ∧ okP b ∧ okP c)) : allR a b c = .tup [.nils, .bool false] := by unfold allR; rw [if_neg h]

theorem all_spec (hP : PrgOk P) (a b c : ByteArray) (hsa : (bl a).length ≤ 1099511627776) (hsb : (bl b).length ≤ 1099511627776) (hsc : (bl c).length ≤ 1099511627776) : CSpec P 29 [.imm 3 [.str a, .str b, .str c]] (allR a b c) := by
  have HE := Si_ok hP
  refine CSpec_vc (E := ⟨T0, Si⟩) (fn29 hP) HE hP.mix rfl (by first | rfl | (simp only [go_sem]; done)) (by first | rfl | (simp only [go_sem]; done)) (Nat.le_of_ble_eq_true rfl) ?_
  simp (maxSteps := 1000000) only [go_sem, Nat.reduceBEq, Nat.reduceAdd, Nat.reduceLT, Nat.reduceMul, Nat.reduceSub, Nat.reduceLeDiff, Nat.reduceEqDiff, Int.reduceToNat, Nat.reduceBeqDiff, Nat.reduceBneDiff, decide_false, and_self, List.reduceReplicate, List.flatten_cons, List.flatten_nil, true_and, and_true, eq_self, decide_true, reduceIte, reduceCtorEq, List.any_toArray, Region.binds, Int.reduceBEq, Int.reduceBNe, Int.reduceLT]
  refine trX_loopV HE hP.mix (fun i : Nat => match i with | 0 => [] | 1 => [110] | 2 => [120] | _ => [130]) (fun i => match i with
      | 0 => ⟨upd (upd (upd (upd (upd (upd (fun _ => .junk) 0 (.imm 3 [.str a, .str b, .str c])) 2 .nils) 3 (.bool false)) 4 .nils) 9 (.int .i64 3)) 10 (.int .i64 0), fun _ => .unused, 29⟩
      | 1 => ⟨upd (upd (upd (upd (upd (upd (fun _ => .junk) 0 (.imm 3 [.str a, .str b, .str c])) 2 .nils) 3 (.bool false)) 4 (.sl 110 0 1 2)) 9 (.int .i64 3)) 10 (.int .i64 1), upd (fun _ => .unused) 110 (.live [.opq (.nat (val a)), .pad]), 29⟩
      | 2 => ⟨upd (upd (upd (upd (upd (upd (fun _ => .junk) 0 (.imm 3 [.str a, .str b, .str c])) 2 .nils) 3 (.bool false)) 4 (.sl 120 0 2 2)) 9 (.int .i64 3)) 10 (.int .i64 2), upd (fun _ => .unused) 120 (.live [.opq (.nat (val a)), .pad, .opq (.nat (val b)), .pad]), 29⟩
      | _ => ⟨upd (upd (upd (upd (upd (upd (fun _ => .junk) 0 (.imm 3 [.str a, .str b, .str c])) 2 .nils) 3 (.bool false)) 4 (.sl 130 0 3 2)) 9 (.int .i64 3)) 10 (.int .i64 3), upd (fun _ => .unused) 130 (.live [.opq (.nat (val a)), .pad, .opq (.nat (val b)), .pad, .opq (.nat (val c)), .pad]), 29⟩)
    (fun i => i ≤ 3 ∧ (0 < i → okP a) ∧ (1 < i → okP b) ∧ (2 < i → okP c)) (fun i => 3 - i) 0 (fun i => match i with | 0 => 91 | 1 => 101 | _ => 111)
    (fun x r hr => absurd rfl hr) (Kept.of rfl (by repeat (first | exact KT.nil | refine KT.upd rfl (by first | rfl | exact hr | exact hr2 | (simp only [go_sem]; done)) ?_)) (KM.p (by repeat (first | exact KMp.nil | refine KMp.upd rfl (by first | rfl | (simp only [go_sem]; done)) ?_)))) ⟨by decide, fun h => absurd h (by decide), fun h => absurd h (by decide), fun h => absurd h (by decide)⟩ 29 (by kernel_rfl) ?_
  rintro i ⟨q1, q2, q3, q4⟩
  match i, q1 with
  | 0, _ =>
    by_cases hok : okP a
    · have hp := parse_yes hok
      simp (maxSteps := 1000000) only [go_sem, Nat.reduceBEq, Nat.reduceAdd, Nat.reduceLT, Nat.reduceMul, Nat.reduceSub, Nat.reduceLeDiff, Nat.reduceEqDiff, Int.reduceToNat, Nat.reduceBeqDiff, Nat.reduceBneDiff, decide_false, and_self, List.reduceReplicate, List.flatten_cons, List.flatten_nil, true_and, and_true, eq_self, decide_true, reduceIte, reduceCtorEq, List.any_toArray, Region.binds, Int.reduceBEq, Int.reduceBNe, Int.reduceLT, hp, hsa, Int.reduceLE]
      exact ⟨⟨by simp, fun _ => trivial⟩, 1, Kept.of rfl (by repeat (first | exact KT.nil | refine KT.upd rfl (by first | rfl | exact hr | exact hr2 | (simp only [go_sem]; done)) ?_)) (KM.p (by repeat (first | exact KMp.nil | refine KMp.upd rfl (by first | rfl | (simp only [go_sem]; done)) ?_))), ⟨by decide, fun _ => hok, fun h => absurd h (by decide), fun h => absurd h (by decide)⟩, by decide⟩
    ·
      obtain ⟨e, he, _, hp⟩ := parse_no hok
      have he' : (e != 0) = true := by unfold bne; rw [he]; rfl
      simp (maxSteps := 1000000) only [go_sem, Nat.reduceBEq, Nat.reduceAdd, Nat.reduceLT, Nat.reduceMul, Nat.reduceSub, Nat.reduceLeDiff, Nat.reduceEqDiff, Int.reduceToNat, Nat.reduceBeqDiff, Nat.reduceBneDiff, decide_false, and_self, List.reduceReplicate, List.flatten_cons, List.flatten_nil, true_and, and_true, eq_self, decide_true, reduceIte, reduceCtorEq, List.any_toArray, Region.binds, Int.reduceBEq, Int.reduceBNe, Int.reduceLT, hp, he', hsa, Int.reduceLE]
      rw [allR_no (fun h => hok (by first | exact h.1 | exact h.2.1 | exact h.2.2))]
      exact .refl _
  | 1, _ =>
    have h1 := q2 (by decide)
    by_cases hok : okP b
    · have hp := parse_yes hok
      simp (maxSteps := 1000000) only [go_sem, Nat.reduceBEq, Nat.reduceAdd, Nat.reduceLT, Nat.reduceMul, Nat.reduceSub, Nat.reduceLeDiff, Nat.reduceEqDiff, Int.reduceToNat, Nat.reduceBeqDiff, Nat.reduceBneDiff, decide_false, and_self, List.reduceReplicate, List.flatten_cons, List.flatten_nil, true_and, and_true, eq_self, decide_true, reduceIte, reduceCtorEq, List.any_toArray, Region.binds, Int.reduceBEq, Int.reduceBNe, Int.reduceLT, hp, hsb, Int.reduceLE]
      exact ⟨⟨by simp, by simp⟩, 2, Kept.of rfl (by repeat (first | exact KT.nil | refine KT.upd rfl (by first | rfl | exact hr | exact hr2 | (simp only [go_sem]; done)) ?_)) (KM.p (by repeat (first | exact KMp.nil | refine KMp.upd rfl (by first | rfl | (simp only [go_sem]; done)) ?_))), ⟨by decide, fun _ => h1, fun _ => hok, fun h => absurd h (by decide)⟩, by decide⟩
    ·
      obtain ⟨e, he, _, hp⟩ := parse_no hok
      have he' : (e != 0) = true := by unfold bne; rw [he]; rfl
      simp (maxSteps := 1000000) only [go_sem, Nat.reduceBEq, Nat.reduceAdd, Nat.reduceLT, Nat.reduceMul, Nat.reduceSub, Nat.reduceLeDiff, Nat.reduceEqDiff, Int.reduceToNat, Nat.reduceBeqDiff, Nat.reduceBneDiff, decide_false, and_self, List.reduceReplicate, List.flatten_cons, List.flatten_nil, true_and, and_true, eq_self, decide_true, reduceIte, reduceCtorEq, List.any_toArray, Region.binds, Int.reduceBEq, Int.reduceBNe, Int.reduceLT, hp, he', hsb, Int.reduceLE]
      rw [allR_no (fun h => hok (by first | exact h.1 | exact h.2.1 | exact h.2.2))]
      exact .refl _
  | 2, _ =>
    have h1 := q2 (by decide)
    have h2 := q3 (by decide)
    by_cases hok : okP c
    · have hp := parse_yes hok
      simp (maxSteps := 1000000) only [go_sem, Nat.reduceBEq, Nat.reduceAdd, Nat.reduceLT, Nat.reduceMul, Nat.reduceSub, Nat.reduceLeDiff, Nat.reduceEqDiff, Int.reduceToNat, Nat.reduceBeqDiff, Nat.reduceBneDiff, decide_false, and_self, List.reduceReplicate, List.flatten_cons, List.flatten_nil, true_and, and_true, eq_self, decide_true, reduceIte, reduceCtorEq, List.any_toArray, Region.binds, Int.reduceBEq, Int.reduceBNe, Int.reduceLT, hp, hsc, Int.reduceLE]
      exact ⟨⟨by simp, by simp⟩, 3, Kept.of rfl (by repeat (first | exact KT.nil | refine KT.upd rfl (by first | rfl | exact hr | exact hr2 | (simp only [go_sem]; done)) ?_)) (KM.p (by repeat (first | exact KMp.nil | refine KMp.upd rfl (by first | rfl | (simp only [go_sem]; done)) ?_))), ⟨by decide, fun _ => h1, fun _ => h2, fun _ => hok⟩, by decide⟩
    ·
      obtain ⟨e, he, _, hp⟩ := parse_no hok
      have he' : (e != 0) = true := by unfold bne; rw [he]; rfl
      simp (maxSteps := 1000000) only [go_sem, Nat.reduceBEq, Nat.reduceAdd, Nat.reduceLT, Nat.reduceMul, Nat.reduceSub, Nat.reduceLeDiff, Nat.reduceEqDiff, Int.reduceToNat, Nat.reduceBeqDiff, Nat.reduceBneDiff, decide_false, and_self, List.reduceReplicate, List.flatten_cons, List.flatten_nil, true_and, and_true, eq_self, decide_true, reduceIte, reduceCtorEq, List.any_toArray, Region.binds, Int.reduceBEq, Int.reduceBNe, Int.reduceLT, hp, he', hsc, Int.reduceLE]
      rw [allR_no (fun h => hok (by first | exact h.1 | exact h.2.1 | exact h.2.2))]
      exact .refl _
  | 3, _ =>
    simp (maxSteps := 1000000) only [go_sem, Nat.reduceBEq, Nat.reduceAdd, Nat.reduceLT, Nat.reduceMul, Nat.reduceSub, Nat.reduceLeDiff, Nat.reduceEqDiff, Int.reduceToNat, Nat.reduceBeqDiff, Nat.reduceBneDiff, decide_false, and_self, List.reduceReplicate, List.flatten_cons, List.flatten_nil, true_and, and_true, eq_self, decide_true, reduceIte, reduceCtorEq, List.any_toArray, Region.binds, Int.reduceBEq, Int.reduceBNe, Int.reduceLT, Int.lt_irrefl]
    rw [allR_yes (q2 (by decide)) (q3 (by decide)) (q4 (by decide))]
    exact .refl _
noncomputable def allS : List AV → Option (Prop × AV)
  | [.imm 3 [.str a, .str b, .str c]] => some ((bl a).length ≤ 1099511627776 ∧ (bl b).length ≤ 1099511627776 ∧ (bl c).length ≤ 1099511627776, allR a b c)
  | _ => none
theorem allS_ok (hP : PrgOk P) (args p r) (h : allS args = some (p, r)) (hp : p) : CSpec P 29 args r := by
  unfold allS at h
  split at h
  · simp only [Option.some.injEq, Prod.mk.injEq] at h
    obtain ⟨rfl, rfl⟩ := h
    exact all_spec hP _ _ _ hp.1 hp.2.1 hp.2.2
  · simp at h
attribute [go_sem] allS

theorem cmpI_zero {a b : Nat} : (cmpI a b == 0) = decide (a = b) := by
  rcases Nat.lt_trichotomy a b with h | h | h
  · rw [cmpI_lt h, decide_eq_false (by omega)]; rfl
  · rw [h, cmpI_eq, decide_eq_true rfl]; rfl
  · rw [cmpI_gt h, decide_eq_false (by omega)]; rfl
theorem same_spec (hP : PrgOk P) (a b : Nat) (ha : blen a ≤ 68719476736) (hb : blen b ≤ 68719476736) : CSpec P 30 [(.agg [.opq (.nat (a)), .pad]), (.agg [.opq (.nat (b)), .pad])] (.bool (decide (a = b))) := by
  have HE := Si_ok hP
  refine CSpec_vc (E := ⟨T0, Si⟩) (fn30 hP) HE hP.mix rfl (by first | rfl | (simp only [go_sem]; done)) (by first | rfl | (simp only [go_sem]; done)) (Nat.le_of_ble_eq_true rfl) ?_
  by_cases h : a = b
  · subst h
    have hc := cmpI_eq a
    have hd : decide (a = a) = true := decide_eq_true rfl
    simp (maxSteps := 1000000) only [go_sem, Nat.reduceBEq, Nat.reduceAdd, Nat.reduceLT, Nat.reduceMul, Nat.reduceSub, Nat.reduceLeDiff, Nat.reduceEqDiff, Int.reduceToNat, Nat.reduceBeqDiff, Nat.reduceBneDiff, decide_false, and_self, List.reduceReplicate, List.flatten_cons, List.flatten_nil, true_and, and_true, eq_self, decide_true, reduceIte, reduceCtorEq, List.any_toArray, Region.binds, Int.reduceBEq, Int.reduceBNe, Int.reduceLT, ha, hc, hd]
    exact .refl _
  · have hd : decide (a = b) = false := decide_eq_false h
    have hc : (cmpI a b == 0) = false := by rw [cmpI_zero, hd]
    simp (maxSteps := 1000000) only [go_sem, Nat.reduceBEq, Nat.reduceAdd, Nat.reduceLT, Nat.reduceMul, Nat.reduceSub, Nat.reduceLeDiff, Nat.reduceEqDiff, Int.reduceToNat, Nat.reduceBeqDiff, Nat.reduceBneDiff, decide_false, and_self, List.reduceReplicate, List.flatten_cons, List.flatten_nil, true_and, and_true, eq_self, decide_true, reduceIte, reduceCtorEq, List.any_toArray, Region.binds, Int.reduceBEq, Int.reduceBNe, Int.reduceLT, ha, hb, hc, hd]
    exact .refl _
def sameS : List AV → Option (Prop × AV) := on2 fun a b => (blen a ≤ 68719476736 ∧ blen b ≤ 68719476736, .bool (decide (a = b)))
theorem sameS_ok (hP : PrgOk P) (args p r) : sameS args = some (p, r) → p → CSpec P 30 args r := on2_ok (fun a b h => by exact same_spec hP a b h.1 h.2) args p r
attribute [go_sem] sameS
noncomputable def Sj : Nat → List AV → Option (Prop × AV) := addS (addS (addS Si 25 AddS) 29 allS) 30 sameS
theorem Sj_ok (hP : PrgOk P) : EnvOk P ⟨T0, Sj⟩ := (((Si_ok hP).add (AddS_ok hP)).add (allS_ok hP)).add (sameS_ok hP)
attribute [go_sem] Sj
end Go.Proofs.Ytlgimmafejbmgaa.AM
