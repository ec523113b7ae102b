/- Package nat: making numbers, their digits. -/
import Derived.Test.YtlgimmafejbmgaaPg
namespace Go.Proofs.Ytlgimmafejbmgaa.AM
set_option linter.all false
set_option autoImplicit true
set_option relaxedAutoImplicit true
open Go Go.Proofs
set_option maxRecDepth 100000
set_option maxHeartbeats 4000000
set_option linter.unusedSimpArgs false
variable {P : Program}

theorem Of_spec (hP : PrgOk P) (n : Nat) (hn : n < 18446744073709551616) : CSpec P 15 [.int .u64 n] (.agg [.opq (.nat (n)), .pad]) := by
  have HE := EnvOk.no hP.t0
  refine CSpec_vc (E := ⟨T0, noS⟩) (fn15 hP) HE hP.mix rfl (by first | rfl | (simp only [go_sem]; done)) (by first | rfl | (simp only [go_sem]; done)) (Nat.le_of_ble_eq_true rfl) ?_
  simp (maxSteps := 1000000) only [go_sem, Nat.reduceBEq, Nat.reduceAdd, Nat.reduceLT, Nat.reduceMul, Nat.reduceSub, Nat.reduceLeDiff, Nat.reduceEqDiff, Int.reduceToNat, Nat.reduceBeqDiff, Nat.reduceBneDiff, decide_false, and_self, List.reduceReplicate, List.flatten_cons, List.flatten_nil, true_and, and_true, eq_self, decide_true, reduceIte, reduceCtorEq, List.any_toArray, Region.binds, Int.reduceBEq, Int.reduceBNe, Int.reduceLT]
  exact Conv.nat1 hn

theorem cut_spec (hP : PrgOk P) (l : List Nat) (hd : ∀ d ∈ l, d < 18446744073709551616) (hn : l.length < 4611686018427387904) : CSpec P 43 [.imm l.length (List.map (fun d : Nat => AV.int .u64 (d : Int)) (l))] (.agg [.opq (.nat (dOf 18446744073709551616 l)), .pad]) := by
  have HE := EnvOk.no hP.t0
  refine CSpec_vc (E := ⟨T0, noS⟩) (fn43 hP) HE hP.mix rfl (by first | rfl | (simp only [go_sem]; done)) (by first | rfl | (simp only [go_sem]; done)) (Nat.le_of_ble_eq_true rfl) ?_
  simp (maxSteps := 1000000) only [go_sem, Nat.reduceBEq, Nat.reduceAdd, Nat.reduceLT, Nat.reduceMul, Nat.reduceSub, Nat.reduceLeDiff, Nat.reduceEqDiff, Int.reduceToNat, Nat.reduceBeqDiff, Nat.reduceBneDiff, decide_false, and_self, List.reduceReplicate, List.flatten_cons, List.flatten_nil, true_and, and_true, eq_self, decide_true, reduceIte, reduceCtorEq, List.any_toArray, Region.binds, Int.reduceBEq, Int.reduceBNe, Int.reduceLT]
  refine trX_loop HE hP.mix [0] (fun k : Nat => ⟨upd (upd (upd (fun _ => .junk) 0 (.imm l.length (List.map (fun d : Nat => AV.int .u64 (d : Int)) (l)))) 2 (.ref 0 0)) 3 (.int .i64 (k : Int)), upd (fun _ => .unused) 0 (.live [.int .u64 0, .nils]), 33⟩) (fun k => k ≤ l.length ∧ dOf 18446744073709551616 (l.take k) = dOf 18446744073709551616 l) (fun k => k) l.length 1
    (by repeat (first | exact Has.nil | refine Has.upd rfl ?_)) (Kept.of rfl (by repeat (first | exact KT.nil | refine KT.upd rfl (by first | rfl | exact hr | exact hr2 | (simp only [go_sem]; done)) ?_)) (KM.one rfl rfl)) ⟨Nat.le_refl _, by simp⟩ 33 (by kernel_rfl) ?_
  intro k ⟨hk, he⟩
  cases k with
  | zero =>
    simp (maxSteps := 1000000) only [go_sem, Nat.reduceBEq, Nat.reduceAdd, Nat.reduceLT, Nat.reduceMul, Nat.reduceSub, Nat.reduceLeDiff, Nat.reduceEqDiff, Int.reduceToNat, Nat.reduceBeqDiff, Nat.reduceBneDiff, decide_false, and_self, List.reduceReplicate, List.flatten_cons, List.flatten_nil, true_and, and_true, eq_self, decide_true, reduceIte, reduceCtorEq, List.any_toArray, Region.binds, Int.reduceBEq, Int.reduceBNe, Int.reduceLT]
    have : dOf 18446744073709551616 l = 0 := by rw [← he]; rfl
    rw [this]; exact Conv.nat1 (a := 0) (by decide)
  | succ k =>
    have h2 := wi_nat k (by omega)
    have hk' : k < l.length := by omega
    have hk2 : k ≤ l.length := by omega
    have htk := take_snoc hk'
    simp (maxSteps := 1000000) only [go_sem, Nat.reduceBEq, Nat.reduceAdd, Nat.reduceLT, Nat.reduceMul, Nat.reduceSub, Nat.reduceLeDiff, Nat.reduceEqDiff, Int.reduceToNat, Nat.reduceBeqDiff, Nat.reduceBneDiff, decide_false, and_self, List.reduceReplicate, List.flatten_cons, List.flatten_nil, true_and, and_true, eq_self, decide_true, reduceIte, reduceCtorEq, List.any_toArray, Region.binds, Int.reduceBEq, Int.reduceBNe, Int.reduceLT, h2, gU' hk', hk', hk2]
    refine if_split (fun hz => ?_) (fun hz => ?_)
    · simp (maxSteps := 1000000) only [go_sem, Nat.reduceBEq, Nat.reduceAdd, Nat.reduceLT, Nat.reduceMul, Nat.reduceSub, Nat.reduceLeDiff, Nat.reduceEqDiff, Int.reduceToNat, Nat.reduceBeqDiff, Nat.reduceBneDiff, decide_false, and_self, List.reduceReplicate, List.flatten_cons, List.flatten_nil, true_and, and_true, eq_self, decide_true, reduceIte, reduceCtorEq, List.any_toArray, Region.binds, Int.reduceBEq, Int.reduceBNe, Int.reduceLT, h2]
      have hz := eq_of_beq hz
      refine ⟨k, Kept.of rfl (by repeat (first | exact KT.nil | refine KT.upd rfl (by first | rfl | exact hr | exact hr2 | (simp only [go_sem]; done)) ?_)) (KM.one rfl rfl), ⟨by omega, ?_⟩, by omega⟩
      rw [← he, htk, hz, dOf_append]; simp [dOf]
    · have hz : l.getD k 0 ≠ 0 := by simpa using hz
      simp (maxSteps := 1000000) only [go_sem, Nat.reduceBEq, Nat.reduceAdd, Nat.reduceLT, Nat.reduceMul, Nat.reduceSub, Nat.reduceLeDiff, Nat.reduceEqDiff, Int.reduceToNat, Nat.reduceBeqDiff, Nat.reduceBneDiff, decide_false, and_self, List.reduceReplicate, List.flatten_cons, List.flatten_nil, true_and, and_true, eq_self, decide_true, reduceIte, reduceCtorEq, List.any_toArray, Region.binds, Int.reduceBEq, Int.reduceBNe, Int.reduceLT]
      have hcan : Canon (l.take (k + 1)) := by
        intro h; rw [List.getLast_eq_getElem]
        have : (l.take (k + 1)).length - 1 = k := by simp; omega
        simp only [this]
        simpa [hk'] using hz
      refine if_split (fun hk1 => ?_) (fun hk1 => ?_)
      · obtain rfl := eq_of_beq hk1
        have hd0 : dOf 18446744073709551616 l = l.getD 0 0 := by rw [← he, htk]; simp [dOf]
        simp (maxSteps := 1000000) only [go_sem, Nat.reduceBEq, Nat.reduceAdd, Nat.reduceLT, Nat.reduceMul, Nat.reduceSub, Nat.reduceLeDiff, Nat.reduceEqDiff, Int.reduceToNat, Nat.reduceBeqDiff, Nat.reduceBneDiff, decide_false, and_self, List.reduceReplicate, List.flatten_cons, List.flatten_nil, true_and, and_true, eq_self, decide_true, reduceIte, reduceCtorEq, List.any_toArray, Region.binds, Int.reduceBEq, Int.reduceBNe, Int.reduceLT, gU' hk', gU hk', hk']
        rw [hd0]
        exact Conv.nat1 (hd _ (getD_mem hk'))
      · simp (maxSteps := 1000000) only [go_sem, Nat.reduceBEq, Nat.reduceAdd, Nat.reduceLT, Nat.reduceMul, Nat.reduceSub, Nat.reduceLeDiff, Nat.reduceEqDiff, Int.reduceToNat, Nat.reduceBeqDiff, Nat.reduceBneDiff, decide_false, and_self, List.reduceReplicate, List.flatten_cons, List.flatten_nil, true_and, and_true, eq_self, decide_true, reduceIte, reduceCtorEq, List.any_toArray, Region.binds, Int.reduceBEq, Int.reduceBNe, Int.reduceLT, hk]
        rw [← he]
        have hk3 : k ≠ 0 := fun e => by rw [e] at hk1; simp at hk1
        exact Conv.natL (fun d hd' => hd d (List.mem_of_mem_take hd')) hcan (by simp; omega) (by simp; omega)

/-- What `cut` answers. -/
def cutS : List AV → Option (Prop × AV)
  | [.imm n cs] => some (cs = (List.map (fun d : Nat => AV.int .u64 (d : Int)) (cs.map ud)) ∧ n = cs.length ∧ (∀ d ∈ cs.map ud, d < 18446744073709551616) ∧ n < 4611686018427387904, (.agg [.opq (.nat (dOf 18446744073709551616 (cs.map ud))), .pad]))
  | _ => none
theorem cutS_ok (hP : PrgOk P) (args p r) (h : cutS args = some (p, r)) (hp : p) : CSpec P 43 args r := by
  unfold cutS at h
  split at h
  · simp only [Option.some.injEq, Prod.mk.injEq] at h
    obtain ⟨rfl, rfl⟩ := h
    obtain ⟨h1, h2, h3, h4⟩ := hp
    have := cut_spec hP _ h3 (by simp; omega)
    rw [← h1, List.length_map, ← h2] at this
    exact this
  · simp at h

theorem digits_spec (hP : PrgOk P) (a : Nat) : CSpec P 44 [(.agg [.opq (.nat (a)), .pad])] (sv (digs 18446744073709551616 a)) := by
  have HE := EnvOk.no hP.t0
  refine CSpec.cv ?_ (CvL.natIn a .nil)
  by_cases ha : a < 18446744073709551616
  · rw [natC_small ha]
    refine CSpec_vc (E := ⟨T0, noS⟩) (fn44 hP) HE hP.mix rfl (by first | rfl | (simp only [go_sem]; done)) (by first | rfl | (simp only [go_sem]; done)) (Nat.le_of_ble_eq_true rfl) ?_
    simp (maxSteps := 1000000) only [go_sem, Nat.reduceBEq, Nat.reduceAdd, Nat.reduceLT, Nat.reduceMul, Nat.reduceSub, Nat.reduceLeDiff, Nat.reduceEqDiff, Int.reduceToNat, Nat.reduceBeqDiff, Nat.reduceBneDiff, decide_false, and_self, List.reduceReplicate, List.flatten_cons, List.flatten_nil, true_and, and_true, eq_self, decide_true, reduceIte, reduceCtorEq, List.any_toArray, Region.binds, Int.reduceBEq, Int.reduceBNe, Int.reduceLT]
    refine if_split (fun h => ?_) (fun h => ?_)
    · rw [eq_of_beq h, digs_zero, sv_nil]
      simp (maxSteps := 1000000) only [go_sem, Nat.reduceBEq, Nat.reduceAdd, Nat.reduceLT, Nat.reduceMul, Nat.reduceSub, Nat.reduceLeDiff, Nat.reduceEqDiff, Int.reduceToNat, Nat.reduceBeqDiff, Nat.reduceBneDiff, decide_false, and_self, List.reduceReplicate, List.flatten_cons, List.flatten_nil, true_and, and_true, eq_self, decide_true, reduceIte, reduceCtorEq, List.any_toArray, Region.binds, Int.reduceBEq, Int.reduceBNe, Int.reduceLT]
      exact .refl _
    · have h : a ≠ 0 := by simpa using h
      rw [digs_small _ _ (by decide) ha h, sv_ne (by simp)]
      simp (maxSteps := 1000000) only [go_sem, Nat.reduceBEq, Nat.reduceAdd, Nat.reduceLT, Nat.reduceMul, Nat.reduceSub, Nat.reduceLeDiff, Nat.reduceEqDiff, Int.reduceToNat, Nat.reduceBeqDiff, Nat.reduceBneDiff, decide_false, and_self, List.reduceReplicate, List.flatten_cons, List.flatten_nil, true_and, and_true, eq_self, decide_true, reduceIte, reduceCtorEq, List.any_toArray, Region.binds, Int.reduceBEq, Int.reduceBNe, Int.reduceLT]
      exact .refl _
  · have h : a ≠ 0 := by omega
    rw [natC_great ha, sv_ne (by rw [digs_eq _ _ (by decide) h]; simp)]
    refine CSpec_vc (E := ⟨T0, noS⟩) (fn44 hP) HE hP.mix rfl (by first | rfl | (simp only [go_sem]; done)) (by first | rfl | (simp only [go_sem]; done)) (Nat.le_of_ble_eq_true rfl) ?_
    simp (maxSteps := 1000000) only [go_sem, Nat.reduceBEq, Nat.reduceAdd, Nat.reduceLT, Nat.reduceMul, Nat.reduceSub, Nat.reduceLeDiff, Nat.reduceEqDiff, Int.reduceToNat, Nat.reduceBeqDiff, Nat.reduceBneDiff, decide_false, and_self, List.reduceReplicate, List.flatten_cons, List.flatten_nil, true_and, and_true, eq_self, decide_true, reduceIte, reduceCtorEq, List.any_toArray, Region.binds, Int.reduceBEq, Int.reduceBNe, Int.reduceLT]
    exact ⟨by have := digs_length_gt 18446744073709551616 a 1 (by decide) (by omega); omega, .refl _⟩

def digitsS : List AV → Option (Prop × AV) := on1 fun a => (True, sv (digs 18446744073709551616 a))
theorem digitsS_ok (hP : PrgOk P) (args p r) : digitsS args = some (p, r) → p → CSpec P 44 args r := on1_ok (fun a _ => digits_spec hP a) args p r

def OfS : List AV → Option (Prop × AV)
  | [.int .u64 n] => some (0 ≤ n ∧ n < 18446744073709551616, (.agg [.opq (.nat (n.toNat)), .pad]))
  | _ => none
theorem OfS_ok (hP : PrgOk P) (args p r) (h : OfS args = some (p, r)) (hp : p) : CSpec P 15 args r := by
  unfold OfS at h
  split at h
  · simp only [Option.some.injEq, Prod.mk.injEq] at h
    obtain ⟨rfl, rfl⟩ := h
    obtain ⟨n', e⟩ := Int.eq_ofNat_of_zero_le hp.1
    subst e
    have := Of_spec hP n' (by omega)
    exact this
  · simp at h

/-- Does a machine's word hold it? -/
theorem Uint64_spec (hP : PrgOk P) (a : Nat) : CSpec P 13 [(.agg [.opq (.nat (a)), .pad])] (.tup [.int .u64 ((if a < 18446744073709551616 then a else 0 : Nat) : Int), .bool (decide (a < 18446744073709551616))]) := by
  have HE := EnvOk.no hP.t0
  refine CSpec.cv ?_ (CvL.natIn a .nil)
  by_cases ha : a < 18446744073709551616
  · rw [natC_small ha, if_pos ha, decide_eq_true ha]
    refine CSpec_vc (E := ⟨T0, noS⟩) (fn13 hP) HE hP.mix rfl (by first | rfl | (simp only [go_sem]; done)) (by first | rfl | (simp only [go_sem]; done)) (Nat.le_of_ble_eq_true rfl) ?_
    simp (maxSteps := 1000000) only [go_sem, Nat.reduceBEq, Nat.reduceAdd, Nat.reduceLT, Nat.reduceMul, Nat.reduceSub, Nat.reduceLeDiff, Nat.reduceEqDiff, Int.reduceToNat, Nat.reduceBeqDiff, Nat.reduceBneDiff, decide_false, and_self, List.reduceReplicate, List.flatten_cons, List.flatten_nil, true_and, and_true, eq_self, decide_true, reduceIte, reduceCtorEq, List.any_toArray, Region.binds, Int.reduceBEq, Int.reduceBNe, Int.reduceLT]
    exact .refl _
  · rw [natC_great ha, if_neg ha, decide_eq_false ha]
    refine CSpec_vc (E := ⟨T0, noS⟩) (fn13 hP) HE hP.mix rfl (by first | rfl | (simp only [go_sem]; done)) (by first | rfl | (simp only [go_sem]; done)) (Nat.le_of_ble_eq_true rfl) ?_
    simp (maxSteps := 1000000) only [go_sem, Nat.reduceBEq, Nat.reduceAdd, Nat.reduceLT, Nat.reduceMul, Nat.reduceSub, Nat.reduceLeDiff, Nat.reduceEqDiff, Int.reduceToNat, Nat.reduceBeqDiff, Nat.reduceBneDiff, decide_false, and_self, List.reduceReplicate, List.flatten_cons, List.flatten_nil, true_and, and_true, eq_self, decide_true, reduceIte, reduceCtorEq, List.any_toArray, Region.binds, Int.reduceBEq, Int.reduceBNe, Int.reduceLT]
    exact ⟨by have := digs_length_gt 18446744073709551616 a 1 (by decide) (by omega); omega, .refl _⟩

def Uint64S : List AV → Option (Prop × AV) := on1 fun a => (True, .tup [.int .u64 ((if a < 18446744073709551616 then a else 0 : Nat) : Int), .bool (decide (a < 18446744073709551616))])
theorem Uint64S_ok (hP : PrgOk P) (args p r) : Uint64S args = some (p, r) → p → CSpec P 13 args r := on1_ok (fun a _ => Uint64_spec hP a) args p r
attribute [go_sem] cutS digitsS OfS Uint64S
end Go.Proofs.Ytlgimmafejbmgaa.AM
