/- Package nat: how long, which is greater. -/
import Derived.Test.YtlgimmafejbmgaaNa
namespace Go.Proofs.Ytlgimmafejbmgaa.AM
set_option linter.all false
set_option autoImplicit true
set_option relaxedAutoImplicit true
open Go Go.Proofs
set_option maxRecDepth 100000
set_option maxHeartbeats 4000000
set_option linter.unusedSimpArgs false
variable {P : Program}

def len64S : List AV → Option (Prop × AV)
  | [.int .u64 x] => some (0 ≤ x ∧ x.toNat < 18446744073709551616, .int .i64 (blen x.toNat : Nat))
  | _ => none
theorem len64S_ok (hP : PrgOk P) (args p r) (h : len64S args = some (p, r)) (hp : p) : CSpec P 39 args r := by
  unfold len64S at h
  split at h
  · simp only [Option.some.injEq, Prod.mk.injEq] at h
    obtain ⟨rfl, rfl⟩ := h
    exact (by have := hP.len64 _ hp.2; rw [nn hp.1] at this; exact this)
  · simp at h
def lz64S : List AV → Option (Prop × AV)
  | [.int .u64 x] => some (0 ≤ x ∧ x.toNat < 18446744073709551616, .int .i64 ((64 - blen x.toNat : Nat) : Int))
  | _ => none
theorem lz64S_ok (hP : PrgOk P) (args p r) (h : lz64S args = some (p, r)) (hp : p) : CSpec P 56 args r := by
  unfold lz64S at h
  split at h
  · simp only [Option.some.injEq, Prod.mk.injEq] at h
    obtain ⟨rfl, rfl⟩ := h
    exact (by have := hP.lz64 _ hp.2; rw [nn hp.1] at this; exact this)
  · simp at h
noncomputable def mul64S : List AV → Option (Prop × AV)
  | [.int .u64 x, .int .u64 y] => some ((0 ≤ x ∧ 0 ≤ y) ∧ x.toNat < 18446744073709551616 ∧ y.toNat < 18446744073709551616, .tup [.int .u64 ((mulh x.toNat y.toNat : Nat) : Int), .int .u64 ((mull x.toNat y.toNat : Nat) : Int)])
  | _ => none
theorem mul64S_ok (hP : PrgOk P) (args p r) (h : mul64S args = some (p, r)) (hp : p) : CSpec P 41 args r := by
  unfold mul64S at h
  split at h
  · simp only [Option.some.injEq, Prod.mk.injEq] at h
    obtain ⟨rfl, rfl⟩ := h
    exact (by have := hP.mul64 _ _ hp.2.1 hp.2.2; rw [nn hp.1.1, nn hp.1.2] at this; exact this)
  · simp at h
noncomputable def add64S : List AV → Option (Prop × AV)
  | [.int .u64 x, .int .u64 y, .int .u64 c] => some ((0 ≤ x ∧ 0 ≤ y ∧ 0 ≤ c) ∧ x.toNat < 18446744073709551616 ∧ c.toNat ≤ 1, .tup [.int .u64 ((addl x.toNat y.toNat c.toNat : Nat) : Int), .int .u64 ((addh x.toNat y.toNat c.toNat : Nat) : Int)])
  | _ => none
theorem add64S_ok (hP : PrgOk P) (args p r) (h : add64S args = some (p, r)) (hp : p) : CSpec P 42 args r := by
  unfold add64S at h
  split at h
  · simp only [Option.some.injEq, Prod.mk.injEq] at h
    obtain ⟨rfl, rfl⟩ := h
    exact (by rename_i x y c; have := hP.add64 x.toNat y.toNat c.toNat hp.2.1 hp.2.2; rw [nn hp.1.1, nn hp.1.2.1, nn hp.1.2.2] at this; exact this)
  · simp at h
noncomputable def sub64S : List AV → Option (Prop × AV)
  | [.int .u64 x, .int .u64 y, .int .u64 c] => some ((0 ≤ x ∧ 0 ≤ y ∧ 0 ≤ c) ∧ x.toNat < 18446744073709551616 ∧ c.toNat ≤ 1, .tup [.int .u64 ((subd x.toNat y.toNat c.toNat : Nat) : Int), .int .u64 ((bor x.toNat y.toNat c.toNat : Nat) : Int)])
  | _ => none
theorem sub64S_ok (hP : PrgOk P) (args p r) (h : sub64S args = some (p, r)) (hp : p) : CSpec P 48 args r := by
  unfold sub64S at h
  split at h
  · simp only [Option.some.injEq, Prod.mk.injEq] at h
    obtain ⟨rfl, rfl⟩ := h
    exact (by rename_i x y c; have := hP.sub64 x.toNat y.toNat c.toNat hp.2.1 hp.2.2; rw [nn hp.1.1, nn hp.1.2.1, nn hp.1.2.2] at this; exact this)
  · simp at h
attribute [go_sem] len64S lz64S mul64S add64S sub64S

noncomputable def Sa : Nat → List AV → Option (Prop × AV) := addS (addS (addS (addS (addS (addS (addS (addS (addS noS 43 cutS) 44 digitsS) 15 OfS) 13 Uint64S) 39 len64S) 56 lz64S) 41 mul64S) 42 add64S) 48 sub64S
theorem Sa_ok (hP : PrgOk P) : EnvOk P ⟨T0, Sa⟩ := (((((((((EnvOk.no hP.t0).add (cutS_ok hP)).add (digitsS_ok hP)).add (OfS_ok hP)).add (Uint64S_ok hP)).add (len64S_ok hP)).add (lz64S_ok hP)).add (mul64S_ok hP)).add (add64S_ok hP)).add (sub64S_ok hP)
attribute [go_sem] Sa

theorem Bits_spec (hP : PrgOk P) (a : Nat) (hb : blen a ≤ 68719476736) : CSpec P 16 [(.agg [.opq (.nat (a)), .pad])] (.int .i64 (blen a : Nat)) := by
  have HE := Sa_ok hP
  refine CSpec.cv ?_ (CvL.natIn a .nil)
  by_cases ha : a < 18446744073709551616
  · rw [natC_small ha]
    refine CSpec_vc (E := ⟨T0, Sa⟩) (fn16 hP) HE hP.mix rfl (by first | rfl | (simp only [go_sem]; done)) (by first | rfl | (simp only [go_sem]; done)) (Nat.le_of_ble_eq_true rfl) ?_
    simp (maxSteps := 1000000) only [go_sem, Nat.reduceBEq, Nat.reduceAdd, Nat.reduceLT, Nat.reduceMul, Nat.reduceSub, Nat.reduceLeDiff, Nat.reduceEqDiff, Int.reduceToNat, Nat.reduceBeqDiff, Nat.reduceBneDiff, decide_false, and_self, List.reduceReplicate, List.flatten_cons, List.flatten_nil, true_and, and_true, eq_self, decide_true, reduceIte, reduceCtorEq, List.any_toArray, Region.binds, Int.reduceBEq, Int.reduceBNe, Int.reduceLT, ha]
    exact .refl _
  · have h : a ≠ 0 := by omega
    have hl := digs_length_gt 18446744073709551616 a 1 (by decide) (by omega)
    have hl2 := digs_len_blen a
    have he := blen_digs a h
    have hd : ∀ d ∈ digs 18446744073709551616 a, d < 18446744073709551616 := digs_lt 18446744073709551616 a (by decide)
    obtain ⟨k, hk⟩ : ∃ k, (digs 18446744073709551616 a).length = k + 1 := ⟨(digs 18446744073709551616 a).length - 1, by omega⟩
    rw [hk, Nat.add_sub_cancel] at he
    have hkl : k < (digs 18446744073709551616 a).length := by omega
    rw [natC_great ha, hk]
    refine CSpec_vc (E := ⟨T0, Sa⟩) (fn16 hP) HE hP.mix rfl (by first | rfl | (simp only [go_sem]; done)) (by first | rfl | (simp only [go_sem]; done)) (Nat.le_of_ble_eq_true rfl) ?_
    have h2 := wi_nat k (by omega)
    have h3 : IntKind.i64.wrap (64 * (k : Int)) = ((64 * k : Nat) : Int) := by rw [IntKind.wrap_i64]; omega
    have h4 : IntKind.i64.wrap (((64 * k : Nat) : Int) + ((blen ((digs 18446744073709551616 a).getD k 0) : Nat) : Int)) = ((blen a : Nat) : Int) := by rw [IntKind.wrap_i64]; omega
    have hd1 := hd _ (getD_mem hkl)
    have hd2 : k ≤ (digs 18446744073709551616 a).length := by omega
    have hd3 : k < k + 1 := by omega
    simp (maxSteps := 1000000) only [go_sem, Nat.reduceBEq, Nat.reduceAdd, Nat.reduceLT, Nat.reduceMul, Nat.reduceSub, Nat.reduceLeDiff, Nat.reduceEqDiff, Int.reduceToNat, Nat.reduceBeqDiff, Nat.reduceBneDiff, decide_false, and_self, List.reduceReplicate, List.flatten_cons, List.flatten_nil, true_and, and_true, eq_self, decide_true, reduceIte, reduceCtorEq, List.any_toArray, Region.binds, Int.reduceBEq, Int.reduceBNe, Int.reduceLT, h2, h3, h4, gU' hkl, hkl, hd1, hd2, hd3]
    exact ⟨by omega, .refl _⟩
def BitsS : List AV → Option (Prop × AV) := on1 fun a => (blen a ≤ 68719476736, .int .i64 (blen a : Nat))
theorem BitsS_ok (hP : PrgOk P) (args p r) : BitsS args = some (p, r) → p → CSpec P 16 args r := on1_ok (fun a h => Bits_spec hP a h) args p r

theorem Cmp_spec (hP : PrgOk P) (a b : Nat) (ha : blen a ≤ 68719476736) (hb : blen b ≤ 68719476736) : CSpec P 22 [(.agg [.opq (.nat (a)), .pad]), (.agg [.opq (.nat (b)), .pad])] (.int .i64 (cmpI a b)) := by
  have HE := Sa_ok hP
  have hxd : ∀ d ∈ digs 18446744073709551616 a, d < 18446744073709551616 := digs_lt 18446744073709551616 a (by decide)
  have hyd : ∀ d ∈ digs 18446744073709551616 b, d < 18446744073709551616 := digs_lt 18446744073709551616 b (by decide)
  have hx := dOf_digs 18446744073709551616 a (by decide)
  have hy := dOf_digs 18446744073709551616 b (by decide)
  have hlx := digs_len_blen a
  have hly := digs_len_blen b
  have hlt := digs_len_lt 18446744073709551616 a b (by decide)
  have hgt := digs_len_lt 18446744073709551616 b a (by decide)
  refine CSpec_vc (E := ⟨T0, Sa⟩) (fn22 hP) HE hP.mix rfl (by first | rfl | (simp only [go_sem]; done)) (by first | rfl | (simp only [go_sem]; done)) (Nat.le_of_ble_eq_true rfl) ?_
  simp (maxSteps := 1000000) only [go_sem, Nat.reduceBEq, Nat.reduceAdd, Nat.reduceLT, Nat.reduceMul, Nat.reduceSub, Nat.reduceLeDiff, Nat.reduceEqDiff, Int.reduceToNat, Nat.reduceBeqDiff, Nat.reduceBneDiff, decide_false, and_self, List.reduceReplicate, List.flatten_cons, List.flatten_nil, true_and, and_true, eq_self, decide_true, reduceIte, reduceCtorEq, List.any_toArray, Region.binds, Int.reduceBEq, Int.reduceBNe, Int.reduceLT]
  generalize digs 18446744073709551616 a = x at *
  generalize digs 18446744073709551616 b = y at *
  refine if_split (fun h => ?_) (fun h => ?_)
  · simp (maxSteps := 1000000) only [go_sem, Nat.reduceBEq, Nat.reduceAdd, Nat.reduceLT, Nat.reduceMul, Nat.reduceSub, Nat.reduceLeDiff, Nat.reduceEqDiff, Int.reduceToNat, Nat.reduceBeqDiff, Nat.reduceBneDiff, decide_false, and_self, List.reduceReplicate, List.flatten_cons, List.flatten_nil, true_and, and_true, eq_self, decide_true, reduceIte, reduceCtorEq, List.any_toArray, Region.binds, Int.reduceBEq, Int.reduceBNe, Int.reduceLT]
    refine if_split (fun h => ?_) (fun h' => ?_)
    · simp (maxSteps := 1000000) only [go_sem, Nat.reduceBEq, Nat.reduceAdd, Nat.reduceLT, Nat.reduceMul, Nat.reduceSub, Nat.reduceLeDiff, Nat.reduceEqDiff, Int.reduceToNat, Nat.reduceBeqDiff, Nat.reduceBneDiff, decide_false, and_self, List.reduceReplicate, List.flatten_cons, List.flatten_nil, true_and, and_true, eq_self, decide_true, reduceIte, reduceCtorEq, List.any_toArray, Region.binds, Int.reduceBEq, Int.reduceBNe, Int.reduceLT]
      rw [cmpI_lt (hlt (of_decide_eq_true h))]; exact .refl _
    · simp (maxSteps := 1000000) only [go_sem, Nat.reduceBEq, Nat.reduceAdd, Nat.reduceLT, Nat.reduceMul, Nat.reduceSub, Nat.reduceLeDiff, Nat.reduceEqDiff, Int.reduceToNat, Nat.reduceBeqDiff, Nat.reduceBneDiff, decide_false, and_self, List.reduceReplicate, List.flatten_cons, List.flatten_nil, true_and, and_true, eq_self, decide_true, reduceIte, reduceCtorEq, List.any_toArray, Region.binds, Int.reduceBEq, Int.reduceBNe, Int.reduceLT]
      have h' := of_decide_eq_false h'
      have h : x.length ≠ y.length := by simpa using h
      rw [cmpI_gt (hgt (by omega))]; exact .refl _
  · have hxy : y.length = x.length := by simpa using Eq.symm (by simpa using h)
    have hw := wi_pred' x.length (by omega)
    simp (maxSteps := 1000000) only [go_sem, Nat.reduceBEq, Nat.reduceAdd, Nat.reduceLT, Nat.reduceMul, Nat.reduceSub, Nat.reduceLeDiff, Nat.reduceEqDiff, Int.reduceToNat, Nat.reduceBeqDiff, Nat.reduceBneDiff, decide_false, and_self, List.reduceReplicate, List.flatten_cons, List.flatten_nil, true_and, and_true, eq_self, decide_true, reduceIte, reduceCtorEq, List.any_toArray, Region.binds, Int.reduceBEq, Int.reduceBNe, Int.reduceLT, hw]
    refine trX_loop HE hP.mix [0, 1] (fun k : Nat => ⟨upd (upd (upd (upd (fun _ => .junk) 4 (.int .i64 0)) 5 (sv x)) 6 (sv y)) 7 (.int .i64 ((k : Int) - 1)), upd (upd (fun _ => .unused) 0 (.live [.opq (.nat a), .pad])) 1 (.live [.opq (.nat b), .pad]), 49⟩) (fun k => k ≤ x.length ∧ x.drop k = y.drop k) (fun k => k) x.length 2
      (by repeat (first | exact Has.nil | refine Has.upd rfl ?_)) (Kept.of rfl (by repeat (first | exact KT.nil | refine KT.upd rfl (by first | rfl | exact hr | exact hr2 | (simp only [go_sem]; done)) ?_)) (KM.two rfl rfl rfl rfl rfl)) ⟨Nat.le_refl _, by rw [List.drop_length, ← hxy, List.drop_length]⟩ 49 (by kernel_rfl) ?_
    intro k ⟨hk, he⟩
    cases k with
    | zero =>
      have h0 : ((0 : Int) ≤ ((0 : Nat) : Int) - 1) = False := by simp
      simp (maxSteps := 1000000) only [go_sem, Nat.reduceBEq, Nat.reduceAdd, Nat.reduceLT, Nat.reduceMul, Nat.reduceSub, Nat.reduceLeDiff, Nat.reduceEqDiff, Int.reduceToNat, Nat.reduceBeqDiff, Nat.reduceBneDiff, decide_false, and_self, List.reduceReplicate, List.flatten_cons, List.flatten_nil, true_and, and_true, eq_self, decide_true, reduceIte, reduceCtorEq, List.any_toArray, Region.binds, Int.reduceBEq, Int.reduceBNe, Int.reduceLT, h0]
      have : a = b := by rw [← hx, ← hy]; simp at he; rw [he]
      rw [this, cmpI_eq]; exact .refl _
    | succ k =>
      have k1 : k < x.length := by omega
      have k2 : k < y.length := by omega
      have k3 : k ≤ x.length := by omega
      have k4 : k ≤ y.length := by omega
      have e1 : x ≠ [] := by intro e; rw [e] at k1; simp at k1
      have e2 : y ≠ [] := by intro e; rw [e] at k2; simp at k2
      simp (maxSteps := 1000000) only [go_sem, Nat.reduceBEq, Nat.reduceAdd, Nat.reduceLT, Nat.reduceMul, Nat.reduceSub, Nat.reduceLeDiff, Nat.reduceEqDiff, Int.reduceToNat, Nat.reduceBeqDiff, Nat.reduceBneDiff, decide_false, and_self, List.reduceReplicate, List.flatten_cons, List.flatten_nil, true_and, and_true, eq_self, decide_true, reduceIte, reduceCtorEq, List.any_toArray, Region.binds, Int.reduceBEq, Int.reduceBNe, Int.reduceLT, sv_ia e1, sv_ia e2, k1, k2, k3, k4, gU' k1, gU' k2]
      refine if_split (fun h => ?_) (fun h => ?_)
      · simp (maxSteps := 1000000) only [go_sem, Nat.reduceBEq, Nat.reduceAdd, Nat.reduceLT, Nat.reduceMul, Nat.reduceSub, Nat.reduceLeDiff, Nat.reduceEqDiff, Int.reduceToNat, Nat.reduceBeqDiff, Nat.reduceBneDiff, decide_false, and_self, List.reduceReplicate, List.flatten_cons, List.flatten_nil, true_and, and_true, eq_self, decide_true, reduceIte, reduceCtorEq, List.any_toArray, Region.binds, Int.reduceBEq, Int.reduceBNe, Int.reduceLT]
        have := dOf_cmp 18446744073709551616 x y hxd k k1 k2 he (of_decide_eq_true h)
        rw [cmpI_lt (by omega)]; exact .refl _
      · simp (maxSteps := 1000000) only [go_sem, Nat.reduceBEq, Nat.reduceAdd, Nat.reduceLT, Nat.reduceMul, Nat.reduceSub, Nat.reduceLeDiff, Nat.reduceEqDiff, Int.reduceToNat, Nat.reduceBeqDiff, Nat.reduceBneDiff, decide_false, and_self, List.reduceReplicate, List.flatten_cons, List.flatten_nil, true_and, and_true, eq_self, decide_true, reduceIte, reduceCtorEq, List.any_toArray, Region.binds, Int.reduceBEq, Int.reduceBNe, Int.reduceLT, sv_ia e1, sv_ia e2, k1, k2, k3, k4, gU' k1, gU' k2]
        refine if_split (fun h' => ?_) (fun h' => ?_)
        · simp (maxSteps := 1000000) only [go_sem, Nat.reduceBEq, Nat.reduceAdd, Nat.reduceLT, Nat.reduceMul, Nat.reduceSub, Nat.reduceLeDiff, Nat.reduceEqDiff, Int.reduceToNat, Nat.reduceBeqDiff, Nat.reduceBneDiff, decide_false, and_self, List.reduceReplicate, List.flatten_cons, List.flatten_nil, true_and, and_true, eq_self, decide_true, reduceIte, reduceCtorEq, List.any_toArray, Region.binds, Int.reduceBEq, Int.reduceBNe, Int.reduceLT]
          have := dOf_cmp 18446744073709551616 y x hyd k k2 k1 he.symm (of_decide_eq_true h')
          rw [cmpI_gt (by omega)]; exact .refl _
        · have hw := wi_pred' k (by omega)
          simp (maxSteps := 1000000) only [go_sem, Nat.reduceBEq, Nat.reduceAdd, Nat.reduceLT, Nat.reduceMul, Nat.reduceSub, Nat.reduceLeDiff, Nat.reduceEqDiff, Int.reduceToNat, Nat.reduceBeqDiff, Nat.reduceBneDiff, decide_false, and_self, List.reduceReplicate, List.flatten_cons, List.flatten_nil, true_and, and_true, eq_self, decide_true, reduceIte, reduceCtorEq, List.any_toArray, Region.binds, Int.reduceBEq, Int.reduceBNe, Int.reduceLT, hw]
          refine ⟨k, Kept.of rfl (by repeat (first | exact KT.nil | refine KT.upd rfl (by first | rfl | exact hr | exact hr2 | (simp only [go_sem]; done)) ?_)) (KM.two rfl rfl rfl rfl rfl), ⟨by omega, ?_⟩, by omega⟩
          have e1 := List.drop_eq_getElem_cons k1
          have e2 := List.drop_eq_getElem_cons k2
          have h := of_decide_eq_false h
          have h' := of_decide_eq_false h'
          rw [getD_get k1, getD_get k2] at h
          rw [getD_get k1, getD_get k2] at h'
          rw [e1, e2, he, show x[k] = y[k] by omega]
def CmpS : List AV → Option (Prop × AV) := on2 fun a b => (blen a ≤ 68719476736 ∧ blen b ≤ 68719476736, .int .i64 (cmpI a b))
theorem CmpS_ok (hP : PrgOk P) (args p r) : CmpS args = some (p, r) → p → CSpec P 22 args r := on2_ok (fun a b h => by exact Cmp_spec hP a b h.1 h.2) args p r
attribute [go_sem] BitsS CmpS
end Go.Proofs.Ytlgimmafejbmgaa.AM
