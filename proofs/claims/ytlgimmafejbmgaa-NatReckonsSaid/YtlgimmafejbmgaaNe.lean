/- Package nat: products. -/
import Derived.Test.YtlgimmafejbmgaaNd
namespace Go.Proofs.Ytlgimmafejbmgaa.AM
set_option linter.all false
set_option autoImplicit true
set_option relaxedAutoImplicit true
open Go Go.Proofs
set_option maxRecDepth 100000
set_option maxHeartbeats 8000000
set_option linter.unusedSimpArgs false
variable {P : Program}

theorem Mul_small (hP : PrgOk P) (a b : Nat) (ha : a < 18446744073709551616) (hb : b < 18446744073709551616) : CSpec P 23 [.agg [.int .u64 (a : Int), .nils], .agg [.int .u64 (b : Int), .nils]] (.agg [.opq (.nat (a * b)), .pad]) := by
  have HE := Sb_ok hP
  refine CSpec_vc (E := ⟨T0, Sb⟩) (fn23 hP) HE hP.mix rfl (by first | rfl | (simp only [go_sem]; done)) (by first | rfl | (simp only [go_sem]; done)) (Nat.le_of_ble_eq_true rfl) ?_
  simp (maxSteps := 1000000) only [go_sem, Nat.reduceBEq, Nat.reduceAdd, Nat.reduceLT, Nat.reduceMul, Nat.reduceSub, Nat.reduceLeDiff, Nat.reduceEqDiff, Int.reduceToNat, Nat.reduceBeqDiff, Nat.reduceBneDiff, decide_false, and_self, List.reduceReplicate, List.flatten_cons, List.flatten_nil, true_and, and_true, eq_self, decide_true, reduceIte, reduceCtorEq, List.any_toArray, Region.binds, Int.reduceBEq, Int.reduceBNe, Int.reduceLT, ha, hb]
  have h2 := mul_all a b
  have h3 := mull_lt a b
  have h4 := mulh_lt ha hb
  refine if_split (fun h => ?_) (fun h => ?_)
  · simp (maxSteps := 1000000) only [go_sem, Nat.reduceBEq, Nat.reduceAdd, Nat.reduceLT, Nat.reduceMul, Nat.reduceSub, Nat.reduceLeDiff, Nat.reduceEqDiff, Int.reduceToNat, Nat.reduceBeqDiff, Nat.reduceBneDiff, decide_false, and_self, List.reduceReplicate, List.flatten_cons, List.flatten_nil, true_and, and_true, eq_self, decide_true, reduceIte, reduceCtorEq, List.any_toArray, Region.binds, Int.reduceBEq, Int.reduceBNe, Int.reduceLT]
    have h := eq_of_beq h
    have e : mull a b = a * b := by rw [h] at h2; omega
    rw [e]; exact Conv.nat1 (by omega)
  · simp (maxSteps := 1000000) only [go_sem, Nat.reduceBEq, Nat.reduceAdd, Nat.reduceLT, Nat.reduceMul, Nat.reduceSub, Nat.reduceLeDiff, Nat.reduceEqDiff, Int.reduceToNat, Nat.reduceBeqDiff, Nat.reduceBneDiff, decide_false, and_self, List.reduceReplicate, List.flatten_cons, List.flatten_nil, true_and, and_true, eq_self, decide_true, reduceIte, reduceCtorEq, List.any_toArray, Region.binds, Int.reduceBEq, Int.reduceBNe, Int.reduceLT]
    have h : mulh a b ≠ 0 := by simpa using h
    have e : dOf 18446744073709551616 [mull a b, mulh a b] = a * b := by simp only [dOf]; omega
    have := Conv.natL (l := [mull a b, mulh a b]) (n := 2) ?_ ?_ (by simp) rfl
    · rw [e] at this; exact this
    · intro d hd
      simp only [List.mem_cons, List.not_mem_nil, or_false] at hd
      rcases hd with rfl | rfl <;> omega
    · intro _; simpa using h

theorem Mul_great (hP : PrgOk P) (a b : Nat) (ha : blen a ≤ 68719476736) (hb : blen b ≤ 68719476736) (hg : ¬ (a < 18446744073709551616 ∧ b < 18446744073709551616)) : CSpec P 23 [.agg (natC a), .agg (natC b)] (.agg [.opq (.nat (a * b)), .pad]) := by
  have HE := Sb_ok hP
  have hxd : ∀ d ∈ digs 18446744073709551616 a, d < 18446744073709551616 := digs_lt 18446744073709551616 a (by decide)
  have hyd : ∀ d ∈ digs 18446744073709551616 b, d < 18446744073709551616 := digs_lt 18446744073709551616 b (by decide)
  have hx := dOf_digs 18446744073709551616 a (by decide)
  have hy := dOf_digs 18446744073709551616 b (by decide)
  have hlx := digs_len_blen a
  have hly := digs_len_blen b
  by_cases h1 : a < 18446744073709551616
  · rw [natC_small h1, natC_great (by omega)]
    have hl := digs_length_gt 18446744073709551616 b 1 (by decide) (by omega)
    have hl2 : 2 ≤ (digs 18446744073709551616 b).length := by omega
    have hl3 : ((digs 18446744073709551616 b).length ≠ 0) = True := eq_true (by omega)
    refine CSpec_vc (E := ⟨T0, Sb⟩) (fn23 hP) HE hP.mix rfl (by first | rfl | (simp only [go_sem]; done)) (by first | rfl | (simp only [go_sem]; done)) (Nat.le_of_ble_eq_true rfl) ?_
    simp (maxSteps := 1000000) only [go_sem, Nat.reduceBEq, Nat.reduceAdd, Nat.reduceLT, Nat.reduceMul, Nat.reduceSub, Nat.reduceLeDiff, Nat.reduceEqDiff, Int.reduceToNat, Nat.reduceBeqDiff, Nat.reduceBneDiff, decide_false, and_self, List.reduceReplicate, List.flatten_cons, List.flatten_nil, true_and, and_true, eq_self, decide_true, reduceIte, reduceCtorEq, List.any_toArray, Region.binds, Int.reduceBEq, Int.reduceBNe, Int.reduceLT, h1, hl2, hl3]
    generalize digs 18446744073709551616 a = x at *
    generalize digs 18446744073709551616 b = y at *
    have hi := wi_add x.length y.length (by omega)
    have hi2 : x.length + y.length ≤ 1099511627776 := by omega
    simp (maxSteps := 1000000) only [go_sem, Nat.reduceBEq, Nat.reduceAdd, Nat.reduceLT, Nat.reduceMul, Nat.reduceSub, Nat.reduceLeDiff, Nat.reduceEqDiff, Int.reduceToNat, Nat.reduceBeqDiff, Nat.reduceBneDiff, decide_false, and_self, List.reduceReplicate, List.flatten_cons, List.flatten_nil, true_and, and_true, eq_self, decide_true, reduceIte, reduceCtorEq, List.any_toArray, Region.binds, Int.reduceBEq, Int.reduceBNe, Int.reduceLT, hi, hi2]
    refine trX_loop HE hP.mix [22, 2, 1, 0] (fun q : Nat × List Nat => ⟨upd (upd (upd (upd (upd (upd (fun _ => .junk) 4 (.ref 2 0)) 7 (sv x)) 8 (sv y)) 9 (.sl 22 0 (x.length + y.length) 1)) 51 (.int .i64 (x.length : Int))) 52 (.int .i64 (q.1 : Int)), upd (upd (upd (upd (fun _ => .unused) 0 (.live [.int .u64 (a : Int), .nils])) 1 (.live [.int .u64 0, .imm y.length (List.map (fun d : Nat => AV.int .u64 (d : Int)) (y))])) 2 (.live [.int .u64 0, .nils])) 22 (.live (List.map (fun d : Nat => AV.int .u64 (d : Int)) (q.2))), 111⟩)
      (fun q => q.1 ≤ x.length ∧ q.2.length = x.length + y.length ∧ (∀ d ∈ q.2, d < 18446744073709551616) ∧ (∀ j, q.1 + y.length ≤ j → q.2.getD j 0 = 0) ∧ dOf 18446744073709551616 q.2 = dOf 18446744073709551616 (x.take q.1) * dOf 18446744073709551616 y) (fun q => x.length - q.1) (0, List.replicate (x.length + y.length) 0) 60
      (by repeat (first | exact Has.nil | refine Has.upd rfl ?_)) (Kept.of rfl (by repeat (first | exact KT.nil | refine KT.upd rfl (by first | rfl | exact hr | exact hr2 | (simp only [go_sem]; done)) ?_)) (KM.p (by repeat (first | exact KMp.nil | refine KMp.upd rfl (by first | rfl | (simp only [go_sem]; done)) ?_)))) ⟨by simp, by simp, by intro d hd; rw [List.eq_of_mem_replicate hd]; decide, by intro j _; simp [List.getD_eq_getElem?_getD, List.getElem?_replicate]; split <;> rfl, by simp [dOf, dOf_zeros]⟩ 111 (by kernel_rfl) ?_
    rintro ⟨i, z⟩ ⟨q1, q2, q3, q4, q5⟩
    simp only [] at q1 q2 q3 q4 q5
    by_cases hk : i < x.length
    · have hxi := hxd _ (getD_mem hk)
      simp (maxSteps := 1000000) only [go_sem, Nat.reduceBEq, Nat.reduceAdd, Nat.reduceLT, Nat.reduceMul, Nat.reduceSub, Nat.reduceLeDiff, Nat.reduceEqDiff, Int.reduceToNat, Nat.reduceBeqDiff, Nat.reduceBneDiff, decide_false, and_self, List.reduceReplicate, List.flatten_cons, List.flatten_nil, true_and, and_true, eq_self, decide_true, reduceIte, reduceCtorEq, List.any_toArray, Region.binds, Int.reduceBEq, Int.reduceBNe, Int.reduceLT, hk]
      refine trX_loop HE hP.mix [22, 2, 1, 0] (fun q : Nat × List Nat × Nat => ⟨upd (upd (upd (upd (upd (upd (upd (upd (upd (upd (fun _ => .junk) 4 (.ref 2 0)) 7 (sv x)) 8 (sv y)) 9 (.sl 22 0 (x.length + y.length) 1)) 51 (.int .i64 (x.length : Int))) 52 (.int .i64 (i : Int))) 10 (.int .i64 (i : Int))) 11 (.int .u64 (q.2.2 : Int))) 56 (.int .i64 (y.length : Int))) 57 (.int .i64 (q.1 : Int)), upd (upd (upd (upd (fun _ => .unused) 0 (.live [.int .u64 (a : Int), .nils])) 1 (.live [.int .u64 0, .imm y.length (List.map (fun d : Nat => AV.int .u64 (d : Int)) (y))])) 2 (.live [.int .u64 0, .nils])) 22 (.live (List.map (fun d : Nat => AV.int .u64 (d : Int)) (q.2.1))), 111⟩)
        (fun q => q.1 ≤ y.length ∧ q.2.1.length = x.length + y.length ∧ (∀ d ∈ q.2.1, d < 18446744073709551616) ∧ q.2.2 < 18446744073709551616 ∧ (∀ j, i + y.length ≤ j → q.2.1.getD j 0 = 0) ∧ dOf 18446744073709551616 q.2.1 + 18446744073709551616 ^ (i + q.1) * q.2.2 = dOf 18446744073709551616 z + 18446744073709551616 ^ i * x.getD i 0 * dOf 18446744073709551616 (y.take q.1)) (fun q => y.length - q.1) (0, z, 0) 60
        (by repeat (first | exact Has.nil | refine Has.upd rfl ?_)) (Kept.of rfl (by repeat (first | exact KT.nil | refine KT.upd rfl (by first | rfl | exact hr | exact hr2 | (simp only [go_sem]; done)) ?_)) (KM.p (by repeat (first | exact KMp.nil | refine KMp.upd rfl (by first | rfl | (simp only [go_sem]; done)) ?_)))) ⟨by simp, q2, q3, by simp, q4, by simp [dOf]⟩ 111 (by kernel_rfl) ?_
      rintro ⟨j, z', c⟩ ⟨r1, r2, r3, r4, r5, r6⟩
      simp only [] at r1 r2 r3 r4 r5 r6
      by_cases hj : j < y.length
      · have e1 : x ≠ [] := by intro e; rw [e] at hk; simp at hk
        have e2 : y ≠ [] := by intro e; rw [e] at hj; simp at hj
        have hyj := hyd _ (getD_mem hj)
        have hij : i + j < x.length + y.length := by omega
        have hz : i + j < z'.length := by omega
        have hzd := r3 _ (getD_mem hz)
        have hm := mull_lt (x.getD i 0) (y.getD j 0)
        have hal := addl_lt (mull (x.getD i 0) (y.getD j 0)) c 0
        have hcar := mul_carry hxi hyj r4 hzd
        have hw1 := wu_add' (mulh (x.getD i 0) (y.getD j 0)) (addh (mull (x.getD i 0) (y.getD j 0)) c 0) (by omega)
        have hw2 := wu_add' (mulh (x.getD i 0) (y.getD j 0) + addh (mull (x.getD i 0) (y.getD j 0)) c 0) (addh (z'.getD (i + j) 0) (addl (mull (x.getD i 0) (y.getD j 0)) c 0) 0) hcar
        have hw3 := wi_add i j (by omega)
        have hw4 := wi_add1 j (by omega)
        have hki : i ≤ x.length := by omega
        have hkj : j ≤ y.length := by omega
        simp (maxSteps := 1000000) only [go_sem, Nat.reduceBEq, Nat.reduceAdd, Nat.reduceLT, Nat.reduceMul, Nat.reduceSub, Nat.reduceLeDiff, Nat.reduceEqDiff, Int.reduceToNat, Nat.reduceBeqDiff, Nat.reduceBneDiff, decide_false, and_self, List.reduceReplicate, List.flatten_cons, List.flatten_nil, true_and, and_true, eq_self, decide_true, reduceIte, reduceCtorEq, List.any_toArray, Region.binds, Int.reduceBEq, Int.reduceBNe, Int.reduceLT, hj, hk, hki, hkj, sv_ia e1, sv_ia e2, gU' hk, gU' hj, hxi, hyj, hm, hal, hw1, hw2, hw3, hw4, hij, hz, gU hz, hzd]
        have hs := dOf_set 18446744073709551616 z' (i + j) (addl (z'.getD (i + j) 0) (addl (mull (x.getD i 0) (y.getD j 0)) c 0) 0) hz
        have hst := mul_step (18446744073709551616 ^ (i + j)) (x.getD i 0) (y.getD j 0) c (z'.getD (i + j) 0) _ _ _ r6 hs
        refine ⟨(j + 1, z'.set (i + j) (addl (z'.getD (i + j) 0) (addl (mull (x.getD i 0) (y.getD j 0)) c 0) 0), mulh (x.getD i 0) (y.getD j 0) + addh (mull (x.getD i 0) (y.getD j 0)) c 0 + addh (z'.getD (i + j) 0) (addl (mull (x.getD i 0) (y.getD j 0)) c 0) 0), Kept.of rfl (by repeat (first | exact KT.nil | refine KT.upd rfl (by first | rfl | exact hr | exact hr2 | (simp only [go_sem]; done)) ?_)) (KM.p (by repeat (first | exact KMp.nil | refine KMp.upd rfl (by first | rfl | (simp only [go_sem]; done)) ?_))), ⟨by simp only []; omega, by simp only [List.length_set]; omega, ?_, hcar, ?_, ?_⟩, by simp only []; omega⟩
        · intro d hd
          rcases List.mem_or_eq_of_mem_set hd with hd | rfl
          · exact r3 d hd
          · exact addl_lt _ _ _
        · intro j' hj'
          simp only []
          rw [getD_set_ne _ _ _ _ (by omega)]; exact r5 j' hj'
        · simp only []
          rw [dOf_take_succ 18446744073709551616 y j hj, ← Nat.add_assoc, Nat.pow_succ]
          refine hst.trans ?_
          rw [Nat.mul_add (18446744073709551616 ^ i * x.getD i 0)]
          congr 2
          rw [Nat.pow_add]
          generalize x.getD i 0 = u; generalize y.getD j 0 = v; generalize 18446744073709551616 ^ i = p1; generalize 18446744073709551616 ^ j = p2
          simp only [Nat.mul_assoc]; congr 1; rw [← Nat.mul_assoc, ← Nat.mul_assoc, Nat.mul_comm p2 u]
      · have hw1 := wi_add i y.length (by omega)
        have hz : i + y.length < z'.length := by omega
        have hij : i + y.length < x.length + y.length := by omega
        have hw2 := wi_add1 i (by omega)
        simp (maxSteps := 1000000) only [go_sem, Nat.reduceBEq, Nat.reduceAdd, Nat.reduceLT, Nat.reduceMul, Nat.reduceSub, Nat.reduceLeDiff, Nat.reduceEqDiff, Int.reduceToNat, Nat.reduceBeqDiff, Nat.reduceBneDiff, decide_false, and_self, List.reduceReplicate, List.flatten_cons, List.flatten_nil, true_and, and_true, eq_self, decide_true, reduceIte, reduceCtorEq, List.any_toArray, Region.binds, Int.reduceBEq, Int.reduceBNe, Int.reduceLT, hj, hw1, hw2, hz, hij, gU hz]
        have htj : y.take j = y := List.take_of_length_le (by omega)
        have hjl : j = y.length := by omega
        rw [htj, hjl] at r6
        refine ⟨(i + 1, z'.set (i + y.length) c), Kept.of rfl (by repeat (first | exact KT.nil | refine KT.upd rfl (by first | rfl | exact hr | exact hr2 | (simp only [go_sem]; done)) ?_)) (KM.p (by repeat (first | exact KMp.nil | refine KMp.upd rfl (by first | rfl | (simp only [go_sem]; done)) ?_))), ⟨by simp only []; omega, by simp only [List.length_set]; omega, ?_, ?_, ?_⟩, by simp only []; omega⟩
        · intro d hd
          rcases List.mem_or_eq_of_mem_set hd with hd | rfl
          · exact r3 d hd
          · exact r4
        · intro j' hj'
          simp only [] at hj' ⊢
          rw [getD_set_ne _ _ _ _ (by omega)]; exact r5 j' (by omega)
        · simp only []
          have hs := dOf_set 18446744073709551616 z' (i + y.length) c hz
          rw [r5 _ (Nat.le_refl _), Nat.mul_zero, Nat.add_zero] at hs
          rw [hs, r6, q5, dOf_take_succ 18446744073709551616 x i hk, Nat.add_mul]
    · have htk : z.take (x.length + y.length) = z := List.take_of_length_le (by omega)
      have hsl : x.length + y.length < 4611686018427387904 := by omega
      have hz3 : (∀ d ∈ z, d < 18446744073709551616) = True := eq_true q3
      have hti : x.take i = x := List.take_of_length_le (by omega)
      simp (maxSteps := 1000000) only [go_sem, Nat.reduceBEq, Nat.reduceAdd, Nat.reduceLT, Nat.reduceMul, Nat.reduceSub, Nat.reduceLeDiff, Nat.reduceEqDiff, Int.reduceToNat, Nat.reduceBeqDiff, Nat.reduceBneDiff, decide_false, and_self, List.reduceReplicate, List.flatten_cons, List.flatten_nil, true_and, and_true, eq_self, decide_true, reduceIte, reduceCtorEq, List.any_toArray, Region.binds, Int.reduceBEq, Int.reduceBNe, Int.reduceLT, hk, htk, q2, hz3, hsl]
      rw [q5, hti, hx, hy]; exact .refl _
  · have hl := digs_length_gt 18446744073709551616 a 1 (by decide) (by omega)
    have hl2 : 2 ≤ (digs 18446744073709551616 a).length := by omega
    have hl3 : ((digs 18446744073709551616 a).length ≠ 0) = True := eq_true (by omega)
    by_cases h2 : b < 18446744073709551616
    · rw [natC_great h1, natC_small h2]
      refine CSpec_vc (E := ⟨T0, Sb⟩) (fn23 hP) HE hP.mix rfl (by first | rfl | (simp only [go_sem]; done)) (by first | rfl | (simp only [go_sem]; done)) (Nat.le_of_ble_eq_true rfl) ?_
      simp (maxSteps := 1000000) only [go_sem, Nat.reduceBEq, Nat.reduceAdd, Nat.reduceLT, Nat.reduceMul, Nat.reduceSub, Nat.reduceLeDiff, Nat.reduceEqDiff, Int.reduceToNat, Nat.reduceBeqDiff, Nat.reduceBneDiff, decide_false, and_self, List.reduceReplicate, List.flatten_cons, List.flatten_nil, true_and, and_true, eq_self, decide_true, reduceIte, reduceCtorEq, List.any_toArray, Region.binds, Int.reduceBEq, Int.reduceBNe, Int.reduceLT, h2, hl2, hl3]
      generalize digs 18446744073709551616 a = x at *
      generalize digs 18446744073709551616 b = y at *
      have hi := wi_add x.length y.length (by omega)
      have hi2 : x.length + y.length ≤ 1099511627776 := by omega
      simp (maxSteps := 1000000) only [go_sem, Nat.reduceBEq, Nat.reduceAdd, Nat.reduceLT, Nat.reduceMul, Nat.reduceSub, Nat.reduceLeDiff, Nat.reduceEqDiff, Int.reduceToNat, Nat.reduceBeqDiff, Nat.reduceBneDiff, decide_false, and_self, List.reduceReplicate, List.flatten_cons, List.flatten_nil, true_and, and_true, eq_self, decide_true, reduceIte, reduceCtorEq, List.any_toArray, Region.binds, Int.reduceBEq, Int.reduceBNe, Int.reduceLT, hi, hi2]
      refine trX_loop HE hP.mix [19, 2, 1, 0] (fun q : Nat × List Nat => ⟨upd (upd (upd (upd (upd (upd (fun _ => .junk) 4 (.ref 2 0)) 7 (sv x)) 8 (sv y)) 9 (.sl 19 0 (x.length + y.length) 1)) 51 (.int .i64 (x.length : Int))) 52 (.int .i64 (q.1 : Int)), upd (upd (upd (upd (fun _ => .unused) 0 (.live [.int .u64 0, .imm x.length (List.map (fun d : Nat => AV.int .u64 (d : Int)) (x))])) 1 (.live [.int .u64 (b : Int), .nils])) 2 (.live [.int .u64 0, .nils])) 19 (.live (List.map (fun d : Nat => AV.int .u64 (d : Int)) (q.2))), 111⟩)
        (fun q => q.1 ≤ x.length ∧ q.2.length = x.length + y.length ∧ (∀ d ∈ q.2, d < 18446744073709551616) ∧ (∀ j, q.1 + y.length ≤ j → q.2.getD j 0 = 0) ∧ dOf 18446744073709551616 q.2 = dOf 18446744073709551616 (x.take q.1) * dOf 18446744073709551616 y) (fun q => x.length - q.1) (0, List.replicate (x.length + y.length) 0) 60
        (by repeat (first | exact Has.nil | refine Has.upd rfl ?_)) (Kept.of rfl (by repeat (first | exact KT.nil | refine KT.upd rfl (by first | rfl | exact hr | exact hr2 | (simp only [go_sem]; done)) ?_)) (KM.p (by repeat (first | exact KMp.nil | refine KMp.upd rfl (by first | rfl | (simp only [go_sem]; done)) ?_)))) ⟨by simp, by simp, by intro d hd; rw [List.eq_of_mem_replicate hd]; decide, by intro j _; simp [List.getD_eq_getElem?_getD, List.getElem?_replicate]; split <;> rfl, by simp [dOf, dOf_zeros]⟩ 111 (by kernel_rfl) ?_
      rintro ⟨i, z⟩ ⟨q1, q2, q3, q4, q5⟩
      simp only [] at q1 q2 q3 q4 q5
      by_cases hk : i < x.length
      · have hxi := hxd _ (getD_mem hk)
        simp (maxSteps := 1000000) only [go_sem, Nat.reduceBEq, Nat.reduceAdd, Nat.reduceLT, Nat.reduceMul, Nat.reduceSub, Nat.reduceLeDiff, Nat.reduceEqDiff, Int.reduceToNat, Nat.reduceBeqDiff, Nat.reduceBneDiff, decide_false, and_self, List.reduceReplicate, List.flatten_cons, List.flatten_nil, true_and, and_true, eq_self, decide_true, reduceIte, reduceCtorEq, List.any_toArray, Region.binds, Int.reduceBEq, Int.reduceBNe, Int.reduceLT, hk]
        refine trX_loop HE hP.mix [19, 2, 1, 0] (fun q : Nat × List Nat × Nat => ⟨upd (upd (upd (upd (upd (upd (upd (upd (upd (upd (fun _ => .junk) 4 (.ref 2 0)) 7 (sv x)) 8 (sv y)) 9 (.sl 19 0 (x.length + y.length) 1)) 51 (.int .i64 (x.length : Int))) 52 (.int .i64 (i : Int))) 10 (.int .i64 (i : Int))) 11 (.int .u64 (q.2.2 : Int))) 56 (.int .i64 (y.length : Int))) 57 (.int .i64 (q.1 : Int)), upd (upd (upd (upd (fun _ => .unused) 0 (.live [.int .u64 0, .imm x.length (List.map (fun d : Nat => AV.int .u64 (d : Int)) (x))])) 1 (.live [.int .u64 (b : Int), .nils])) 2 (.live [.int .u64 0, .nils])) 19 (.live (List.map (fun d : Nat => AV.int .u64 (d : Int)) (q.2.1))), 111⟩)
          (fun q => q.1 ≤ y.length ∧ q.2.1.length = x.length + y.length ∧ (∀ d ∈ q.2.1, d < 18446744073709551616) ∧ q.2.2 < 18446744073709551616 ∧ (∀ j, i + y.length ≤ j → q.2.1.getD j 0 = 0) ∧ dOf 18446744073709551616 q.2.1 + 18446744073709551616 ^ (i + q.1) * q.2.2 = dOf 18446744073709551616 z + 18446744073709551616 ^ i * x.getD i 0 * dOf 18446744073709551616 (y.take q.1)) (fun q => y.length - q.1) (0, z, 0) 60
          (by repeat (first | exact Has.nil | refine Has.upd rfl ?_)) (Kept.of rfl (by repeat (first | exact KT.nil | refine KT.upd rfl (by first | rfl | exact hr | exact hr2 | (simp only [go_sem]; done)) ?_)) (KM.p (by repeat (first | exact KMp.nil | refine KMp.upd rfl (by first | rfl | (simp only [go_sem]; done)) ?_)))) ⟨by simp, q2, q3, by simp, q4, by simp [dOf]⟩ 111 (by kernel_rfl) ?_
        rintro ⟨j, z', c⟩ ⟨r1, r2, r3, r4, r5, r6⟩
        simp only [] at r1 r2 r3 r4 r5 r6
        by_cases hj : j < y.length
        · have e1 : x ≠ [] := by intro e; rw [e] at hk; simp at hk
          have e2 : y ≠ [] := by intro e; rw [e] at hj; simp at hj
          have hyj := hyd _ (getD_mem hj)
          have hij : i + j < x.length + y.length := by omega
          have hz : i + j < z'.length := by omega
          have hzd := r3 _ (getD_mem hz)
          have hm := mull_lt (x.getD i 0) (y.getD j 0)
          have hal := addl_lt (mull (x.getD i 0) (y.getD j 0)) c 0
          have hcar := mul_carry hxi hyj r4 hzd
          have hw1 := wu_add' (mulh (x.getD i 0) (y.getD j 0)) (addh (mull (x.getD i 0) (y.getD j 0)) c 0) (by omega)
          have hw2 := wu_add' (mulh (x.getD i 0) (y.getD j 0) + addh (mull (x.getD i 0) (y.getD j 0)) c 0) (addh (z'.getD (i + j) 0) (addl (mull (x.getD i 0) (y.getD j 0)) c 0) 0) hcar
          have hw3 := wi_add i j (by omega)
          have hw4 := wi_add1 j (by omega)
          have hki : i ≤ x.length := by omega
          have hkj : j ≤ y.length := by omega
          simp (maxSteps := 1000000) only [go_sem, Nat.reduceBEq, Nat.reduceAdd, Nat.reduceLT, Nat.reduceMul, Nat.reduceSub, Nat.reduceLeDiff, Nat.reduceEqDiff, Int.reduceToNat, Nat.reduceBeqDiff, Nat.reduceBneDiff, decide_false, and_self, List.reduceReplicate, List.flatten_cons, List.flatten_nil, true_and, and_true, eq_self, decide_true, reduceIte, reduceCtorEq, List.any_toArray, Region.binds, Int.reduceBEq, Int.reduceBNe, Int.reduceLT, hj, hk, hki, hkj, sv_ia e1, sv_ia e2, gU' hk, gU' hj, hxi, hyj, hm, hal, hw1, hw2, hw3, hw4, hij, hz, gU hz, hzd]
          have hs := dOf_set 18446744073709551616 z' (i + j) (addl (z'.getD (i + j) 0) (addl (mull (x.getD i 0) (y.getD j 0)) c 0) 0) hz
          have hst := mul_step (18446744073709551616 ^ (i + j)) (x.getD i 0) (y.getD j 0) c (z'.getD (i + j) 0) _ _ _ r6 hs
          refine ⟨(j + 1, z'.set (i + j) (addl (z'.getD (i + j) 0) (addl (mull (x.getD i 0) (y.getD j 0)) c 0) 0), mulh (x.getD i 0) (y.getD j 0) + addh (mull (x.getD i 0) (y.getD j 0)) c 0 + addh (z'.getD (i + j) 0) (addl (mull (x.getD i 0) (y.getD j 0)) c 0) 0), Kept.of rfl (by repeat (first | exact KT.nil | refine KT.upd rfl (by first | rfl | exact hr | exact hr2 | (simp only [go_sem]; done)) ?_)) (KM.p (by repeat (first | exact KMp.nil | refine KMp.upd rfl (by first | rfl | (simp only [go_sem]; done)) ?_))), ⟨by simp only []; omega, by simp only [List.length_set]; omega, ?_, hcar, ?_, ?_⟩, by simp only []; omega⟩
          · intro d hd
            rcases List.mem_or_eq_of_mem_set hd with hd | rfl
            · exact r3 d hd
            · exact addl_lt _ _ _
          · intro j' hj'
            simp only []
            rw [getD_set_ne _ _ _ _ (by omega)]; exact r5 j' hj'
          · simp only []
            rw [dOf_take_succ 18446744073709551616 y j hj, ← Nat.add_assoc, Nat.pow_succ]
            refine hst.trans ?_
            rw [Nat.mul_add (18446744073709551616 ^ i * x.getD i 0)]
            congr 2
            rw [Nat.pow_add]
            generalize x.getD i 0 = u; generalize y.getD j 0 = v; generalize 18446744073709551616 ^ i = p1; generalize 18446744073709551616 ^ j = p2
            simp only [Nat.mul_assoc]; congr 1; rw [← Nat.mul_assoc, ← Nat.mul_assoc, Nat.mul_comm p2 u]
        · have hw1 := wi_add i y.length (by omega)
          have hz : i + y.length < z'.length := by omega
          have hij : i + y.length < x.length + y.length := by omega
          have hw2 := wi_add1 i (by omega)
          simp (maxSteps := 1000000) only [go_sem, Nat.reduceBEq, Nat.reduceAdd, Nat.reduceLT, Nat.reduceMul, Nat.reduceSub, Nat.reduceLeDiff, Nat.reduceEqDiff, Int.reduceToNat, Nat.reduceBeqDiff, Nat.reduceBneDiff, decide_false, and_self, List.reduceReplicate, List.flatten_cons, List.flatten_nil, true_and, and_true, eq_self, decide_true, reduceIte, reduceCtorEq, List.any_toArray, Region.binds, Int.reduceBEq, Int.reduceBNe, Int.reduceLT, hj, hw1, hw2, hz, hij, gU hz]
          have htj : y.take j = y := List.take_of_length_le (by omega)
          have hjl : j = y.length := by omega
          rw [htj, hjl] at r6
          refine ⟨(i + 1, z'.set (i + y.length) c), Kept.of rfl (by repeat (first | exact KT.nil | refine KT.upd rfl (by first | rfl | exact hr | exact hr2 | (simp only [go_sem]; done)) ?_)) (KM.p (by repeat (first | exact KMp.nil | refine KMp.upd rfl (by first | rfl | (simp only [go_sem]; done)) ?_))), ⟨by simp only []; omega, by simp only [List.length_set]; omega, ?_, ?_, ?_⟩, by simp only []; omega⟩
          · intro d hd
            rcases List.mem_or_eq_of_mem_set hd with hd | rfl
            · exact r3 d hd
            · exact r4
          · intro j' hj'
            simp only [] at hj' ⊢
            rw [getD_set_ne _ _ _ _ (by omega)]; exact r5 j' (by omega)
          · simp only []
            have hs := dOf_set 18446744073709551616 z' (i + y.length) c hz
            rw [r5 _ (Nat.le_refl _), Nat.mul_zero, Nat.add_zero] at hs
            rw [hs, r6, q5, dOf_take_succ 18446744073709551616 x i hk, Nat.add_mul]
      · have htk : z.take (x.length + y.length) = z := List.take_of_length_le (by omega)
        have hsl : x.length + y.length < 4611686018427387904 := by omega
        have hz3 : (∀ d ∈ z, d < 18446744073709551616) = True := eq_true q3
        have hti : x.take i = x := List.take_of_length_le (by omega)
        simp (maxSteps := 1000000) only [go_sem, Nat.reduceBEq, Nat.reduceAdd, Nat.reduceLT, Nat.reduceMul, Nat.reduceSub, Nat.reduceLeDiff, Nat.reduceEqDiff, Int.reduceToNat, Nat.reduceBeqDiff, Nat.reduceBneDiff, decide_false, and_self, List.reduceReplicate, List.flatten_cons, List.flatten_nil, true_and, and_true, eq_self, decide_true, reduceIte, reduceCtorEq, List.any_toArray, Region.binds, Int.reduceBEq, Int.reduceBNe, Int.reduceLT, hk, htk, q2, hz3, hsl]
        rw [q5, hti, hx, hy]; exact .refl _
    · rw [natC_great h1, natC_great h2]
      have hl4 := digs_length_gt 18446744073709551616 b 1 (by decide) (by omega)
      have hl5 : 2 ≤ (digs 18446744073709551616 b).length := by omega
      have hl6 : ((digs 18446744073709551616 b).length ≠ 0) = True := eq_true (by omega)
      refine CSpec_vc (E := ⟨T0, Sb⟩) (fn23 hP) HE hP.mix rfl (by first | rfl | (simp only [go_sem]; done)) (by first | rfl | (simp only [go_sem]; done)) (Nat.le_of_ble_eq_true rfl) ?_
      simp (maxSteps := 1000000) only [go_sem, Nat.reduceBEq, Nat.reduceAdd, Nat.reduceLT, Nat.reduceMul, Nat.reduceSub, Nat.reduceLeDiff, Nat.reduceEqDiff, Int.reduceToNat, Nat.reduceBeqDiff, Nat.reduceBneDiff, decide_false, and_self, List.reduceReplicate, List.flatten_cons, List.flatten_nil, true_and, and_true, eq_self, decide_true, reduceIte, reduceCtorEq, List.any_toArray, Region.binds, Int.reduceBEq, Int.reduceBNe, Int.reduceLT, hl2, hl3, hl5, hl6]
      generalize digs 18446744073709551616 a = x at *
      generalize digs 18446744073709551616 b = y at *
      have hi := wi_add x.length y.length (by omega)
      have hi2 : x.length + y.length ≤ 1099511627776 := by omega
      simp (maxSteps := 1000000) only [go_sem, Nat.reduceBEq, Nat.reduceAdd, Nat.reduceLT, Nat.reduceMul, Nat.reduceSub, Nat.reduceLeDiff, Nat.reduceEqDiff, Int.reduceToNat, Nat.reduceBeqDiff, Nat.reduceBneDiff, decide_false, and_self, List.reduceReplicate, List.flatten_cons, List.flatten_nil, true_and, and_true, eq_self, decide_true, reduceIte, reduceCtorEq, List.any_toArray, Region.binds, Int.reduceBEq, Int.reduceBNe, Int.reduceLT, hi, hi2]
      refine trX_loop HE hP.mix [19, 2, 1, 0] (fun q : Nat × List Nat => ⟨upd (upd (upd (upd (upd (upd (fun _ => .junk) 4 (.ref 2 0)) 7 (sv x)) 8 (sv y)) 9 (.sl 19 0 (x.length + y.length) 1)) 51 (.int .i64 (x.length : Int))) 52 (.int .i64 (q.1 : Int)), upd (upd (upd (upd (fun _ => .unused) 0 (.live [.int .u64 0, .imm x.length (List.map (fun d : Nat => AV.int .u64 (d : Int)) (x))])) 1 (.live [.int .u64 0, .imm y.length (List.map (fun d : Nat => AV.int .u64 (d : Int)) (y))])) 2 (.live [.int .u64 0, .nils])) 19 (.live (List.map (fun d : Nat => AV.int .u64 (d : Int)) (q.2))), 111⟩)
        (fun q => q.1 ≤ x.length ∧ q.2.length = x.length + y.length ∧ (∀ d ∈ q.2, d < 18446744073709551616) ∧ (∀ j, q.1 + y.length ≤ j → q.2.getD j 0 = 0) ∧ dOf 18446744073709551616 q.2 = dOf 18446744073709551616 (x.take q.1) * dOf 18446744073709551616 y) (fun q => x.length - q.1) (0, List.replicate (x.length + y.length) 0) 60
        (by repeat (first | exact Has.nil | refine Has.upd rfl ?_)) (Kept.of rfl (by repeat (first | exact KT.nil | refine KT.upd rfl (by first | rfl | exact hr | exact hr2 | (simp only [go_sem]; done)) ?_)) (KM.p (by repeat (first | exact KMp.nil | refine KMp.upd rfl (by first | rfl | (simp only [go_sem]; done)) ?_)))) ⟨by simp, by simp, by intro d hd; rw [List.eq_of_mem_replicate hd]; decide, by intro j _; simp [List.getD_eq_getElem?_getD, List.getElem?_replicate]; split <;> rfl, by simp [dOf, dOf_zeros]⟩ 111 (by kernel_rfl) ?_
      rintro ⟨i, z⟩ ⟨q1, q2, q3, q4, q5⟩
      simp only [] at q1 q2 q3 q4 q5
      by_cases hk : i < x.length
      · have hxi := hxd _ (getD_mem hk)
        simp (maxSteps := 1000000) only [go_sem, Nat.reduceBEq, Nat.reduceAdd, Nat.reduceLT, Nat.reduceMul, Nat.reduceSub, Nat.reduceLeDiff, Nat.reduceEqDiff, Int.reduceToNat, Nat.reduceBeqDiff, Nat.reduceBneDiff, decide_false, and_self, List.reduceReplicate, List.flatten_cons, List.flatten_nil, true_and, and_true, eq_self, decide_true, reduceIte, reduceCtorEq, List.any_toArray, Region.binds, Int.reduceBEq, Int.reduceBNe, Int.reduceLT, hk]
        refine trX_loop HE hP.mix [19, 2, 1, 0] (fun q : Nat × List Nat × Nat => ⟨upd (upd (upd (upd (upd (upd (upd (upd (upd (upd (fun _ => .junk) 4 (.ref 2 0)) 7 (sv x)) 8 (sv y)) 9 (.sl 19 0 (x.length + y.length) 1)) 51 (.int .i64 (x.length : Int))) 52 (.int .i64 (i : Int))) 10 (.int .i64 (i : Int))) 11 (.int .u64 (q.2.2 : Int))) 56 (.int .i64 (y.length : Int))) 57 (.int .i64 (q.1 : Int)), upd (upd (upd (upd (fun _ => .unused) 0 (.live [.int .u64 0, .imm x.length (List.map (fun d : Nat => AV.int .u64 (d : Int)) (x))])) 1 (.live [.int .u64 0, .imm y.length (List.map (fun d : Nat => AV.int .u64 (d : Int)) (y))])) 2 (.live [.int .u64 0, .nils])) 19 (.live (List.map (fun d : Nat => AV.int .u64 (d : Int)) (q.2.1))), 111⟩)
          (fun q => q.1 ≤ y.length ∧ q.2.1.length = x.length + y.length ∧ (∀ d ∈ q.2.1, d < 18446744073709551616) ∧ q.2.2 < 18446744073709551616 ∧ (∀ j, i + y.length ≤ j → q.2.1.getD j 0 = 0) ∧ dOf 18446744073709551616 q.2.1 + 18446744073709551616 ^ (i + q.1) * q.2.2 = dOf 18446744073709551616 z + 18446744073709551616 ^ i * x.getD i 0 * dOf 18446744073709551616 (y.take q.1)) (fun q => y.length - q.1) (0, z, 0) 60
          (by repeat (first | exact Has.nil | refine Has.upd rfl ?_)) (Kept.of rfl (by repeat (first | exact KT.nil | refine KT.upd rfl (by first | rfl | exact hr | exact hr2 | (simp only [go_sem]; done)) ?_)) (KM.p (by repeat (first | exact KMp.nil | refine KMp.upd rfl (by first | rfl | (simp only [go_sem]; done)) ?_)))) ⟨by simp, q2, q3, by simp, q4, by simp [dOf]⟩ 111 (by kernel_rfl) ?_
        rintro ⟨j, z', c⟩ ⟨r1, r2, r3, r4, r5, r6⟩
        simp only [] at r1 r2 r3 r4 r5 r6
        by_cases hj : j < y.length
        · have e1 : x ≠ [] := by intro e; rw [e] at hk; simp at hk
          have e2 : y ≠ [] := by intro e; rw [e] at hj; simp at hj
          have hyj := hyd _ (getD_mem hj)
          have hij : i + j < x.length + y.length := by omega
          have hz : i + j < z'.length := by omega
          have hzd := r3 _ (getD_mem hz)
          have hm := mull_lt (x.getD i 0) (y.getD j 0)
          have hal := addl_lt (mull (x.getD i 0) (y.getD j 0)) c 0
          have hcar := mul_carry hxi hyj r4 hzd
          have hw1 := wu_add' (mulh (x.getD i 0) (y.getD j 0)) (addh (mull (x.getD i 0) (y.getD j 0)) c 0) (by omega)
          have hw2 := wu_add' (mulh (x.getD i 0) (y.getD j 0) + addh (mull (x.getD i 0) (y.getD j 0)) c 0) (addh (z'.getD (i + j) 0) (addl (mull (x.getD i 0) (y.getD j 0)) c 0) 0) hcar
          have hw3 := wi_add i j (by omega)
          have hw4 := wi_add1 j (by omega)
          have hki : i ≤ x.length := by omega
          have hkj : j ≤ y.length := by omega
          simp (maxSteps := 1000000) only [go_sem, Nat.reduceBEq, Nat.reduceAdd, Nat.reduceLT, Nat.reduceMul, Nat.reduceSub, Nat.reduceLeDiff, Nat.reduceEqDiff, Int.reduceToNat, Nat.reduceBeqDiff, Nat.reduceBneDiff, decide_false, and_self, List.reduceReplicate, List.flatten_cons, List.flatten_nil, true_and, and_true, eq_self, decide_true, reduceIte, reduceCtorEq, List.any_toArray, Region.binds, Int.reduceBEq, Int.reduceBNe, Int.reduceLT, hj, hk, hki, hkj, sv_ia e1, sv_ia e2, gU' hk, gU' hj, hxi, hyj, hm, hal, hw1, hw2, hw3, hw4, hij, hz, gU hz, hzd]
          have hs := dOf_set 18446744073709551616 z' (i + j) (addl (z'.getD (i + j) 0) (addl (mull (x.getD i 0) (y.getD j 0)) c 0) 0) hz
          have hst := mul_step (18446744073709551616 ^ (i + j)) (x.getD i 0) (y.getD j 0) c (z'.getD (i + j) 0) _ _ _ r6 hs
          refine ⟨(j + 1, z'.set (i + j) (addl (z'.getD (i + j) 0) (addl (mull (x.getD i 0) (y.getD j 0)) c 0) 0), mulh (x.getD i 0) (y.getD j 0) + addh (mull (x.getD i 0) (y.getD j 0)) c 0 + addh (z'.getD (i + j) 0) (addl (mull (x.getD i 0) (y.getD j 0)) c 0) 0), Kept.of rfl (by repeat (first | exact KT.nil | refine KT.upd rfl (by first | rfl | exact hr | exact hr2 | (simp only [go_sem]; done)) ?_)) (KM.p (by repeat (first | exact KMp.nil | refine KMp.upd rfl (by first | rfl | (simp only [go_sem]; done)) ?_))), ⟨by simp only []; omega, by simp only [List.length_set]; omega, ?_, hcar, ?_, ?_⟩, by simp only []; omega⟩
          · intro d hd
            rcases List.mem_or_eq_of_mem_set hd with hd | rfl
            · exact r3 d hd
            · exact addl_lt _ _ _
          · intro j' hj'
            simp only []
            rw [getD_set_ne _ _ _ _ (by omega)]; exact r5 j' hj'
          · simp only []
            rw [dOf_take_succ 18446744073709551616 y j hj, ← Nat.add_assoc, Nat.pow_succ]
            refine hst.trans ?_
            rw [Nat.mul_add (18446744073709551616 ^ i * x.getD i 0)]
            congr 2
            rw [Nat.pow_add]
            generalize x.getD i 0 = u; generalize y.getD j 0 = v; generalize 18446744073709551616 ^ i = p1; generalize 18446744073709551616 ^ j = p2
            simp only [Nat.mul_assoc]; congr 1; rw [← Nat.mul_assoc, ← Nat.mul_assoc, Nat.mul_comm p2 u]
        · have hw1 := wi_add i y.length (by omega)
          have hz : i + y.length < z'.length := by omega
          have hij : i + y.length < x.length + y.length := by omega
          have hw2 := wi_add1 i (by omega)
          simp (maxSteps := 1000000) only [go_sem, Nat.reduceBEq, Nat.reduceAdd, Nat.reduceLT, Nat.reduceMul, Nat.reduceSub, Nat.reduceLeDiff, Nat.reduceEqDiff, Int.reduceToNat, Nat.reduceBeqDiff, Nat.reduceBneDiff, decide_false, and_self, List.reduceReplicate, List.flatten_cons, List.flatten_nil, true_and, and_true, eq_self, decide_true, reduceIte, reduceCtorEq, List.any_toArray, Region.binds, Int.reduceBEq, Int.reduceBNe, Int.reduceLT, hj, hw1, hw2, hz, hij, gU hz]
          have htj : y.take j = y := List.take_of_length_le (by omega)
          have hjl : j = y.length := by omega
          rw [htj, hjl] at r6
          refine ⟨(i + 1, z'.set (i + y.length) c), Kept.of rfl (by repeat (first | exact KT.nil | refine KT.upd rfl (by first | rfl | exact hr | exact hr2 | (simp only [go_sem]; done)) ?_)) (KM.p (by repeat (first | exact KMp.nil | refine KMp.upd rfl (by first | rfl | (simp only [go_sem]; done)) ?_))), ⟨by simp only []; omega, by simp only [List.length_set]; omega, ?_, ?_, ?_⟩, by simp only []; omega⟩
          · intro d hd
            rcases List.mem_or_eq_of_mem_set hd with hd | rfl
            · exact r3 d hd
            · exact r4
          · intro j' hj'
            simp only [] at hj' ⊢
            rw [getD_set_ne _ _ _ _ (by omega)]; exact r5 j' (by omega)
          · simp only []
            have hs := dOf_set 18446744073709551616 z' (i + y.length) c hz
            rw [r5 _ (Nat.le_refl _), Nat.mul_zero, Nat.add_zero] at hs
            rw [hs, r6, q5, dOf_take_succ 18446744073709551616 x i hk, Nat.add_mul]
      · have htk : z.take (x.length + y.length) = z := List.take_of_length_le (by omega)
        have hsl : x.length + y.length < 4611686018427387904 := by omega
        have hz3 : (∀ d ∈ z, d < 18446744073709551616) = True := eq_true q3
        have hti : x.take i = x := List.take_of_length_le (by omega)
        simp (maxSteps := 1000000) only [go_sem, Nat.reduceBEq, Nat.reduceAdd, Nat.reduceLT, Nat.reduceMul, Nat.reduceSub, Nat.reduceLeDiff, Nat.reduceEqDiff, Int.reduceToNat, Nat.reduceBeqDiff, Nat.reduceBneDiff, decide_false, and_self, List.reduceReplicate, List.flatten_cons, List.flatten_nil, true_and, and_true, eq_self, decide_true, reduceIte, reduceCtorEq, List.any_toArray, Region.binds, Int.reduceBEq, Int.reduceBNe, Int.reduceLT, hk, htk, q2, hz3, hsl]
        rw [q5, hti, hx, hy]; exact .refl _

theorem Mul_spec (hP : PrgOk P) (a b : Nat) (ha : blen a ≤ 68719476736) (hb : blen b ≤ 68719476736) : CSpec P 23 [(.agg [.opq (.nat (a)), .pad]), (.agg [.opq (.nat (b)), .pad])] (.agg [.opq (.nat (a * b)), .pad]) := by
  refine CSpec.cv ?_ (CvL.natIn a (CvL.natIn b .nil))
  by_cases h : a < 18446744073709551616 ∧ b < 18446744073709551616
  · rw [natC_small h.1, natC_small h.2]; exact Mul_small hP a b h.1 h.2
  · exact Mul_great hP a b ha hb h
def MulS : List AV → Option (Prop × AV) := on2 fun a b => (blen a ≤ 68719476736 ∧ blen b ≤ 68719476736, (.agg [.opq (.nat (a * b)), .pad]))
theorem MulS_ok (hP : PrgOk P) (args p r) : MulS args = some (p, r) → p → CSpec P 23 args r := on2_ok (fun a b h => by exact Mul_spec hP a b h.1 h.2) args p r
attribute [go_sem] MulS
end Go.Proofs.Ytlgimmafejbmgaa.AM
