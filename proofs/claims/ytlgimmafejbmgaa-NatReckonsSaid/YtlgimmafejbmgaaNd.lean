/- Package nat: differences. -/
import Derived.Test.YtlgimmafejbmgaaNc
namespace Go.Proofs.Ytlgimmafejbmgaa.AM
set_option linter.all false
set_option autoImplicit true
set_option relaxedAutoImplicit true
open Go Go.Proofs
set_option maxRecDepth 100000
set_option maxHeartbeats 8000000
set_option linter.unusedSimpArgs false
variable {P : Program}

theorem Sub_less (hP : PrgOk P) (a b : Nat) (ha : blen a ≤ 68719476736) (hb : blen b ≤ 68719476736) (h : a < b) : CSpec P 31 [(.agg [.opq (.nat (a)), .pad]), (.agg [.opq (.nat (b)), .pad])] (.tup [(.agg [.opq (.nat (0)), .pad]), .int .i64 10]) := by
  have HE := Sb_ok hP
  refine CSpec_vc (E := ⟨T0, Sb⟩) (fn31 hP) HE hP.mix rfl (by first | rfl | (simp only [go_sem]; done)) (by first | rfl | (simp only [go_sem]; done)) (Nat.le_of_ble_eq_true rfl) ?_
  have hc : decide (cmpI a b < 0) = true := by rw [cmpI_lt h]; rfl
  simp (maxSteps := 1000000) only [go_sem, Nat.reduceBEq, Nat.reduceAdd, Nat.reduceLT, Nat.reduceMul, Nat.reduceSub, Nat.reduceLeDiff, Nat.reduceEqDiff, Int.reduceToNat, Nat.reduceBeqDiff, Nat.reduceBneDiff, decide_false, and_self, List.reduceReplicate, List.flatten_cons, List.flatten_nil, true_and, and_true, eq_self, decide_true, reduceIte, reduceCtorEq, List.any_toArray, Region.binds, Int.reduceBEq, Int.reduceBNe, Int.reduceLT, ha, hb, hc]
  exact CvL.conv (CvL.tup (by have := CvL.natOut 0 (xs := [.int .i64 10]) (CvL.refl _); rw [natC_small (by decide)] at this; exact this) .nil)

theorem Sub_ok (hP : PrgOk P) (a b : Nat) (ha : blen a ≤ 68719476736) (hb : blen b ≤ 68719476736) (h : b ≤ a) : CSpec P 31 [(.agg [.opq (.nat (a)), .pad]), (.agg [.opq (.nat (b)), .pad])] (.tup [(.agg [.opq (.nat (a - b)), .pad]), .int .i64 0]) := by
  have HE := Sb_ok hP
  have hc : decide (cmpI a b < 0) = false := by
    rcases Nat.lt_or_ge b a with h' | h'
    · rw [cmpI_gt h']; rfl
    · rw [Nat.le_antisymm h h', cmpI_eq]; rfl
  refine CSpec.cv ?_ (CvL.natIn a (CvL.natIn b .nil))
  by_cases h1 : a < 18446744073709551616
  · have h2 : b < 18446744073709551616 := by omega
    rw [natC_small h1, natC_small h2]
    have hs := wu_sub a b h h1
    refine CSpec_vc (E := ⟨T0, Sb⟩) (fn31 hP) HE hP.mix rfl (by first | rfl | (simp only [go_sem]; done)) (by first | rfl | (simp only [go_sem]; done)) (Nat.le_of_ble_eq_true rfl) ?_
    simp (maxSteps := 1000000) only [go_sem, Nat.reduceBEq, Nat.reduceAdd, Nat.reduceLT, Nat.reduceMul, Nat.reduceSub, Nat.reduceLeDiff, Nat.reduceEqDiff, Int.reduceToNat, Nat.reduceBeqDiff, Nat.reduceBneDiff, decide_false, and_self, List.reduceReplicate, List.flatten_cons, List.flatten_nil, true_and, and_true, eq_self, decide_true, reduceIte, reduceCtorEq, List.any_toArray, Region.binds, Int.reduceBEq, Int.reduceBNe, Int.reduceLT, ha, hb, hc, h1, h2, hs]
    exact CvL.conv (CvL.tup (by have := CvL.natOut (a - b) (xs := [.int .i64 0]) (CvL.refl _); rw [natC_small (by omega)] at this; exact this) .nil)
  · rw [natC_great h1]
    have hxd : ∀ d ∈ digs 18446744073709551616 a, d < 18446744073709551616 := digs_lt 18446744073709551616 a (by decide)
    have hyd : ∀ d ∈ digs 18446744073709551616 b, d < 18446744073709551616 := digs_lt 18446744073709551616 b (by decide)
    have hx := dOf_digs 18446744073709551616 a (by decide)
    have hy := dOf_digs 18446744073709551616 b (by decide)
    have hlx := digs_len_blen a
    have hgt := digs_len_lt 18446744073709551616 a b (by decide)
    have hyx : (digs 18446744073709551616 b).length ≤ (digs 18446744073709551616 a).length := by omega
    have hl := digs_length_gt 18446744073709551616 a 1 (by decide) (by omega)
    have hl2 : 2 ≤ (digs 18446744073709551616 a).length := by omega
    have hl3 : ((digs 18446744073709551616 a).length ≠ 0) = True := eq_true (by omega)
    have hl4 : (digs 18446744073709551616 a).length ≤ 1099511627776 := by omega
    by_cases h2 : b < 18446744073709551616
    · rw [natC_small h2]
      refine CSpec_vc (E := ⟨T0, Sb⟩) (fn31 hP) HE hP.mix rfl (by first | rfl | (simp only [go_sem]; done)) (by first | rfl | (simp only [go_sem]; done)) (Nat.le_of_ble_eq_true rfl) ?_
      simp (maxSteps := 1000000) only [go_sem, Nat.reduceBEq, Nat.reduceAdd, Nat.reduceLT, Nat.reduceMul, Nat.reduceSub, Nat.reduceLeDiff, Nat.reduceEqDiff, Int.reduceToNat, Nat.reduceBeqDiff, Nat.reduceBneDiff, decide_false, and_self, List.reduceReplicate, List.flatten_cons, List.flatten_nil, true_and, and_true, eq_self, decide_true, reduceIte, reduceCtorEq, List.any_toArray, Region.binds, Int.reduceBEq, Int.reduceBNe, Int.reduceLT, ha, hb, hc, h2, hl2, hl3, hl4]
      generalize digs 18446744073709551616 a = x at *
      generalize digs 18446744073709551616 b = y at *
      refine trX_loop HE hP.mix [14, 2, 1, 0] (fun q : Nat × List Nat × Nat => ⟨upd (upd (upd (upd (upd (upd (fun _ => .junk) 4 (.ref 2 0)) 7 (sv y)) 6 (.sl 14 0 x.length 1)) 8 (.int .u64 (q.2.2 : Int))) 36 (.int .i64 (x.length : Int))) 37 (.int .i64 (q.1 : Int)), upd (upd (upd (upd (fun _ => .unused) 0 (.live [.int .u64 0, .imm x.length (List.map (fun d : Nat => AV.int .u64 (d : Int)) (x))])) 1 (.live [.int .u64 (b : Int), .nils])) 2 (.live [.int .u64 0, .nils])) 14 (.live (List.map (fun d : Nat => AV.int .u64 (d : Int)) (q.2.1))), 66⟩)
        (fun q => q.1 ≤ x.length ∧ q.2.1.length = x.length ∧ (∀ d ∈ q.2.1, d < 18446744073709551616) ∧ q.2.2 ≤ 1 ∧ dOf 18446744073709551616 q.2.1 + dOf 18446744073709551616 (y.take q.1) = dOf 18446744073709551616 x + 18446744073709551616 ^ q.1 * q.2.2) (fun q => x.length - q.1) (0, x, 0) 40
        (by repeat (first | exact Has.nil | refine Has.upd rfl ?_)) (Kept.of rfl (by repeat (first | exact KT.nil | refine KT.upd rfl (by first | rfl | exact hr | exact hr2 | (simp only [go_sem]; done)) ?_)) (KM.p (by repeat (first | exact KMp.nil | refine KMp.upd rfl (by first | rfl | (simp only [go_sem]; done)) ?_)))) ⟨by simp, by simp, hxd, by simp, by simp [dOf]⟩ 66 (by kernel_rfl) ?_
      rintro ⟨k, z, c⟩ ⟨q1, q2, q3, q4, q5⟩
      simp only [] at q1 q2 q3 q4 q5
      have htk : z.take x.length = z := List.take_of_length_le (by omega)
      have hsl : x.length < 4611686018427387904 := by omega
      have hz3 : (∀ d ∈ z, d < 18446744073709551616) = True := eq_true q3
      by_cases hk : k < x.length
      · have hkz : k < z.length := by omega
        have hzd := q3 _ (getD_mem hkz)
        have hw := wi_add1 k (by omega)
        have hset := dOf_set 18446744073709551616 z k
        by_cases hky : k < y.length
        · have e1 : y ≠ [] := by intro e; rw [e] at hky; simp at hky
          have hky' : k ≤ y.length := by omega
          have hyk := hyd _ (getD_mem hky)
          simp (maxSteps := 1000000) only [go_sem, Nat.reduceBEq, Nat.reduceAdd, Nat.reduceLT, Nat.reduceMul, Nat.reduceSub, Nat.reduceLeDiff, Nat.reduceEqDiff, Int.reduceToNat, Nat.reduceBeqDiff, Nat.reduceBneDiff, decide_false, and_self, List.reduceReplicate, List.flatten_cons, List.flatten_nil, true_and, and_true, eq_self, decide_true, reduceIte, reduceCtorEq, List.any_toArray, Region.binds, Int.reduceBEq, Int.reduceBNe, Int.reduceLT, hk, hky, hky', hkz, gU hkz, gU' hky, q4, hzd, hw, sv_ia e1]
          have hs := hset (subd (z.getD k 0) (y.getD k 0) c) hkz
          have hst := sub_step (18446744073709551616 ^ k) (z.getD k 0) (y.getD k 0) c _ _ _ hzd hyk q4 q5 hs
          refine ⟨(k + 1, z.set k (subd (z.getD k 0) (y.getD k 0) c), bor (z.getD k 0) (y.getD k 0) c), Kept.of rfl (by repeat (first | exact KT.nil | refine KT.upd rfl (by first | rfl | exact hr | exact hr2 | (simp only [go_sem]; done)) ?_)) (KM.p (by repeat (first | exact KMp.nil | refine KMp.upd rfl (by first | rfl | (simp only [go_sem]; done)) ?_))), ⟨by simp only []; omega, by simp only [List.length_set]; omega, ?_, bor_le _ _ _, ?_⟩, by simp only []; omega⟩
          · intro d hd
            rcases List.mem_or_eq_of_mem_set hd with hd | rfl
            · exact q3 d hd
            · exact subd_lt _ _ _
          · simp only []
            rw [dOf_take_succ 18446744073709551616 y k hky, Nat.pow_succ]; exact hst
        · have htke : y.take k = y := List.take_of_length_le (by omega)
          have htke1 : y.take (k + 1) = y := List.take_of_length_le (by omega)
          by_cases hc0 : c = 0
          · have hc' : (c == 0) = true := by rw [hc0]; rfl
            simp (maxSteps := 1000000) only [go_sem, Nat.reduceBEq, Nat.reduceAdd, Nat.reduceLT, Nat.reduceMul, Nat.reduceSub, Nat.reduceLeDiff, Nat.reduceEqDiff, Int.reduceToNat, Nat.reduceBeqDiff, Nat.reduceBneDiff, decide_false, and_self, List.reduceReplicate, List.flatten_cons, List.flatten_nil, true_and, and_true, eq_self, decide_true, reduceIte, reduceCtorEq, List.any_toArray, Region.binds, Int.reduceBEq, Int.reduceBNe, Int.reduceLT, hk, hky, hc', htk, q2, hz3, hsl]
            rw [hc0, htke, hx, hy] at q5
            have e : dOf 18446744073709551616 z = a - b := by simp only [Nat.mul_zero, Nat.add_zero] at q5; omega
            rw [e]; exact .refl _
          · have hc' : (c == 0) = false := by simpa using hc0
            simp (maxSteps := 1000000) only [go_sem, Nat.reduceBEq, Nat.reduceAdd, Nat.reduceLT, Nat.reduceMul, Nat.reduceSub, Nat.reduceLeDiff, Nat.reduceEqDiff, Int.reduceToNat, Nat.reduceBeqDiff, Nat.reduceBneDiff, decide_false, and_self, List.reduceReplicate, List.flatten_cons, List.flatten_nil, true_and, and_true, eq_self, decide_true, reduceIte, reduceCtorEq, List.any_toArray, Region.binds, Int.reduceBEq, Int.reduceBNe, Int.reduceLT, hk, hky, hc', hkz, gU hkz, q4, hzd, hw]
            have hs := hset (subd (z.getD k 0) 0 c) hkz
            have hst := sub_step (18446744073709551616 ^ k) (z.getD k 0) 0 c _ _ _ hzd (by decide) q4 q5 hs
            refine ⟨(k + 1, z.set k (subd (z.getD k 0) 0 c), bor (z.getD k 0) 0 c), Kept.of rfl (by repeat (first | exact KT.nil | refine KT.upd rfl (by first | rfl | exact hr | exact hr2 | (simp only [go_sem]; done)) ?_)) (KM.p (by repeat (first | exact KMp.nil | refine KMp.upd rfl (by first | rfl | (simp only [go_sem]; done)) ?_))), ⟨by simp only []; omega, by simp only [List.length_set]; omega, ?_, bor_le _ _ _, ?_⟩, by simp only []; omega⟩
            · intro d hd
              rcases List.mem_or_eq_of_mem_set hd with hd | rfl
              · exact q3 d hd
              · exact subd_lt _ _ _
            · simp only []
              rw [htke] at hst
              rw [htke1, Nat.pow_succ]; exact hst
      · simp (maxSteps := 1000000) only [go_sem, Nat.reduceBEq, Nat.reduceAdd, Nat.reduceLT, Nat.reduceMul, Nat.reduceSub, Nat.reduceLeDiff, Nat.reduceEqDiff, Int.reduceToNat, Nat.reduceBeqDiff, Nat.reduceBneDiff, decide_false, and_self, List.reduceReplicate, List.flatten_cons, List.flatten_nil, true_and, and_true, eq_self, decide_true, reduceIte, reduceCtorEq, List.any_toArray, Region.binds, Int.reduceBEq, Int.reduceBNe, Int.reduceLT, hk, htk, q2, hz3, hsl]
        have hkn : k = x.length := by omega
        have htke : y.take k = y := List.take_of_length_le (by omega)
        rw [htke] at q5
        have l1 := dOf_lt 18446744073709551616 z q3
        rw [q2, ← hkn] at l1
        have hc0 : c = 0 := by
          rcases Nat.eq_zero_or_pos c with h | h
          · exact h
          · obtain rfl : c = 1 := by omega
            omega
        have e : dOf 18446744073709551616 z = a - b := by rw [hc0, hx, hy] at q5; simp only [Nat.mul_zero, Nat.add_zero] at q5; omega
        rw [e]; exact .refl _
    · rw [natC_great h2]
      have hl4' := digs_length_gt 18446744073709551616 b 1 (by decide) (by omega)
      have hl5 : 2 ≤ (digs 18446744073709551616 b).length := by omega
      have hl6 : ((digs 18446744073709551616 b).length ≠ 0) = True := eq_true (by omega)
      refine CSpec_vc (E := ⟨T0, Sb⟩) (fn31 hP) HE hP.mix rfl (by first | rfl | (simp only [go_sem]; done)) (by first | rfl | (simp only [go_sem]; done)) (Nat.le_of_ble_eq_true rfl) ?_
      simp (maxSteps := 1000000) only [go_sem, Nat.reduceBEq, Nat.reduceAdd, Nat.reduceLT, Nat.reduceMul, Nat.reduceSub, Nat.reduceLeDiff, Nat.reduceEqDiff, Int.reduceToNat, Nat.reduceBeqDiff, Nat.reduceBneDiff, decide_false, and_self, List.reduceReplicate, List.flatten_cons, List.flatten_nil, true_and, and_true, eq_self, decide_true, reduceIte, reduceCtorEq, List.any_toArray, Region.binds, Int.reduceBEq, Int.reduceBNe, Int.reduceLT, ha, hb, hc, hl2, hl3, hl4, hl5, hl6]
      generalize digs 18446744073709551616 a = x at *
      generalize digs 18446744073709551616 b = y at *
      refine trX_loop HE hP.mix [14, 2, 1, 0] (fun q : Nat × List Nat × Nat => ⟨upd (upd (upd (upd (upd (upd (fun _ => .junk) 4 (.ref 2 0)) 7 (sv y)) 6 (.sl 14 0 x.length 1)) 8 (.int .u64 (q.2.2 : Int))) 36 (.int .i64 (x.length : Int))) 37 (.int .i64 (q.1 : Int)), upd (upd (upd (upd (fun _ => .unused) 0 (.live [.int .u64 0, .imm x.length (List.map (fun d : Nat => AV.int .u64 (d : Int)) (x))])) 1 (.live [.int .u64 0, .imm y.length (List.map (fun d : Nat => AV.int .u64 (d : Int)) (y))])) 2 (.live [.int .u64 0, .nils])) 14 (.live (List.map (fun d : Nat => AV.int .u64 (d : Int)) (q.2.1))), 66⟩)
        (fun q => q.1 ≤ x.length ∧ q.2.1.length = x.length ∧ (∀ d ∈ q.2.1, d < 18446744073709551616) ∧ q.2.2 ≤ 1 ∧ dOf 18446744073709551616 q.2.1 + dOf 18446744073709551616 (y.take q.1) = dOf 18446744073709551616 x + 18446744073709551616 ^ q.1 * q.2.2) (fun q => x.length - q.1) (0, x, 0) 40
        (by repeat (first | exact Has.nil | refine Has.upd rfl ?_)) (Kept.of rfl (by repeat (first | exact KT.nil | refine KT.upd rfl (by first | rfl | exact hr | exact hr2 | (simp only [go_sem]; done)) ?_)) (KM.p (by repeat (first | exact KMp.nil | refine KMp.upd rfl (by first | rfl | (simp only [go_sem]; done)) ?_)))) ⟨by simp, by simp, hxd, by simp, by simp [dOf]⟩ 66 (by kernel_rfl) ?_
      rintro ⟨k, z, c⟩ ⟨q1, q2, q3, q4, q5⟩
      simp only [] at q1 q2 q3 q4 q5
      have htk : z.take x.length = z := List.take_of_length_le (by omega)
      have hsl : x.length < 4611686018427387904 := by omega
      have hz3 : (∀ d ∈ z, d < 18446744073709551616) = True := eq_true q3
      by_cases hk : k < x.length
      · have hkz : k < z.length := by omega
        have hzd := q3 _ (getD_mem hkz)
        have hw := wi_add1 k (by omega)
        have hset := dOf_set 18446744073709551616 z k
        by_cases hky : k < y.length
        · have e1 : y ≠ [] := by intro e; rw [e] at hky; simp at hky
          have hky' : k ≤ y.length := by omega
          have hyk := hyd _ (getD_mem hky)
          simp (maxSteps := 1000000) only [go_sem, Nat.reduceBEq, Nat.reduceAdd, Nat.reduceLT, Nat.reduceMul, Nat.reduceSub, Nat.reduceLeDiff, Nat.reduceEqDiff, Int.reduceToNat, Nat.reduceBeqDiff, Nat.reduceBneDiff, decide_false, and_self, List.reduceReplicate, List.flatten_cons, List.flatten_nil, true_and, and_true, eq_self, decide_true, reduceIte, reduceCtorEq, List.any_toArray, Region.binds, Int.reduceBEq, Int.reduceBNe, Int.reduceLT, hk, hky, hky', hkz, gU hkz, gU' hky, q4, hzd, hw, sv_ia e1]
          have hs := hset (subd (z.getD k 0) (y.getD k 0) c) hkz
          have hst := sub_step (18446744073709551616 ^ k) (z.getD k 0) (y.getD k 0) c _ _ _ hzd hyk q4 q5 hs
          refine ⟨(k + 1, z.set k (subd (z.getD k 0) (y.getD k 0) c), bor (z.getD k 0) (y.getD k 0) c), Kept.of rfl (by repeat (first | exact KT.nil | refine KT.upd rfl (by first | rfl | exact hr | exact hr2 | (simp only [go_sem]; done)) ?_)) (KM.p (by repeat (first | exact KMp.nil | refine KMp.upd rfl (by first | rfl | (simp only [go_sem]; done)) ?_))), ⟨by simp only []; omega, by simp only [List.length_set]; omega, ?_, bor_le _ _ _, ?_⟩, by simp only []; omega⟩
          · intro d hd
            rcases List.mem_or_eq_of_mem_set hd with hd | rfl
            · exact q3 d hd
            · exact subd_lt _ _ _
          · simp only []
            rw [dOf_take_succ 18446744073709551616 y k hky, Nat.pow_succ]; exact hst
        · have htke : y.take k = y := List.take_of_length_le (by omega)
          have htke1 : y.take (k + 1) = y := List.take_of_length_le (by omega)
          by_cases hc0 : c = 0
          · have hc' : (c == 0) = true := by rw [hc0]; rfl
            simp (maxSteps := 1000000) only [go_sem, Nat.reduceBEq, Nat.reduceAdd, Nat.reduceLT, Nat.reduceMul, Nat.reduceSub, Nat.reduceLeDiff, Nat.reduceEqDiff, Int.reduceToNat, Nat.reduceBeqDiff, Nat.reduceBneDiff, decide_false, and_self, List.reduceReplicate, List.flatten_cons, List.flatten_nil, true_and, and_true, eq_self, decide_true, reduceIte, reduceCtorEq, List.any_toArray, Region.binds, Int.reduceBEq, Int.reduceBNe, Int.reduceLT, hk, hky, hc', htk, q2, hz3, hsl]
            rw [hc0, htke, hx, hy] at q5
            have e : dOf 18446744073709551616 z = a - b := by simp only [Nat.mul_zero, Nat.add_zero] at q5; omega
            rw [e]; exact .refl _
          · have hc' : (c == 0) = false := by simpa using hc0
            simp (maxSteps := 1000000) only [go_sem, Nat.reduceBEq, Nat.reduceAdd, Nat.reduceLT, Nat.reduceMul, Nat.reduceSub, Nat.reduceLeDiff, Nat.reduceEqDiff, Int.reduceToNat, Nat.reduceBeqDiff, Nat.reduceBneDiff, decide_false, and_self, List.reduceReplicate, List.flatten_cons, List.flatten_nil, true_and, and_true, eq_self, decide_true, reduceIte, reduceCtorEq, List.any_toArray, Region.binds, Int.reduceBEq, Int.reduceBNe, Int.reduceLT, hk, hky, hc', hkz, gU hkz, q4, hzd, hw]
            have hs := hset (subd (z.getD k 0) 0 c) hkz
            have hst := sub_step (18446744073709551616 ^ k) (z.getD k 0) 0 c _ _ _ hzd (by decide) q4 q5 hs
            refine ⟨(k + 1, z.set k (subd (z.getD k 0) 0 c), bor (z.getD k 0) 0 c), Kept.of rfl (by repeat (first | exact KT.nil | refine KT.upd rfl (by first | rfl | exact hr | exact hr2 | (simp only [go_sem]; done)) ?_)) (KM.p (by repeat (first | exact KMp.nil | refine KMp.upd rfl (by first | rfl | (simp only [go_sem]; done)) ?_))), ⟨by simp only []; omega, by simp only [List.length_set]; omega, ?_, bor_le _ _ _, ?_⟩, by simp only []; omega⟩
            · intro d hd
              rcases List.mem_or_eq_of_mem_set hd with hd | rfl
              · exact q3 d hd
              · exact subd_lt _ _ _
            · simp only []
              rw [htke] at hst
              rw [htke1, Nat.pow_succ]; exact hst
      · simp (maxSteps := 1000000) only [go_sem, Nat.reduceBEq, Nat.reduceAdd, Nat.reduceLT, Nat.reduceMul, Nat.reduceSub, Nat.reduceLeDiff, Nat.reduceEqDiff, Int.reduceToNat, Nat.reduceBeqDiff, Nat.reduceBneDiff, decide_false, and_self, List.reduceReplicate, List.flatten_cons, List.flatten_nil, true_and, and_true, eq_self, decide_true, reduceIte, reduceCtorEq, List.any_toArray, Region.binds, Int.reduceBEq, Int.reduceBNe, Int.reduceLT, hk, htk, q2, hz3, hsl]
        have hkn : k = x.length := by omega
        have htke : y.take k = y := List.take_of_length_le (by omega)
        rw [htke] at q5
        have l1 := dOf_lt 18446744073709551616 z q3
        rw [q2, ← hkn] at l1
        have hc0 : c = 0 := by
          rcases Nat.eq_zero_or_pos c with h | h
          · exact h
          · obtain rfl : c = 1 := by omega
            omega
        have e : dOf 18446744073709551616 z = a - b := by rw [hc0, hx, hy] at q5; simp only [Nat.mul_zero, Nat.add_zero] at q5; omega
        rw [e]; exact .refl _
def SubS : List AV → Option (Prop × AV) := on2 fun a b => (blen a ≤ 68719476736 ∧ blen b ≤ 68719476736, if a < b then .tup [(.agg [.opq (.nat (0)), .pad]), .int .i64 10] else .tup [(.agg [.opq (.nat (a - b)), .pad]), .int .i64 0])
theorem SubS_ok (hP : PrgOk P) (args p r) : SubS args = some (p, r) → p → CSpec P 31 args r := on2_ok (fun a b h => by
  by_cases hlt : a < b
  · simp only [if_pos hlt]; exact Sub_less hP a b h.1 h.2 hlt
  · simp only [if_neg hlt]; exact Sub_ok hP a b h.1 h.2 (by omega)) args p r
attribute [go_sem] SubS
end Go.Proofs.Ytlgimmafejbmgaa.AM
