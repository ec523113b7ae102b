/- Package nat: sums. -/
import Derived.Test.YtlgimmafejbmgaaNb
namespace Go.Proofs.Ytlgimmafejbmgaa.AM
set_option linter.all false
set_option autoImplicit true
set_option relaxedAutoImplicit true
open Go Go.Proofs
set_option maxRecDepth 100000
set_option maxHeartbeats 8000000
set_option linter.unusedSimpArgs false
variable {P : Program}

noncomputable def Sb : Nat → List AV → Option (Prop × AV) := addS (addS Sa 16 BitsS) 22 CmpS
theorem Sb_ok (hP : PrgOk P) : EnvOk P ⟨T0, Sb⟩ := ((Sa_ok hP).add (BitsS_ok hP)).add (CmpS_ok hP)
attribute [go_sem] Sb

theorem Add_small (hP : PrgOk P) (a b : Nat) (ha : a < 18446744073709551616) (hb : b < 18446744073709551616) : CSpec P 25 [.agg [.int .u64 (a : Int), .nils], .agg [.int .u64 (b : Int), .nils]] (.agg [.opq (.nat (a + b)), .pad]) := by
  have HE := Sb_ok hP
  refine CSpec_vc (E := ⟨T0, Sb⟩) (fn25 hP) HE hP.mix rfl (by first | rfl | (simp only [go_sem]; done)) (by first | rfl | (simp only [go_sem]; done)) (Nat.le_of_ble_eq_true rfl) ?_
  simp (maxSteps := 1000000) only [go_sem, Nat.reduceBEq, Nat.reduceAdd, Nat.reduceLT, Nat.reduceMul, Nat.reduceSub, Nat.reduceLeDiff, Nat.reduceEqDiff, Int.reduceToNat, Nat.reduceBeqDiff, Nat.reduceBneDiff, decide_false, and_self, List.reduceReplicate, List.flatten_cons, List.flatten_nil, true_and, and_true, eq_self, decide_true, reduceIte, reduceCtorEq, List.any_toArray, Region.binds, Int.reduceBEq, Int.reduceBNe, Int.reduceLT, ha]
  have h2 := add_all a b 0
  have h3 := addl_lt a b 0
  have h4 := addh_le ha hb (c := 0) (by decide)
  refine if_split (fun h => ?_) (fun h => ?_)
  · simp (maxSteps := 1000000) only [go_sem, Nat.reduceBEq, Nat.reduceAdd, Nat.reduceLT, Nat.reduceMul, Nat.reduceSub, Nat.reduceLeDiff, Nat.reduceEqDiff, Int.reduceToNat, Nat.reduceBeqDiff, Nat.reduceBneDiff, decide_false, and_self, List.reduceReplicate, List.flatten_cons, List.flatten_nil, true_and, and_true, eq_self, decide_true, reduceIte, reduceCtorEq, List.any_toArray, Region.binds, Int.reduceBEq, Int.reduceBNe, Int.reduceLT]
    have h := eq_of_beq h
    have e : addl a b 0 = a + b := by omega
    rw [e]; exact Conv.nat1 (by omega)
  · simp (maxSteps := 1000000) only [go_sem, Nat.reduceBEq, Nat.reduceAdd, Nat.reduceLT, Nat.reduceMul, Nat.reduceSub, Nat.reduceLeDiff, Nat.reduceEqDiff, Int.reduceToNat, Nat.reduceBeqDiff, Nat.reduceBneDiff, decide_false, and_self, List.reduceReplicate, List.flatten_cons, List.flatten_nil, true_and, and_true, eq_self, decide_true, reduceIte, reduceCtorEq, List.any_toArray, Region.binds, Int.reduceBEq, Int.reduceBNe, Int.reduceLT]
    have h : addh a b 0 ≠ 0 := by simpa using h
    have e : dOf 18446744073709551616 [addl a b 0, addh a b 0] = a + b := by simp only [dOf]; omega
    have := Conv.natL (l := [addl a b 0, addh a b 0]) (n := 2) ?_ ?_ (by simp) rfl
    · rw [e] at this; exact this
    · intro d hd
      simp only [List.mem_cons, List.not_mem_nil, or_false] at hd
      rcases hd with rfl | rfl <;> omega
    · intro _; simpa using h

theorem Add_great (hP : PrgOk P) (a b : Nat) (ha : blen a ≤ 68719476736) (hb : blen b ≤ 68719476736) (hg : ¬ (a < 18446744073709551616 ∧ b < 18446744073709551616)) : CSpec P 25 [.agg (natC a), .agg (natC b)] (.agg [.opq (.nat (a + b)), .pad]) := by
  have HE := Sb_ok hP
  have hxd : ∀ d ∈ digs 18446744073709551616 a, d < 18446744073709551616 := digs_lt 18446744073709551616 a (by decide)
  have hyd : ∀ d ∈ digs 18446744073709551616 b, d < 18446744073709551616 := digs_lt 18446744073709551616 b (by decide)
  have hx := dOf_digs 18446744073709551616 a (by decide)
  have hy := dOf_digs 18446744073709551616 b (by decide)
  have hlx := digs_len_blen a
  have hly := digs_len_blen b
  have hlt := digs_len_lt 18446744073709551616 a b (by decide)
  have hgt := digs_len_lt 18446744073709551616 b a (by decide)
  by_cases h1 : a < 18446744073709551616
  · rw [natC_small h1, natC_great (by omega)]
    have hl := digs_length_gt 18446744073709551616 b 1 (by decide) (by omega)
    have hl1 := digs_length_le 18446744073709551616 a 1 (by decide) (by omega)
    have hl' : (digs 18446744073709551616 a).length < (digs 18446744073709551616 b).length := by omega
    have hl2 : 2 ≤ (digs 18446744073709551616 b).length := by omega
    have hl3 : ((digs 18446744073709551616 b).length ≠ 0) = True := eq_true (by omega)
    refine CSpec_vc (E := ⟨T0, Sb⟩) (fn25 hP) HE hP.mix rfl (by first | rfl | (simp only [go_sem]; done)) (by first | rfl | (simp only [go_sem]; done)) (Nat.le_of_ble_eq_true rfl) ?_
    simp (maxSteps := 1000000) only [go_sem, Nat.reduceBEq, Nat.reduceAdd, Nat.reduceLT, Nat.reduceMul, Nat.reduceSub, Nat.reduceLeDiff, Nat.reduceEqDiff, Int.reduceToNat, Nat.reduceBeqDiff, Nat.reduceBneDiff, decide_false, and_self, List.reduceReplicate, List.flatten_cons, List.flatten_nil, true_and, and_true, eq_self, decide_true, reduceIte, reduceCtorEq, List.any_toArray, Region.binds, Int.reduceBEq, Int.reduceBNe, Int.reduceLT, h1, hl', hl2, hl3]
    generalize digs 18446744073709551616 a = x at *
    generalize digs 18446744073709551616 b = y at *
    have hi := wi_add1 y.length (by omega)
    have hi2 : y.length + 1 ≤ 1099511627776 := by omega
    have hi3 : y.length ≤ y.length + 1 := by omega
    simp (maxSteps := 1000000) only [go_sem, Nat.reduceBEq, Nat.reduceAdd, Nat.reduceLT, Nat.reduceMul, Nat.reduceSub, Nat.reduceLeDiff, Nat.reduceEqDiff, Int.reduceToNat, Nat.reduceBeqDiff, Nat.reduceBneDiff, decide_false, and_self, List.reduceReplicate, List.flatten_cons, List.flatten_nil, true_and, and_true, eq_self, decide_true, reduceIte, reduceCtorEq, List.any_toArray, Region.binds, Int.reduceBEq, Int.reduceBNe, Int.reduceLT, hi, hi2, hi3]
    have hyx : x.length ≤ y.length := by omega
    refine trX_loop HE hP.mix [29, 2, 1, 0] (fun q : Nat × List Nat × Nat => ⟨upd (upd (upd (upd (upd (upd (fun _ => .junk) 4 (.ref 2 0)) 8 (sv x)) 9 (.sl 29 0 (y.length + 1) 1)) 10 (.int .u64 (q.2.2 : Int))) 56 (.int .i64 ((y.length + 1 : Nat) : Int))) 57 (.int .i64 (q.1 : Int)), upd (upd (upd (upd (fun _ => .unused) 0 (.live [.int .u64 (a : Int), .nils])) 1 (.live [.int .u64 0, .imm y.length (List.map (fun d : Nat => AV.int .u64 (d : Int)) (y))])) 2 (.live [.int .u64 0, .nils])) 29 (.live (List.map (fun d : Nat => AV.int .u64 (d : Int)) (q.2.1))), 86⟩)
      (fun q => q.1 ≤ y.length + 1 ∧ q.2.1.length = y.length + 1 ∧ (∀ d ∈ q.2.1, d < 18446744073709551616) ∧ q.2.2 ≤ 1 ∧ dOf 18446744073709551616 q.2.1 + 18446744073709551616 ^ q.1 * q.2.2 = dOf 18446744073709551616 y + dOf 18446744073709551616 (x.take q.1)) (fun q => y.length + 1 - q.1) (0, y ++ [0], 0) 40
      (by repeat (first | exact Has.nil | refine Has.upd rfl ?_)) (Kept.of rfl (by repeat (first | exact KT.nil | refine KT.upd rfl (by first | rfl | exact hr | exact hr2 | (simp only [go_sem]; done)) ?_)) (KM.p (by repeat (first | exact KMp.nil | refine KMp.upd rfl (by first | rfl | (simp only [go_sem]; done)) ?_)))) ⟨by simp, by simp, by intro d hd; rcases List.mem_append.1 hd with hd | hd; exact (hyd d hd); simp at hd; omega, by simp, by simp [dOf_append, dOf]⟩ 86 (by kernel_rfl) ?_
    rintro ⟨k, z, c⟩ ⟨q1, q2, q3, q4, q5⟩
    simp only [] at q1 q2 q3 q4 q5
    have fin : dOf 18446744073709551616 z = a + b → CSpec P 43 [.imm z.length (List.map (fun d : Nat => AV.int .u64 (d : Int)) (z))] (.agg [.opq (.nat (a + b)), .pad]) := fun h => h ▸ cut_spec hP z q3 (by omega)
    have htk : z.take (y.length + 1) = z := List.take_of_length_le (by omega)
    have hsl : y.length + 1 < 4611686018427387904 := by omega
    have hz3 : (∀ d ∈ z, d < 18446744073709551616) = True := eq_true q3
    have hall := hyd
    by_cases hk : k < y.length + 1
    · have hkz : k < z.length := by omega
      have hzd := q3 _ (getD_mem hkz)
      have hw := wi_add1 k (by omega)
      have hset := dOf_set 18446744073709551616 z k
      by_cases hky : k < x.length
      · have e1 : x ≠ [] := by intro e; rw [e] at hky; simp at hky
        have hky' : k ≤ x.length := by omega
        simp (maxSteps := 1000000) only [go_sem, Nat.reduceBEq, Nat.reduceAdd, Nat.reduceLT, Nat.reduceMul, Nat.reduceSub, Nat.reduceLeDiff, Nat.reduceEqDiff, Int.reduceToNat, Nat.reduceBeqDiff, Nat.reduceBneDiff, decide_false, and_self, List.reduceReplicate, List.flatten_cons, List.flatten_nil, true_and, and_true, eq_self, decide_true, reduceIte, reduceCtorEq, List.any_toArray, Region.binds, Int.reduceBEq, Int.reduceBNe, Int.reduceLT, hk, hky, hky', hkz, gU hkz, gU' hky, q4, hzd, hw, sv_ia e1]
        have hs := hset (addl (z.getD k 0) (x.getD k 0) c) hkz
        have hst := add_step (18446744073709551616 ^ k) (z.getD k 0) (x.getD k 0) c _ _ _ q5 hs
        have hyk := hxd _ (getD_mem hky)
        refine ⟨(k + 1, z.set k (addl (z.getD k 0) (x.getD k 0) c), addh (z.getD k 0) (x.getD k 0) c), Kept.of rfl (by repeat (first | exact KT.nil | refine KT.upd rfl (by first | rfl | exact hr | exact hr2 | (simp only [go_sem]; done)) ?_)) (KM.p (by repeat (first | exact KMp.nil | refine KMp.upd rfl (by first | rfl | (simp only [go_sem]; done)) ?_))), ⟨by simp only []; omega, by simp only [List.length_set]; omega, ?_, addh_le hzd hyk q4, ?_⟩, by simp only []; omega⟩
        · intro d hd
          rcases List.mem_or_eq_of_mem_set hd with hd | rfl
          · exact q3 d hd
          · exact addl_lt _ _ _
        · simp only []
          rw [dOf_take_succ 18446744073709551616 x k hky, Nat.pow_succ]; exact hst
      · have htke : x.take k = x := List.take_of_length_le (by omega)
        have htke1 : x.take (k + 1) = x := List.take_of_length_le (by omega)
        by_cases hc : c = 0
        · have hc' : (c == 0) = true := by rw [hc]; rfl
          simp (maxSteps := 1000000) only [go_sem, Nat.reduceBEq, Nat.reduceAdd, Nat.reduceLT, Nat.reduceMul, Nat.reduceSub, Nat.reduceLeDiff, Nat.reduceEqDiff, Int.reduceToNat, Nat.reduceBeqDiff, Nat.reduceBneDiff, decide_false, and_self, List.reduceReplicate, List.flatten_cons, List.flatten_nil, true_and, and_true, eq_self, decide_true, reduceIte, reduceCtorEq, List.any_toArray, Region.binds, Int.reduceBEq, Int.reduceBNe, Int.reduceLT, hk, hky, hc', htk, q2, hz3, hsl]
          rw [hc, htke, hy, hx] at q5
          have e : dOf 18446744073709551616 z = a + b := by simp only [Nat.mul_zero, Nat.add_zero] at q5; omega
          rw [e]; exact .refl _
        · have hc' : (c == 0) = false := by simpa using hc
          simp (maxSteps := 1000000) only [go_sem, Nat.reduceBEq, Nat.reduceAdd, Nat.reduceLT, Nat.reduceMul, Nat.reduceSub, Nat.reduceLeDiff, Nat.reduceEqDiff, Int.reduceToNat, Nat.reduceBeqDiff, Nat.reduceBneDiff, decide_false, and_self, List.reduceReplicate, List.flatten_cons, List.flatten_nil, true_and, and_true, eq_self, decide_true, reduceIte, reduceCtorEq, List.any_toArray, Region.binds, Int.reduceBEq, Int.reduceBNe, Int.reduceLT, hk, hky, hc', hkz, gU hkz, q4, hzd, hw]
          have hs := hset (addl (z.getD k 0) 0 c) hkz
          have hst := add_step (18446744073709551616 ^ k) (z.getD k 0) 0 c _ _ _ q5 hs
          refine ⟨(k + 1, z.set k (addl (z.getD k 0) 0 c), addh (z.getD k 0) 0 c), Kept.of rfl (by repeat (first | exact KT.nil | refine KT.upd rfl (by first | rfl | exact hr | exact hr2 | (simp only [go_sem]; done)) ?_)) (KM.p (by repeat (first | exact KMp.nil | refine KMp.upd rfl (by first | rfl | (simp only [go_sem]; done)) ?_))), ⟨by simp only []; omega, by simp only [List.length_set]; omega, ?_, addh_le hzd (by decide) q4, ?_⟩, by simp only []; omega⟩
          · intro d hd
            rcases List.mem_or_eq_of_mem_set hd with hd | rfl
            · exact q3 d hd
            · exact addl_lt _ _ _
          · simp only []
            rw [htke] at hst
            rw [htke1, Nat.pow_succ]; exact hst
    · simp (maxSteps := 1000000) only [go_sem, Nat.reduceBEq, Nat.reduceAdd, Nat.reduceLT, Nat.reduceMul, Nat.reduceSub, Nat.reduceLeDiff, Nat.reduceEqDiff, Int.reduceToNat, Nat.reduceBeqDiff, Nat.reduceBneDiff, decide_false, and_self, List.reduceReplicate, List.flatten_cons, List.flatten_nil, true_and, and_true, eq_self, decide_true, reduceIte, reduceCtorEq, List.any_toArray, Region.binds, Int.reduceBEq, Int.reduceBNe, Int.reduceLT, hk, htk, q2, hz3, hsl]
      have hkn : k = y.length + 1 := by omega
      have htke : x.take k = x := List.take_of_length_le (by omega)
      rw [htke] at q5
      have l1 := dOf_lt 18446744073709551616 y hyd
      have l2 := dOf_lt 18446744073709551616 x hxd
      have l3 := Nat.pow_le_pow_right (by decide : 0 < 18446744073709551616) hyx
      have l4 : 18446744073709551616 ^ k = 18446744073709551616 ^ y.length * 18446744073709551616 := by rw [hkn, Nat.pow_succ]
      have hc : c = 0 := by
        rcases Nat.eq_zero_or_pos c with h | h
        · exact h
        · obtain rfl : c = 1 := by omega
          omega
      have e : dOf 18446744073709551616 z = a + b := by rw [hc, hy, hx] at q5; simp only [Nat.mul_zero, Nat.add_zero] at q5; omega
      rw [e]; exact .refl _
  · have hl := digs_length_gt 18446744073709551616 a 1 (by decide) (by omega)
    have hl2 : 2 ≤ (digs 18446744073709551616 a).length := by omega
    have hl3 : ((digs 18446744073709551616 a).length ≠ 0) = True := eq_true (by omega)
    by_cases h2 : b < 18446744073709551616
    · rw [natC_great h1, natC_small h2]
      have hl1 := digs_length_le 18446744073709551616 b 1 (by decide) (by omega)
      have hl' : ¬ (digs 18446744073709551616 a).length < (digs 18446744073709551616 b).length := by omega
      refine CSpec_vc (E := ⟨T0, Sb⟩) (fn25 hP) HE hP.mix rfl (by first | rfl | (simp only [go_sem]; done)) (by first | rfl | (simp only [go_sem]; done)) (Nat.le_of_ble_eq_true rfl) ?_
      simp (maxSteps := 1000000) only [go_sem, Nat.reduceBEq, Nat.reduceAdd, Nat.reduceLT, Nat.reduceMul, Nat.reduceSub, Nat.reduceLeDiff, Nat.reduceEqDiff, Int.reduceToNat, Nat.reduceBeqDiff, Nat.reduceBneDiff, decide_false, and_self, List.reduceReplicate, List.flatten_cons, List.flatten_nil, true_and, and_true, eq_self, decide_true, reduceIte, reduceCtorEq, List.any_toArray, Region.binds, Int.reduceBEq, Int.reduceBNe, Int.reduceLT, h2, hl', hl2, hl3]
      generalize digs 18446744073709551616 a = x at *
      generalize digs 18446744073709551616 b = y at *
      have hi := wi_add1 x.length (by omega)
      have hi2 : x.length + 1 ≤ 1099511627776 := by omega
      have hi3 : x.length ≤ x.length + 1 := by omega
      simp (maxSteps := 1000000) only [go_sem, Nat.reduceBEq, Nat.reduceAdd, Nat.reduceLT, Nat.reduceMul, Nat.reduceSub, Nat.reduceLeDiff, Nat.reduceEqDiff, Int.reduceToNat, Nat.reduceBeqDiff, Nat.reduceBneDiff, decide_false, and_self, List.reduceReplicate, List.flatten_cons, List.flatten_nil, true_and, and_true, eq_self, decide_true, reduceIte, reduceCtorEq, List.any_toArray, Region.binds, Int.reduceBEq, Int.reduceBNe, Int.reduceLT, hi, hi2, hi3]
      have hyx : y.length ≤ x.length := by omega
      refine trX_loop HE hP.mix [22, 2, 1, 0] (fun q : Nat × List Nat × Nat => ⟨upd (upd (upd (upd (upd (upd (fun _ => .junk) 4 (.ref 2 0)) 8 (sv y)) 9 (.sl 22 0 (x.length + 1) 1)) 10 (.int .u64 (q.2.2 : Int))) 56 (.int .i64 ((x.length + 1 : Nat) : Int))) 57 (.int .i64 (q.1 : Int)), upd (upd (upd (upd (fun _ => .unused) 0 (.live [.int .u64 0, .imm x.length (List.map (fun d : Nat => AV.int .u64 (d : Int)) (x))])) 1 (.live [.int .u64 (b : Int), .nils])) 2 (.live [.int .u64 0, .nils])) 22 (.live (List.map (fun d : Nat => AV.int .u64 (d : Int)) (q.2.1))), 86⟩)
        (fun q => q.1 ≤ x.length + 1 ∧ q.2.1.length = x.length + 1 ∧ (∀ d ∈ q.2.1, d < 18446744073709551616) ∧ q.2.2 ≤ 1 ∧ dOf 18446744073709551616 q.2.1 + 18446744073709551616 ^ q.1 * q.2.2 = dOf 18446744073709551616 x + dOf 18446744073709551616 (y.take q.1)) (fun q => x.length + 1 - q.1) (0, x ++ [0], 0) 40
        (by repeat (first | exact Has.nil | refine Has.upd rfl ?_)) (Kept.of rfl (by repeat (first | exact KT.nil | refine KT.upd rfl (by first | rfl | exact hr | exact hr2 | (simp only [go_sem]; done)) ?_)) (KM.p (by repeat (first | exact KMp.nil | refine KMp.upd rfl (by first | rfl | (simp only [go_sem]; done)) ?_)))) ⟨by simp, by simp, by intro d hd; rcases List.mem_append.1 hd with hd | hd; exact (hxd d hd); simp at hd; omega, by simp, by simp [dOf_append, dOf]⟩ 86 (by kernel_rfl) ?_
      rintro ⟨k, z, c⟩ ⟨q1, q2, q3, q4, q5⟩
      simp only [] at q1 q2 q3 q4 q5
      have fin : dOf 18446744073709551616 z = a + b → CSpec P 43 [.imm z.length (List.map (fun d : Nat => AV.int .u64 (d : Int)) (z))] (.agg [.opq (.nat (a + b)), .pad]) := fun h => h ▸ cut_spec hP z q3 (by omega)
      have htk : z.take (x.length + 1) = z := List.take_of_length_le (by omega)
      have hsl : x.length + 1 < 4611686018427387904 := by omega
      have hz3 : (∀ d ∈ z, d < 18446744073709551616) = True := eq_true q3
      have hall := hxd
      by_cases hk : k < x.length + 1
      · have hkz : k < z.length := by omega
        have hzd := q3 _ (getD_mem hkz)
        have hw := wi_add1 k (by omega)
        have hset := dOf_set 18446744073709551616 z k
        by_cases hky : k < y.length
        · have e1 : y ≠ [] := by intro e; rw [e] at hky; simp at hky
          have hky' : k ≤ y.length := by omega
          simp (maxSteps := 1000000) only [go_sem, Nat.reduceBEq, Nat.reduceAdd, Nat.reduceLT, Nat.reduceMul, Nat.reduceSub, Nat.reduceLeDiff, Nat.reduceEqDiff, Int.reduceToNat, Nat.reduceBeqDiff, Nat.reduceBneDiff, decide_false, and_self, List.reduceReplicate, List.flatten_cons, List.flatten_nil, true_and, and_true, eq_self, decide_true, reduceIte, reduceCtorEq, List.any_toArray, Region.binds, Int.reduceBEq, Int.reduceBNe, Int.reduceLT, hk, hky, hky', hkz, gU hkz, gU' hky, q4, hzd, hw, sv_ia e1]
          have hs := hset (addl (z.getD k 0) (y.getD k 0) c) hkz
          have hst := add_step (18446744073709551616 ^ k) (z.getD k 0) (y.getD k 0) c _ _ _ q5 hs
          have hyk := hyd _ (getD_mem hky)
          refine ⟨(k + 1, z.set k (addl (z.getD k 0) (y.getD k 0) c), addh (z.getD k 0) (y.getD k 0) c), Kept.of rfl (by repeat (first | exact KT.nil | refine KT.upd rfl (by first | rfl | exact hr | exact hr2 | (simp only [go_sem]; done)) ?_)) (KM.p (by repeat (first | exact KMp.nil | refine KMp.upd rfl (by first | rfl | (simp only [go_sem]; done)) ?_))), ⟨by simp only []; omega, by simp only [List.length_set]; omega, ?_, addh_le hzd hyk q4, ?_⟩, by simp only []; omega⟩
          · intro d hd
            rcases List.mem_or_eq_of_mem_set hd with hd | rfl
            · exact q3 d hd
            · exact addl_lt _ _ _
          · simp only []
            rw [dOf_take_succ 18446744073709551616 y k hky, Nat.pow_succ]; exact hst
        · have htke : y.take k = y := List.take_of_length_le (by omega)
          have htke1 : y.take (k + 1) = y := List.take_of_length_le (by omega)
          by_cases hc : c = 0
          · have hc' : (c == 0) = true := by rw [hc]; rfl
            simp (maxSteps := 1000000) only [go_sem, Nat.reduceBEq, Nat.reduceAdd, Nat.reduceLT, Nat.reduceMul, Nat.reduceSub, Nat.reduceLeDiff, Nat.reduceEqDiff, Int.reduceToNat, Nat.reduceBeqDiff, Nat.reduceBneDiff, decide_false, and_self, List.reduceReplicate, List.flatten_cons, List.flatten_nil, true_and, and_true, eq_self, decide_true, reduceIte, reduceCtorEq, List.any_toArray, Region.binds, Int.reduceBEq, Int.reduceBNe, Int.reduceLT, hk, hky, hc', htk, q2, hz3, hsl]
            rw [hc, htke, hx, hy] at q5
            have e : dOf 18446744073709551616 z = a + b := by simp only [Nat.mul_zero, Nat.add_zero] at q5; omega
            rw [e]; exact .refl _
          · have hc' : (c == 0) = false := by simpa using hc
            simp (maxSteps := 1000000) only [go_sem, Nat.reduceBEq, Nat.reduceAdd, Nat.reduceLT, Nat.reduceMul, Nat.reduceSub, Nat.reduceLeDiff, Nat.reduceEqDiff, Int.reduceToNat, Nat.reduceBeqDiff, Nat.reduceBneDiff, decide_false, and_self, List.reduceReplicate, List.flatten_cons, List.flatten_nil, true_and, and_true, eq_self, decide_true, reduceIte, reduceCtorEq, List.any_toArray, Region.binds, Int.reduceBEq, Int.reduceBNe, Int.reduceLT, hk, hky, hc', hkz, gU hkz, q4, hzd, hw]
            have hs := hset (addl (z.getD k 0) 0 c) hkz
            have hst := add_step (18446744073709551616 ^ k) (z.getD k 0) 0 c _ _ _ q5 hs
            refine ⟨(k + 1, z.set k (addl (z.getD k 0) 0 c), addh (z.getD k 0) 0 c), Kept.of rfl (by repeat (first | exact KT.nil | refine KT.upd rfl (by first | rfl | exact hr | exact hr2 | (simp only [go_sem]; done)) ?_)) (KM.p (by repeat (first | exact KMp.nil | refine KMp.upd rfl (by first | rfl | (simp only [go_sem]; done)) ?_))), ⟨by simp only []; omega, by simp only [List.length_set]; omega, ?_, addh_le hzd (by decide) q4, ?_⟩, by simp only []; omega⟩
            · intro d hd
              rcases List.mem_or_eq_of_mem_set hd with hd | rfl
              · exact q3 d hd
              · exact addl_lt _ _ _
            · simp only []
              rw [htke] at hst
              rw [htke1, Nat.pow_succ]; exact hst
      · simp (maxSteps := 1000000) only [go_sem, Nat.reduceBEq, Nat.reduceAdd, Nat.reduceLT, Nat.reduceMul, Nat.reduceSub, Nat.reduceLeDiff, Nat.reduceEqDiff, Int.reduceToNat, Nat.reduceBeqDiff, Nat.reduceBneDiff, decide_false, and_self, List.reduceReplicate, List.flatten_cons, List.flatten_nil, true_and, and_true, eq_self, decide_true, reduceIte, reduceCtorEq, List.any_toArray, Region.binds, Int.reduceBEq, Int.reduceBNe, Int.reduceLT, hk, htk, q2, hz3, hsl]
        have hkn : k = x.length + 1 := by omega
        have htke : y.take k = y := List.take_of_length_le (by omega)
        rw [htke] at q5
        have l1 := dOf_lt 18446744073709551616 x hxd
        have l2 := dOf_lt 18446744073709551616 y hyd
        have l3 := Nat.pow_le_pow_right (by decide : 0 < 18446744073709551616) hyx
        have l4 : 18446744073709551616 ^ k = 18446744073709551616 ^ x.length * 18446744073709551616 := by rw [hkn, Nat.pow_succ]
        have hc : c = 0 := by
          rcases Nat.eq_zero_or_pos c with h | h
          · exact h
          · obtain rfl : c = 1 := by omega
            omega
        have e : dOf 18446744073709551616 z = a + b := by rw [hc, hx, hy] at q5; simp only [Nat.mul_zero, Nat.add_zero] at q5; omega
        rw [e]; exact .refl _
    · rw [natC_great h1, natC_great h2]
      have hl4 := digs_length_gt 18446744073709551616 b 1 (by decide) (by omega)
      have hl5 : 2 ≤ (digs 18446744073709551616 b).length := by omega
      have hl6 : ((digs 18446744073709551616 b).length ≠ 0) = True := eq_true (by omega)
      by_cases hl' : (digs 18446744073709551616 a).length < (digs 18446744073709551616 b).length
      · refine CSpec_vc (E := ⟨T0, Sb⟩) (fn25 hP) HE hP.mix rfl (by first | rfl | (simp only [go_sem]; done)) (by first | rfl | (simp only [go_sem]; done)) (Nat.le_of_ble_eq_true rfl) ?_
        simp (maxSteps := 1000000) only [go_sem, Nat.reduceBEq, Nat.reduceAdd, Nat.reduceLT, Nat.reduceMul, Nat.reduceSub, Nat.reduceLeDiff, Nat.reduceEqDiff, Int.reduceToNat, Nat.reduceBeqDiff, Nat.reduceBneDiff, decide_false, and_self, List.reduceReplicate, List.flatten_cons, List.flatten_nil, true_and, and_true, eq_self, decide_true, reduceIte, reduceCtorEq, List.any_toArray, Region.binds, Int.reduceBEq, Int.reduceBNe, Int.reduceLT, hl', hl2, hl3, hl5, hl6]
        generalize digs 18446744073709551616 a = x at *
        generalize digs 18446744073709551616 b = y at *
        have hi := wi_add1 y.length (by omega)
        have hi2 : y.length + 1 ≤ 1099511627776 := by omega
        have hi3 : y.length ≤ y.length + 1 := by omega
        simp (maxSteps := 1000000) only [go_sem, Nat.reduceBEq, Nat.reduceAdd, Nat.reduceLT, Nat.reduceMul, Nat.reduceSub, Nat.reduceLeDiff, Nat.reduceEqDiff, Int.reduceToNat, Nat.reduceBeqDiff, Nat.reduceBneDiff, decide_false, and_self, List.reduceReplicate, List.flatten_cons, List.flatten_nil, true_and, and_true, eq_self, decide_true, reduceIte, reduceCtorEq, List.any_toArray, Region.binds, Int.reduceBEq, Int.reduceBNe, Int.reduceLT, hi, hi2, hi3]
        have hyx : x.length ≤ y.length := by omega
        refine trX_loop HE hP.mix [26, 2, 1, 0] (fun q : Nat × List Nat × Nat => ⟨upd (upd (upd (upd (upd (upd (fun _ => .junk) 4 (.ref 2 0)) 8 (sv x)) 9 (.sl 26 0 (y.length + 1) 1)) 10 (.int .u64 (q.2.2 : Int))) 56 (.int .i64 ((y.length + 1 : Nat) : Int))) 57 (.int .i64 (q.1 : Int)), upd (upd (upd (upd (fun _ => .unused) 0 (.live [.int .u64 0, .imm x.length (List.map (fun d : Nat => AV.int .u64 (d : Int)) (x))])) 1 (.live [.int .u64 0, .imm y.length (List.map (fun d : Nat => AV.int .u64 (d : Int)) (y))])) 2 (.live [.int .u64 0, .nils])) 26 (.live (List.map (fun d : Nat => AV.int .u64 (d : Int)) (q.2.1))), 86⟩)
          (fun q => q.1 ≤ y.length + 1 ∧ q.2.1.length = y.length + 1 ∧ (∀ d ∈ q.2.1, d < 18446744073709551616) ∧ q.2.2 ≤ 1 ∧ dOf 18446744073709551616 q.2.1 + 18446744073709551616 ^ q.1 * q.2.2 = dOf 18446744073709551616 y + dOf 18446744073709551616 (x.take q.1)) (fun q => y.length + 1 - q.1) (0, y ++ [0], 0) 40
          (by repeat (first | exact Has.nil | refine Has.upd rfl ?_)) (Kept.of rfl (by repeat (first | exact KT.nil | refine KT.upd rfl (by first | rfl | exact hr | exact hr2 | (simp only [go_sem]; done)) ?_)) (KM.p (by repeat (first | exact KMp.nil | refine KMp.upd rfl (by first | rfl | (simp only [go_sem]; done)) ?_)))) ⟨by simp, by simp, by intro d hd; rcases List.mem_append.1 hd with hd | hd; exact (hyd d hd); simp at hd; omega, by simp, by simp [dOf_append, dOf]⟩ 86 (by kernel_rfl) ?_
        rintro ⟨k, z, c⟩ ⟨q1, q2, q3, q4, q5⟩
        simp only [] at q1 q2 q3 q4 q5
        have fin : dOf 18446744073709551616 z = a + b → CSpec P 43 [.imm z.length (List.map (fun d : Nat => AV.int .u64 (d : Int)) (z))] (.agg [.opq (.nat (a + b)), .pad]) := fun h => h ▸ cut_spec hP z q3 (by omega)
        have htk : z.take (y.length + 1) = z := List.take_of_length_le (by omega)
        have hsl : y.length + 1 < 4611686018427387904 := by omega
        have hz3 : (∀ d ∈ z, d < 18446744073709551616) = True := eq_true q3
        have hall := hyd
        by_cases hk : k < y.length + 1
        · have hkz : k < z.length := by omega
          have hzd := q3 _ (getD_mem hkz)
          have hw := wi_add1 k (by omega)
          have hset := dOf_set 18446744073709551616 z k
          by_cases hky : k < x.length
          · have e1 : x ≠ [] := by intro e; rw [e] at hky; simp at hky
            have hky' : k ≤ x.length := by omega
            simp (maxSteps := 1000000) only [go_sem, Nat.reduceBEq, Nat.reduceAdd, Nat.reduceLT, Nat.reduceMul, Nat.reduceSub, Nat.reduceLeDiff, Nat.reduceEqDiff, Int.reduceToNat, Nat.reduceBeqDiff, Nat.reduceBneDiff, decide_false, and_self, List.reduceReplicate, List.flatten_cons, List.flatten_nil, true_and, and_true, eq_self, decide_true, reduceIte, reduceCtorEq, List.any_toArray, Region.binds, Int.reduceBEq, Int.reduceBNe, Int.reduceLT, hk, hky, hky', hkz, gU hkz, gU' hky, q4, hzd, hw, sv_ia e1]
            have hs := hset (addl (z.getD k 0) (x.getD k 0) c) hkz
            have hst := add_step (18446744073709551616 ^ k) (z.getD k 0) (x.getD k 0) c _ _ _ q5 hs
            have hyk := hxd _ (getD_mem hky)
            refine ⟨(k + 1, z.set k (addl (z.getD k 0) (x.getD k 0) c), addh (z.getD k 0) (x.getD k 0) c), Kept.of rfl (by repeat (first | exact KT.nil | refine KT.upd rfl (by first | rfl | exact hr | exact hr2 | (simp only [go_sem]; done)) ?_)) (KM.p (by repeat (first | exact KMp.nil | refine KMp.upd rfl (by first | rfl | (simp only [go_sem]; done)) ?_))), ⟨by simp only []; omega, by simp only [List.length_set]; omega, ?_, addh_le hzd hyk q4, ?_⟩, by simp only []; omega⟩
            · intro d hd
              rcases List.mem_or_eq_of_mem_set hd with hd | rfl
              · exact q3 d hd
              · exact addl_lt _ _ _
            · simp only []
              rw [dOf_take_succ 18446744073709551616 x k hky, Nat.pow_succ]; exact hst
          · have htke : x.take k = x := List.take_of_length_le (by omega)
            have htke1 : x.take (k + 1) = x := List.take_of_length_le (by omega)
            by_cases hc : c = 0
            · have hc' : (c == 0) = true := by rw [hc]; rfl
              simp (maxSteps := 1000000) only [go_sem, Nat.reduceBEq, Nat.reduceAdd, Nat.reduceLT, Nat.reduceMul, Nat.reduceSub, Nat.reduceLeDiff, Nat.reduceEqDiff, Int.reduceToNat, Nat.reduceBeqDiff, Nat.reduceBneDiff, decide_false, and_self, List.reduceReplicate, List.flatten_cons, List.flatten_nil, true_and, and_true, eq_self, decide_true, reduceIte, reduceCtorEq, List.any_toArray, Region.binds, Int.reduceBEq, Int.reduceBNe, Int.reduceLT, hk, hky, hc', htk, q2, hz3, hsl]
              rw [hc, htke, hy, hx] at q5
              have e : dOf 18446744073709551616 z = a + b := by simp only [Nat.mul_zero, Nat.add_zero] at q5; omega
              rw [e]; exact .refl _
            · have hc' : (c == 0) = false := by simpa using hc
              simp (maxSteps := 1000000) only [go_sem, Nat.reduceBEq, Nat.reduceAdd, Nat.reduceLT, Nat.reduceMul, Nat.reduceSub, Nat.reduceLeDiff, Nat.reduceEqDiff, Int.reduceToNat, Nat.reduceBeqDiff, Nat.reduceBneDiff, decide_false, and_self, List.reduceReplicate, List.flatten_cons, List.flatten_nil, true_and, and_true, eq_self, decide_true, reduceIte, reduceCtorEq, List.any_toArray, Region.binds, Int.reduceBEq, Int.reduceBNe, Int.reduceLT, hk, hky, hc', hkz, gU hkz, q4, hzd, hw]
              have hs := hset (addl (z.getD k 0) 0 c) hkz
              have hst := add_step (18446744073709551616 ^ k) (z.getD k 0) 0 c _ _ _ q5 hs
              refine ⟨(k + 1, z.set k (addl (z.getD k 0) 0 c), addh (z.getD k 0) 0 c), Kept.of rfl (by repeat (first | exact KT.nil | refine KT.upd rfl (by first | rfl | exact hr | exact hr2 | (simp only [go_sem]; done)) ?_)) (KM.p (by repeat (first | exact KMp.nil | refine KMp.upd rfl (by first | rfl | (simp only [go_sem]; done)) ?_))), ⟨by simp only []; omega, by simp only [List.length_set]; omega, ?_, addh_le hzd (by decide) q4, ?_⟩, by simp only []; omega⟩
              · intro d hd
                rcases List.mem_or_eq_of_mem_set hd with hd | rfl
                · exact q3 d hd
                · exact addl_lt _ _ _
              · simp only []
                rw [htke] at hst
                rw [htke1, Nat.pow_succ]; exact hst
        · simp (maxSteps := 1000000) only [go_sem, Nat.reduceBEq, Nat.reduceAdd, Nat.reduceLT, Nat.reduceMul, Nat.reduceSub, Nat.reduceLeDiff, Nat.reduceEqDiff, Int.reduceToNat, Nat.reduceBeqDiff, Nat.reduceBneDiff, decide_false, and_self, List.reduceReplicate, List.flatten_cons, List.flatten_nil, true_and, and_true, eq_self, decide_true, reduceIte, reduceCtorEq, List.any_toArray, Region.binds, Int.reduceBEq, Int.reduceBNe, Int.reduceLT, hk, htk, q2, hz3, hsl]
          have hkn : k = y.length + 1 := by omega
          have htke : x.take k = x := List.take_of_length_le (by omega)
          rw [htke] at q5
          have l1 := dOf_lt 18446744073709551616 y hyd
          have l2 := dOf_lt 18446744073709551616 x hxd
          have l3 := Nat.pow_le_pow_right (by decide : 0 < 18446744073709551616) hyx
          have l4 : 18446744073709551616 ^ k = 18446744073709551616 ^ y.length * 18446744073709551616 := by rw [hkn, Nat.pow_succ]
          have hc : c = 0 := by
            rcases Nat.eq_zero_or_pos c with h | h
            · exact h
            · obtain rfl : c = 1 := by omega
              omega
          have e : dOf 18446744073709551616 z = a + b := by rw [hc, hy, hx] at q5; simp only [Nat.mul_zero, Nat.add_zero] at q5; omega
          rw [e]; exact .refl _
      · refine CSpec_vc (E := ⟨T0, Sb⟩) (fn25 hP) HE hP.mix rfl (by first | rfl | (simp only [go_sem]; done)) (by first | rfl | (simp only [go_sem]; done)) (Nat.le_of_ble_eq_true rfl) ?_
        simp (maxSteps := 1000000) only [go_sem, Nat.reduceBEq, Nat.reduceAdd, Nat.reduceLT, Nat.reduceMul, Nat.reduceSub, Nat.reduceLeDiff, Nat.reduceEqDiff, Int.reduceToNat, Nat.reduceBeqDiff, Nat.reduceBneDiff, decide_false, and_self, List.reduceReplicate, List.flatten_cons, List.flatten_nil, true_and, and_true, eq_self, decide_true, reduceIte, reduceCtorEq, List.any_toArray, Region.binds, Int.reduceBEq, Int.reduceBNe, Int.reduceLT, hl', hl2, hl3, hl5, hl6]
        generalize digs 18446744073709551616 a = x at *
        generalize digs 18446744073709551616 b = y at *
        have hi := wi_add1 x.length (by omega)
        have hi2 : x.length + 1 ≤ 1099511627776 := by omega
        have hi3 : x.length ≤ x.length + 1 := by omega
        simp (maxSteps := 1000000) only [go_sem, Nat.reduceBEq, Nat.reduceAdd, Nat.reduceLT, Nat.reduceMul, Nat.reduceSub, Nat.reduceLeDiff, Nat.reduceEqDiff, Int.reduceToNat, Nat.reduceBeqDiff, Nat.reduceBneDiff, decide_false, and_self, List.reduceReplicate, List.flatten_cons, List.flatten_nil, true_and, and_true, eq_self, decide_true, reduceIte, reduceCtorEq, List.any_toArray, Region.binds, Int.reduceBEq, Int.reduceBNe, Int.reduceLT, hi, hi2, hi3]
        have hyx : y.length ≤ x.length := by omega
        refine trX_loop HE hP.mix [22, 2, 1, 0] (fun q : Nat × List Nat × Nat => ⟨upd (upd (upd (upd (upd (upd (fun _ => .junk) 4 (.ref 2 0)) 8 (sv y)) 9 (.sl 22 0 (x.length + 1) 1)) 10 (.int .u64 (q.2.2 : Int))) 56 (.int .i64 ((x.length + 1 : Nat) : Int))) 57 (.int .i64 (q.1 : Int)), upd (upd (upd (upd (fun _ => .unused) 0 (.live [.int .u64 0, .imm x.length (List.map (fun d : Nat => AV.int .u64 (d : Int)) (x))])) 1 (.live [.int .u64 0, .imm y.length (List.map (fun d : Nat => AV.int .u64 (d : Int)) (y))])) 2 (.live [.int .u64 0, .nils])) 22 (.live (List.map (fun d : Nat => AV.int .u64 (d : Int)) (q.2.1))), 86⟩)
          (fun q => q.1 ≤ x.length + 1 ∧ q.2.1.length = x.length + 1 ∧ (∀ d ∈ q.2.1, d < 18446744073709551616) ∧ q.2.2 ≤ 1 ∧ dOf 18446744073709551616 q.2.1 + 18446744073709551616 ^ q.1 * q.2.2 = dOf 18446744073709551616 x + dOf 18446744073709551616 (y.take q.1)) (fun q => x.length + 1 - q.1) (0, x ++ [0], 0) 40
          (by repeat (first | exact Has.nil | refine Has.upd rfl ?_)) (Kept.of rfl (by repeat (first | exact KT.nil | refine KT.upd rfl (by first | rfl | exact hr | exact hr2 | (simp only [go_sem]; done)) ?_)) (KM.p (by repeat (first | exact KMp.nil | refine KMp.upd rfl (by first | rfl | (simp only [go_sem]; done)) ?_)))) ⟨by simp, by simp, by intro d hd; rcases List.mem_append.1 hd with hd | hd; exact (hxd d hd); simp at hd; omega, by simp, by simp [dOf_append, dOf]⟩ 86 (by kernel_rfl) ?_
        rintro ⟨k, z, c⟩ ⟨q1, q2, q3, q4, q5⟩
        simp only [] at q1 q2 q3 q4 q5
        have fin : dOf 18446744073709551616 z = a + b → CSpec P 43 [.imm z.length (List.map (fun d : Nat => AV.int .u64 (d : Int)) (z))] (.agg [.opq (.nat (a + b)), .pad]) := fun h => h ▸ cut_spec hP z q3 (by omega)
        have htk : z.take (x.length + 1) = z := List.take_of_length_le (by omega)
        have hsl : x.length + 1 < 4611686018427387904 := by omega
        have hz3 : (∀ d ∈ z, d < 18446744073709551616) = True := eq_true q3
        have hall := hxd
        by_cases hk : k < x.length + 1
        · have hkz : k < z.length := by omega
          have hzd := q3 _ (getD_mem hkz)
          have hw := wi_add1 k (by omega)
          have hset := dOf_set 18446744073709551616 z k
          by_cases hky : k < y.length
          · have e1 : y ≠ [] := by intro e; rw [e] at hky; simp at hky
            have hky' : k ≤ y.length := by omega
            simp (maxSteps := 1000000) only [go_sem, Nat.reduceBEq, Nat.reduceAdd, Nat.reduceLT, Nat.reduceMul, Nat.reduceSub, Nat.reduceLeDiff, Nat.reduceEqDiff, Int.reduceToNat, Nat.reduceBeqDiff, Nat.reduceBneDiff, decide_false, and_self, List.reduceReplicate, List.flatten_cons, List.flatten_nil, true_and, and_true, eq_self, decide_true, reduceIte, reduceCtorEq, List.any_toArray, Region.binds, Int.reduceBEq, Int.reduceBNe, Int.reduceLT, hk, hky, hky', hkz, gU hkz, gU' hky, q4, hzd, hw, sv_ia e1]
            have hs := hset (addl (z.getD k 0) (y.getD k 0) c) hkz
            have hst := add_step (18446744073709551616 ^ k) (z.getD k 0) (y.getD k 0) c _ _ _ q5 hs
            have hyk := hyd _ (getD_mem hky)
            refine ⟨(k + 1, z.set k (addl (z.getD k 0) (y.getD k 0) c), addh (z.getD k 0) (y.getD k 0) c), Kept.of rfl (by repeat (first | exact KT.nil | refine KT.upd rfl (by first | rfl | exact hr | exact hr2 | (simp only [go_sem]; done)) ?_)) (KM.p (by repeat (first | exact KMp.nil | refine KMp.upd rfl (by first | rfl | (simp only [go_sem]; done)) ?_))), ⟨by simp only []; omega, by simp only [List.length_set]; omega, ?_, addh_le hzd hyk q4, ?_⟩, by simp only []; omega⟩
            · intro d hd
              rcases List.mem_or_eq_of_mem_set hd with hd | rfl
              · exact q3 d hd
              · exact addl_lt _ _ _
            · simp only []
              rw [dOf_take_succ 18446744073709551616 y k hky, Nat.pow_succ]; exact hst
          · have htke : y.take k = y := List.take_of_length_le (by omega)
            have htke1 : y.take (k + 1) = y := List.take_of_length_le (by omega)
            by_cases hc : c = 0
            · have hc' : (c == 0) = true := by rw [hc]; rfl
              simp (maxSteps := 1000000) only [go_sem, Nat.reduceBEq, Nat.reduceAdd, Nat.reduceLT, Nat.reduceMul, Nat.reduceSub, Nat.reduceLeDiff, Nat.reduceEqDiff, Int.reduceToNat, Nat.reduceBeqDiff, Nat.reduceBneDiff, decide_false, and_self, List.reduceReplicate, List.flatten_cons, List.flatten_nil, true_and, and_true, eq_self, decide_true, reduceIte, reduceCtorEq, List.any_toArray, Region.binds, Int.reduceBEq, Int.reduceBNe, Int.reduceLT, hk, hky, hc', htk, q2, hz3, hsl]
              rw [hc, htke, hx, hy] at q5
              have e : dOf 18446744073709551616 z = a + b := by simp only [Nat.mul_zero, Nat.add_zero] at q5; omega
              rw [e]; exact .refl _
            · have hc' : (c == 0) = false := by simpa using hc
              simp (maxSteps := 1000000) only [go_sem, Nat.reduceBEq, Nat.reduceAdd, Nat.reduceLT, Nat.reduceMul, Nat.reduceSub, Nat.reduceLeDiff, Nat.reduceEqDiff, Int.reduceToNat, Nat.reduceBeqDiff, Nat.reduceBneDiff, decide_false, and_self, List.reduceReplicate, List.flatten_cons, List.flatten_nil, true_and, and_true, eq_self, decide_true, reduceIte, reduceCtorEq, List.any_toArray, Region.binds, Int.reduceBEq, Int.reduceBNe, Int.reduceLT, hk, hky, hc', hkz, gU hkz, q4, hzd, hw]
              have hs := hset (addl (z.getD k 0) 0 c) hkz
              have hst := add_step (18446744073709551616 ^ k) (z.getD k 0) 0 c _ _ _ q5 hs
              refine ⟨(k + 1, z.set k (addl (z.getD k 0) 0 c), addh (z.getD k 0) 0 c), Kept.of rfl (by repeat (first | exact KT.nil | refine KT.upd rfl (by first | rfl | exact hr | exact hr2 | (simp only [go_sem]; done)) ?_)) (KM.p (by repeat (first | exact KMp.nil | refine KMp.upd rfl (by first | rfl | (simp only [go_sem]; done)) ?_))), ⟨by simp only []; omega, by simp only [List.length_set]; omega, ?_, addh_le hzd (by decide) q4, ?_⟩, by simp only []; omega⟩
              · intro d hd
                rcases List.mem_or_eq_of_mem_set hd with hd | rfl
                · exact q3 d hd
                · exact addl_lt _ _ _
              · simp only []
                rw [htke] at hst
                rw [htke1, Nat.pow_succ]; exact hst
        · simp (maxSteps := 1000000) only [go_sem, Nat.reduceBEq, Nat.reduceAdd, Nat.reduceLT, Nat.reduceMul, Nat.reduceSub, Nat.reduceLeDiff, Nat.reduceEqDiff, Int.reduceToNat, Nat.reduceBeqDiff, Nat.reduceBneDiff, decide_false, and_self, List.reduceReplicate, List.flatten_cons, List.flatten_nil, true_and, and_true, eq_self, decide_true, reduceIte, reduceCtorEq, List.any_toArray, Region.binds, Int.reduceBEq, Int.reduceBNe, Int.reduceLT, hk, htk, q2, hz3, hsl]
          have hkn : k = x.length + 1 := by omega
          have htke : y.take k = y := List.take_of_length_le (by omega)
          rw [htke] at q5
          have l1 := dOf_lt 18446744073709551616 x hxd
          have l2 := dOf_lt 18446744073709551616 y hyd
          have l3 := Nat.pow_le_pow_right (by decide : 0 < 18446744073709551616) hyx
          have l4 : 18446744073709551616 ^ k = 18446744073709551616 ^ x.length * 18446744073709551616 := by rw [hkn, Nat.pow_succ]
          have hc : c = 0 := by
            rcases Nat.eq_zero_or_pos c with h | h
            · exact h
            · obtain rfl : c = 1 := by omega
              omega
          have e : dOf 18446744073709551616 z = a + b := by rw [hc, hx, hy] at q5; simp only [Nat.mul_zero, Nat.add_zero] at q5; omega
          rw [e]; exact .refl _

theorem Add_spec (hP : PrgOk P) (a b : Nat) (ha : blen a ≤ 68719476736) (hb : blen b ≤ 68719476736) : CSpec P 25 [(.agg [.opq (.nat (a)), .pad]), (.agg [.opq (.nat (b)), .pad])] (.agg [.opq (.nat (a + b)), .pad]) := by
  refine CSpec.cv ?_ (CvL.natIn a (CvL.natIn b .nil))
  by_cases h : a < 18446744073709551616 ∧ b < 18446744073709551616
  · rw [natC_small h.1, natC_small h.2]; exact Add_small hP a b h.1 h.2
  · exact Add_great hP a b ha hb h
def AddS : List AV → Option (Prop × AV) := on2 fun a b => (blen a ≤ 68719476736 ∧ blen b ≤ 68719476736, (.agg [.opq (.nat (a + b)), .pad]))
theorem AddS_ok (hP : PrgOk P) (args p r) : AddS args = some (p, r) → p → CSpec P 25 args r := on2_ok (fun a b h => by exact Add_spec hP a b h.1 h.2) args p r
attribute [go_sem] AddS
end Go.Proofs.Ytlgimmafejbmgaa.AM
