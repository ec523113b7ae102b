/- Package nat: what the long division writes. -/
import Derived.Test.YtlgimmafejbmgaaNg
namespace Go.Proofs.Ytlgimmafejbmgaa.AM
set_option linter.all false
set_option autoImplicit true
set_option relaxedAutoImplicit true
open Go Go.Proofs
set_option maxRecDepth 100000
set_option maxHeartbeats 8000000
set_option linter.unusedSimpArgs false
variable {P : Program}

theorem mid_eq {pre done rest tail : List Nat} {x : Nat} : pre ++ (done ++ ((x :: rest) ++ tail)) = (pre ++ done) ++ ([x] ++ (rest ++ tail)) := by simp
theorem get_mid {pre done w tail : List Nat} {off k i : Nat} (hp : pre.length = off) (hd : done.length = k) (hk : k < w.length) (hi : i = off + k) : (pre ++ (done ++ (w.drop k ++ tail))).getD i 0 = w.getD k 0 := by
  rw [drop_cons hk, mid_eq]; exact get_app (by rw [List.length_append, hp, hd, hi])
theorem set_mid {pre done w tail : List Nat} {off k i : Nat} (hp : pre.length = off) (hd : done.length = k) (hk : k < w.length) (hi : i = off + k) (s : Nat) : (pre ++ (done ++ (w.drop k ++ tail))).set i s = pre ++ ((done ++ [s]) ++ (w.drop (k + 1) ++ tail)) := by
  rw [drop_cons hk, mid_eq, set_app (by rw [List.length_append, hp, hd, hi])]; simp
theorem len_mid {pre done w tail : List Nat} {off k i : Nat} (hp : pre.length = off) (hd : done.length = k) (hk : k < w.length) (hi : i = off + k) : i < (pre ++ (done ++ (w.drop k ++ tail))).length := by
  rw [drop_cons hk]; simp; omega
theorem sub_all (z y c : Nat) (hz : z < 18446744073709551616) (hy : y < 18446744073709551616) (hc : c ≤ 1) : subd z y c + y + c = z + 18446744073709551616 * bor z y c := by
  rw [subd_eq, bor_eq]
  by_cases h : z < y + c
  · rw [if_pos h, Nat.mod_eq_of_lt (by omega)]; omega
  · rw [if_neg h, show z + 18446744073709551616 - y - c = (z - y - c) + 18446744073709551616 by omega, Nat.add_mod_right, Nat.mod_eq_of_lt (by omega)]; omega
theorem away_digit (x y c : Nat) : addl (mull x y) c 0 + 18446744073709551616 * (mulh x y + addh (mull x y) c 0) = x * y + c := by
  have h1 := mul_all x y
  have h2 := add_all (mull x y) c 0
  omega
theorem away_carry {x y c : Nat} (hx : x < 18446744073709551616) (hy : y < 18446744073709551616) (hc : c < 18446744073709551616) : mulh x y + addh (mull x y) c 0 < 18446744073709551616 := by
  have h := away_digit x y c
  have h2 : x * y ≤ 18446744073709551615 * 18446744073709551615 := Nat.mul_le_mul (by omega) (by omega)
  omega
theorem away_step {p D V W d b c s x w l b' c' : Nat} (h : D + V * d = W + p * b + p * c) (h1 : s + l + b = w + 18446744073709551616 * b') (h2 : l + 18446744073709551616 * c' = x * d + c) : D + p * s + (V + p * x) * d = W + p * w + p * 18446744073709551616 * b' + p * 18446744073709551616 * c' := by
  have e : s + x * d + b + c = w + 18446744073709551616 * b' + 18446744073709551616 * c' := by omega
  have e2 := congrArg (p * ·) e
  simp only [Nat.mul_add, ← Nat.mul_assoc] at e2
  rw [Nat.add_mul]
  omega
theorem add0 (c : Nat) (h : c < 18446744073709551616) : addl 0 c 0 = c ∧ addh 0 c 0 = 0 := by
  have h1 := add_all 0 c 0
  have h2 := addl_lt 0 c 0
  have : addh 0 c 0 = 0 := by omega
  exact ⟨by omega, this⟩
theorem dOf_snoc (l : List Nat) (s : Nat) : dOf 18446744073709551616 (l ++ [s]) = dOf 18446744073709551616 l + 18446744073709551616 ^ l.length * s := by
  rw [dOf_append]; simp [dOf]

theorem away_ic (hP : PrgOk P) {L : List Nat} {m : Nat → AObj} {K : Nat → AV → (Nat → AObj) → Prop} {r r2 : Nat} {pre w tail v : List Nat} {off nv d : Nat} (hm : GenM L m) (hr : L.contains r = true) (hr2 : L.contains r2 = true) (hne : (r2 == r) = false) (hmr : m r = .live (List.map (fun d : Nat => AV.int .u64 (d : Int)) (pre ++ (w ++ tail)))) (hmr2 : m r2 = .live (List.map (fun d : Nat => AV.int .u64 (d : Int)) (v))) (hoff : pre.length = off) (hn : w.length = nv + 1) (hv : v.length = nv) (hn2 : nv < 2305843009213693952) (hw : ∀ d ∈ w, d < 18446744073709551616) (hvd : ∀ d ∈ v, d < 18446744073709551616) (hd : d < 18446744073709551616)
    (k : ∀ (nx : Nat) (w' : List Nat) (b : Nat), w'.length = nv + 1 → (∀ d ∈ w', d < 18446744073709551616) → b ≤ 1 → dOf 18446744073709551616 w' + dOf 18446744073709551616 v * d = dOf 18446744073709551616 w + 18446744073709551616 ^ (nv + 1) * b → K nx (.bool (b != 0)) (upd m r (.live (List.map (fun d : Nat => AV.int .u64 (d : Int)) (pre ++ (w' ++ tail)))))) :
    icX (ICall P) 59 [.sl r off (nv + 1) 1, .sl r2 0 nv 1, .int .u64 (d : Int)] m (K := ⟨K⟩) := by
  have HE := Sc_ok hP
  refine icX_vc (E := ⟨T0, Sc⟩) (fn59 hP) HE hP.mix rfl rfl (Nat.le_of_ble_eq_true rfl) 0 ?_
  obtain ⟨m0, rfl⟩ : ∃ m0, m = upd m0 r (.live (List.map (fun d : Nat => AV.int .u64 (d : Int)) (pre ++ (w ++ tail)))) := ⟨m, by rw [← hmr, upd_self]⟩
  clear hmr
  rw [upd_ne _ _ _ _ hne] at hmr2
  simp only [upd_upd] at k
  simp (maxSteps := 1000000) only [go_sem, Nat.reduceBEq, Nat.reduceAdd, Nat.reduceLT, Nat.reduceMul, Nat.reduceSub, Nat.reduceLeDiff, Nat.reduceEqDiff, Int.reduceToNat, Nat.reduceBeqDiff, Nat.reduceBneDiff, decide_false, and_self, List.reduceReplicate, List.flatten_cons, List.flatten_nil, true_and, and_true, eq_self, decide_true, reduceIte, reduceCtorEq, List.any_toArray, Region.binds, Int.reduceBEq, Int.reduceBNe, Int.reduceLT]
  refine trX_loop HE hP.mix L (fun q : Nat × List Nat × Nat × Nat => ⟨upd (upd (upd (upd (upd (upd (upd (upd (fun _ => .junk) 0 (.sl r off (nv + 1) 1)) 1 (.sl r2 0 nv 1)) 2 (.int .u64 (d : Int))) 6 (.bool false)) 7 (.int .u64 (q.2.2.1 : Int))) 8 (.int .u64 (q.2.2.2 : Int))) 14 (.int .i64 ((nv + 1 : Nat) : Int))) 15 (.int .i64 (q.1 : Int)), upd m0 r (.live (List.map (fun d : Nat => AV.int .u64 (d : Int)) (pre ++ (q.2.1 ++ (w.drop q.1 ++ tail))))), 56⟩)
    (fun q => q.1 ≤ nv + 1 ∧ q.2.1.length = q.1 ∧ (∀ d ∈ q.2.1, d < 18446744073709551616) ∧ q.2.2.1 < 18446744073709551616 ∧ q.2.2.2 ≤ 1 ∧ (q.1 = nv + 1 → q.2.2.1 = 0) ∧ dOf 18446744073709551616 q.2.1 + dOf 18446744073709551616 (v.take q.1) * d = dOf 18446744073709551616 (w.take q.1) + 18446744073709551616 ^ q.1 * q.2.2.2 + 18446744073709551616 ^ q.1 * q.2.2.1) (fun q => nv + 1 - q.1) (0, [], 0, 0) 0
    hm.1 (Kept.of rfl (by repeat (first | exact KT.nil | refine KT.upd rfl (by first | rfl | exact hr | exact hr2 | (simp only [go_sem]; done)) ?_)) (KM.gen hm)) ⟨by simp, by simp, by simp, by simp, by simp, by simp, by simp [dOf]⟩ 56 (by kernel_rfl) ?_
  rintro ⟨i, dn, c, b⟩ ⟨q1, q2, q3, q4, q5, q6, q7⟩
  simp only [] at q1 q2 q3 q4 q5 q6 q7
  by_cases hi : i < nv + 1
  · have hiw : i < w.length := by omega
    have hwd := hw _ (getD_mem hiw)
    have hlen := len_mid (tail := tail) hoff q2 hiw rfl
    have hlen' : off + i < pre.length + (dn.length + (w.length - i + tail.length)) := by omega
    have hget := get_mid (tail := tail) hoff q2 hiw rfl
    have hset := set_mid (tail := tail) hoff q2 hiw rfl
    have hwi := wi_add1 i (by omega)
    by_cases hiv : i < nv
    · have hiv' : i < v.length := by omega
      have hxd := hvd _ (getD_mem hiv')
      have hcar := away_carry hxd hd q4
      have hw2 := wu_add' _ _ hcar
      have hm1 := mull_lt (v.getD i 0) d
      have hal := addl_lt (mull (v.getD i 0) d) c 0
      simp (maxSteps := 1000000) only [go_sem, Nat.reduceBEq, Nat.reduceAdd, Nat.reduceLT, Nat.reduceMul, Nat.reduceSub, Nat.reduceLeDiff, Nat.reduceEqDiff, Int.reduceToNat, Nat.reduceBeqDiff, Nat.reduceBneDiff, decide_false, and_self, List.reduceReplicate, List.flatten_cons, List.flatten_nil, true_and, and_true, eq_self, decide_true, reduceIte, reduceCtorEq, List.any_toArray, Region.binds, Int.reduceBEq, Int.reduceBNe, Int.reduceLT, hi, hiv, hiv', hmr2, upd_ne, hne, gU hiv', hxd, hd, hm1, hw2, hlen, hlen', gU hlen, hget, hwd, hal, q5, hset, upd_upd, hwi]
      have hs := sub_all (w.getD i 0) (addl (mull (v.getD i 0) d) c 0) b hwd hal q5
      have hst := away_step q7 hs (away_digit (v.getD i 0) d c)
      refine ⟨(i + 1, dn ++ [subd (w.getD i 0) (addl (mull (v.getD i 0) d) c 0) b], mulh (v.getD i 0) d + addh (mull (v.getD i 0) d) c 0, bor (w.getD i 0) (addl (mull (v.getD i 0) d) c 0) b), Kept.of rfl (by repeat (first | exact KT.nil | refine KT.upd rfl (by first | rfl | exact hr | exact hr2 | (simp only [go_sem]; done)) ?_)) (KM.gen (hm.upd' hr objOnly_U)), ⟨by simp only []; omega, by simp only [List.length_append, List.length_singleton]; omega, ?_, hcar, bor_le _ _ _, by simp only []; omega, ?_⟩, by simp only []; omega⟩
      · intro d hd
        rcases List.mem_append.1 hd with hd | hd
        · exact q3 d hd
        · rw [List.mem_singleton.1 hd]; exact subd_lt _ _ _
      · simp only []
        rw [dOf_snoc, dOf_take_succ 18446744073709551616 v i hiv', dOf_take_succ 18446744073709551616 w i hiw, Nat.pow_succ, q2]; exact hst
    · have hc0 := add0 c q4
      have hiv' : ¬ i < v.length := by omega
      have hw2 := u_nat 0 (by decide)
      simp (maxSteps := 1000000) only [go_sem, Nat.reduceBEq, Nat.reduceAdd, Nat.reduceLT, Nat.reduceMul, Nat.reduceSub, Nat.reduceLeDiff, Nat.reduceEqDiff, Int.reduceToNat, Nat.reduceBeqDiff, Nat.reduceBneDiff, decide_false, and_self, List.reduceReplicate, List.flatten_cons, List.flatten_nil, true_and, and_true, eq_self, decide_true, reduceIte, reduceCtorEq, List.any_toArray, Region.binds, Int.reduceBEq, Int.reduceBNe, Int.reduceLT, hi, hiv, hiv', hmr2, upd_ne, hne, hlen, hlen', gU hlen, hget, hwd, q4, q5, hset, upd_upd, hwi, hc0.1, hc0.2]
      have hs := sub_all (w.getD i 0) c b hwd q4 q5
      have hst := away_step (x := 0) (c' := 0) q7 hs (show c + 18446744073709551616 * 0 = 0 * d + c by omega)
      refine ⟨(i + 1, dn ++ [subd (w.getD i 0) c b], 0, bor (w.getD i 0) c b), Kept.of rfl (by repeat (first | exact KT.nil | refine KT.upd rfl (by first | rfl | exact hr | exact hr2 | (simp only [go_sem]; done)) ?_)) (KM.gen (hm.upd' hr objOnly_U)), ⟨by simp only []; omega, by simp only [List.length_append, List.length_singleton]; omega, ?_, by simp, bor_le _ _ _, fun _ => rfl, ?_⟩, by simp only []; omega⟩
      · intro d hd
        rcases List.mem_append.1 hd with hd | hd
        · exact q3 d hd
        · rw [List.mem_singleton.1 hd]; exact subd_lt _ _ _
      · simp only []
        have e1 : v.take (i + 1) = v := List.take_of_length_le (by omega)
        have e2 : v.take i = v := List.take_of_length_le (by omega)
        rw [e2] at hst
        rw [dOf_snoc, e1, dOf_take_succ 18446744073709551616 w i hiw, Nat.pow_succ, q2]; exact hst
  · simp (maxSteps := 1000000) only [go_sem, Nat.reduceBEq, Nat.reduceAdd, Nat.reduceLT, Nat.reduceMul, Nat.reduceSub, Nat.reduceLeDiff, Nat.reduceEqDiff, Int.reduceToNat, Nat.reduceBeqDiff, Nat.reduceBneDiff, decide_false, and_self, List.reduceReplicate, List.flatten_cons, List.flatten_nil, true_and, and_true, eq_self, decide_true, reduceIte, reduceCtorEq, List.any_toArray, Region.binds, Int.reduceBEq, Int.reduceBNe, Int.reduceLT, hi]
    have hie : i = nv + 1 := by omega
    have e1 : w.drop i = [] := List.drop_of_length_le (by omega)
    have e2 : v.take i = v := List.take_of_length_le (by omega)
    have e3 : w.take i = w := List.take_of_length_le (by omega)
    rw [e1, List.nil_append]
    rw [e2, e3, q6 hie, Nat.mul_zero, Nat.add_zero, hie] at q7
    exact k _ dn b (by omega) q3 q5 q7

theorem back_step {p D V W c s x w c' : Nat} (h : D + p * c = W + V) (h1 : s + 18446744073709551616 * c' = w + x + c) : D + p * s + p * 18446744073709551616 * c' = W + p * w + (V + p * x) := by
  have e2 := congrArg (p * ·) h1
  simp only [Nat.mul_add, ← Nat.mul_assoc] at e2
  omega
theorem back_ic (hP : PrgOk P) {L : List Nat} {m : Nat → AObj} {K : Nat → AV → (Nat → AObj) → Prop} {r r2 : Nat} {pre w tail v : List Nat} {off nv : Nat} (hm : GenM L m) (hr : L.contains r = true) (hr2 : L.contains r2 = true) (hne : (r2 == r) = false) (hmr : m r = .live (List.map (fun d : Nat => AV.int .u64 (d : Int)) (pre ++ (w ++ tail)))) (hmr2 : m r2 = .live (List.map (fun d : Nat => AV.int .u64 (d : Int)) (v))) (hoff : pre.length = off) (hn : w.length = nv + 1) (hv : v.length = nv) (hn2 : nv < 2305843009213693952) (hw : ∀ d ∈ w, d < 18446744073709551616) (hvd : ∀ d ∈ v, d < 18446744073709551616)
    (k : ∀ (nx : Nat) (w' : List Nat) (c : Nat), w'.length = nv + 1 → (∀ d ∈ w', d < 18446744073709551616) → c ≤ 1 → dOf 18446744073709551616 w' + 18446744073709551616 ^ (nv + 1) * c = dOf 18446744073709551616 w + dOf 18446744073709551616 v → K nx (.tup []) (upd m r (.live (List.map (fun d : Nat => AV.int .u64 (d : Int)) (pre ++ (w' ++ tail)))))) :
    icX (ICall P) 60 [.sl r off (nv + 1) 1, .sl r2 0 nv 1] m (K := ⟨K⟩) := by
  have HE := Sc_ok hP
  refine icX_vc (E := ⟨T0, Sc⟩) (fn60 hP) HE hP.mix rfl rfl (Nat.le_of_ble_eq_true rfl) 0 ?_
  obtain ⟨m0, rfl⟩ : ∃ m0, m = upd m0 r (.live (List.map (fun d : Nat => AV.int .u64 (d : Int)) (pre ++ (w ++ tail)))) := ⟨m, by rw [← hmr, upd_self]⟩
  clear hmr
  rw [upd_ne _ _ _ _ hne] at hmr2
  simp only [upd_upd] at k
  simp (maxSteps := 1000000) only [go_sem, Nat.reduceBEq, Nat.reduceAdd, Nat.reduceLT, Nat.reduceMul, Nat.reduceSub, Nat.reduceLeDiff, Nat.reduceEqDiff, Int.reduceToNat, Nat.reduceBeqDiff, Nat.reduceBneDiff, decide_false, and_self, List.reduceReplicate, List.flatten_cons, List.flatten_nil, true_and, and_true, eq_self, decide_true, reduceIte, reduceCtorEq, List.any_toArray, Region.binds, Int.reduceBEq, Int.reduceBNe, Int.reduceLT]
  refine trX_loop HE hP.mix L (fun q : Nat × List Nat × Nat => ⟨upd (upd (upd (upd (upd (fun _ => .junk) 0 (.sl r off (nv + 1) 1)) 1 (.sl r2 0 nv 1)) 4 (.int .u64 (q.2.2 : Int))) 8 (.int .i64 ((nv + 1 : Nat) : Int))) 9 (.int .i64 (q.1 : Int)), upd m0 r (.live (List.map (fun d : Nat => AV.int .u64 (d : Int)) (pre ++ (q.2.1 ++ (w.drop q.1 ++ tail))))), 34⟩)
    (fun q => q.1 ≤ nv + 1 ∧ q.2.1.length = q.1 ∧ (∀ d ∈ q.2.1, d < 18446744073709551616) ∧ q.2.2 ≤ 1 ∧ dOf 18446744073709551616 q.2.1 + 18446744073709551616 ^ q.1 * q.2.2 = dOf 18446744073709551616 (w.take q.1) + dOf 18446744073709551616 (v.take q.1)) (fun q => nv + 1 - q.1) (0, [], 0) 0
    hm.1 (Kept.of rfl (by repeat (first | exact KT.nil | refine KT.upd rfl (by first | rfl | exact hr | exact hr2 | (simp only [go_sem]; done)) ?_)) (KM.gen hm)) ⟨by simp, by simp, by simp, by simp, by simp [dOf]⟩ 34 (by kernel_rfl) ?_
  rintro ⟨i, dn, c⟩ ⟨q1, q2, q3, q5, q7⟩
  simp only [] at q1 q2 q3 q5 q7
  by_cases hi : i < nv + 1
  · have hiw : i < w.length := by omega
    have hwd := hw _ (getD_mem hiw)
    have hlen := len_mid (tail := tail) hoff q2 hiw rfl
    have hlen' : off + i < pre.length + (dn.length + (w.length - i + tail.length)) := by omega
    have hget := get_mid (tail := tail) hoff q2 hiw rfl
    have hset := set_mid (tail := tail) hoff q2 hiw rfl
    have hwi := wi_add1 i (by omega)
    by_cases hiv : i < nv
    · have hiv' : i < v.length := by omega
      have hxd := hvd _ (getD_mem hiv')
      simp (maxSteps := 1000000) only [go_sem, Nat.reduceBEq, Nat.reduceAdd, Nat.reduceLT, Nat.reduceMul, Nat.reduceSub, Nat.reduceLeDiff, Nat.reduceEqDiff, Int.reduceToNat, Nat.reduceBeqDiff, Nat.reduceBneDiff, decide_false, and_self, List.reduceReplicate, List.flatten_cons, List.flatten_nil, true_and, and_true, eq_self, decide_true, reduceIte, reduceCtorEq, List.any_toArray, Region.binds, Int.reduceBEq, Int.reduceBNe, Int.reduceLT, hi, hiv, hiv', hmr2, upd_ne, hne, gU hiv', hxd, hlen, hlen', gU hlen, hget, hwd, q5, hset, upd_upd, hwi]
      have hst := back_step q7 (add_all (w.getD i 0) (v.getD i 0) c)
      refine ⟨(i + 1, dn ++ [addl (w.getD i 0) (v.getD i 0) c], addh (w.getD i 0) (v.getD i 0) c), Kept.of rfl (by repeat (first | exact KT.nil | refine KT.upd rfl (by first | rfl | exact hr | exact hr2 | (simp only [go_sem]; done)) ?_)) (KM.gen (hm.upd' hr objOnly_U)), ⟨by simp only []; omega, by simp only [List.length_append, List.length_singleton]; omega, ?_, addh_le hwd hxd q5, ?_⟩, by simp only []; omega⟩
      · intro d hd
        rcases List.mem_append.1 hd with hd | hd
        · exact q3 d hd
        · rw [List.mem_singleton.1 hd]; exact addl_lt _ _ _
      · simp only []
        rw [dOf_snoc, dOf_take_succ 18446744073709551616 v i hiv', dOf_take_succ 18446744073709551616 w i hiw, Nat.pow_succ, q2]; exact hst
    · have hiv' : ¬ i < v.length := by omega
      simp (maxSteps := 1000000) only [go_sem, Nat.reduceBEq, Nat.reduceAdd, Nat.reduceLT, Nat.reduceMul, Nat.reduceSub, Nat.reduceLeDiff, Nat.reduceEqDiff, Int.reduceToNat, Nat.reduceBeqDiff, Nat.reduceBneDiff, decide_false, and_self, List.reduceReplicate, List.flatten_cons, List.flatten_nil, true_and, and_true, eq_self, decide_true, reduceIte, reduceCtorEq, List.any_toArray, Region.binds, Int.reduceBEq, Int.reduceBNe, Int.reduceLT, hi, hiv, hiv', hmr2, upd_ne, hne, hlen, hlen', gU hlen, hget, hwd, q5, hset, upd_upd, hwi]
      have hst := back_step (x := 0) q7 (add_all (w.getD i 0) 0 c)
      refine ⟨(i + 1, dn ++ [addl (w.getD i 0) 0 c], addh (w.getD i 0) 0 c), Kept.of rfl (by repeat (first | exact KT.nil | refine KT.upd rfl (by first | rfl | exact hr | exact hr2 | (simp only [go_sem]; done)) ?_)) (KM.gen (hm.upd' hr objOnly_U)), ⟨by simp only []; omega, by simp only [List.length_append, List.length_singleton]; omega, ?_, addh_le hwd (by decide) q5, ?_⟩, by simp only []; omega⟩
      · intro d hd
        rcases List.mem_append.1 hd with hd | hd
        · exact q3 d hd
        · rw [List.mem_singleton.1 hd]; exact addl_lt _ _ _
      · simp only []
        have e1 : v.take (i + 1) = v := List.take_of_length_le (by omega)
        have e2 : v.take i = v := List.take_of_length_le (by omega)
        rw [e2, Nat.mul_zero, Nat.add_zero] at hst
        rw [dOf_snoc, e1, dOf_take_succ 18446744073709551616 w i hiw, Nat.pow_succ, q2]; exact hst
  · simp (maxSteps := 1000000) only [go_sem, Nat.reduceBEq, Nat.reduceAdd, Nat.reduceLT, Nat.reduceMul, Nat.reduceSub, Nat.reduceLeDiff, Nat.reduceEqDiff, Int.reduceToNat, Nat.reduceBeqDiff, Nat.reduceBneDiff, decide_false, and_self, List.reduceReplicate, List.flatten_cons, List.flatten_nil, true_and, and_true, eq_self, decide_true, reduceIte, reduceCtorEq, List.any_toArray, Region.binds, Int.reduceBEq, Int.reduceBNe, Int.reduceLT, hi]
    have hie : i = nv + 1 := by omega
    have e1 : w.drop i = [] := List.drop_of_length_le (by omega)
    have e2 : v.take i = v := List.take_of_length_le (by omega)
    have e3 : w.take i = w := List.take_of_length_le (by omega)
    rw [e1, List.nil_append]
    rw [e2, e3, hie] at q7
    exact k _ dn c (by omega) q3 q5 q7
end Go.Proofs.Ytlgimmafejbmgaa.AM
