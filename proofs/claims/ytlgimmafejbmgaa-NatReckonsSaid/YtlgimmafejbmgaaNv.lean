/- NatRing. -/
import Derived.Test.YtlgimmafejbmgaaNu
namespace Go.Proofs.Ytlgimmafejbmgaa.AM
set_option linter.all false
set_option autoImplicit true
set_option relaxedAutoImplicit true
open Go Go.Proofs
set_option maxRecDepth 100000
set_option maxHeartbeats 8000000
set_option linter.unusedSimpArgs false
variable {P : Program}

theorem le_big {a n : Nat} (h : blen a ≤ n) (hn : n ≤ 68719476736) : blen a ≤ 68719476736 := Nat.le_trans h hn
theorem NatRing_spec (hP : PrgOk P) (s t u : ByteArray) : CSpec P 6 [.str s, .str t, .str u] (.bool true) := by
  have HE := Sj_ok hP
  refine CSpec_vc (E := ⟨T0, Sj⟩) (fn6 hP) HE hP.mix rfl (by first | rfl | (simp only [go_sem]; done)) (by first | rfl | (simp only [go_sem]; done)) (Nat.le_of_ble_eq_true rfl) ?_
  by_cases h1 : 4096 < s.size
  · simp (maxSteps := 1000000) only [go_sem, Nat.reduceBEq, Nat.reduceAdd, Nat.reduceLT, Nat.reduceMul, Nat.reduceSub, Nat.reduceLeDiff, Nat.reduceEqDiff, Int.reduceToNat, Nat.reduceBeqDiff, Nat.reduceBneDiff, decide_false, and_self, List.reduceReplicate, List.flatten_cons, List.flatten_nil, true_and, and_true, eq_self, decide_true, reduceIte, reduceCtorEq, List.any_toArray, Region.binds, Int.reduceBEq, Int.reduceBNe, Int.reduceLT, h1]
    exact .refl _
  · by_cases h2 : 4096 < t.size
    · simp (maxSteps := 1000000) only [go_sem, Nat.reduceBEq, Nat.reduceAdd, Nat.reduceLT, Nat.reduceMul, Nat.reduceSub, Nat.reduceLeDiff, Nat.reduceEqDiff, Int.reduceToNat, Nat.reduceBeqDiff, Nat.reduceBneDiff, decide_false, and_self, List.reduceReplicate, List.flatten_cons, List.flatten_nil, true_and, and_true, eq_self, decide_true, reduceIte, reduceCtorEq, List.any_toArray, Region.binds, Int.reduceBEq, Int.reduceBNe, Int.reduceLT, h1, h2]
      exact .refl _
    · by_cases h3 : 4096 < u.size
      · simp (maxSteps := 1000000) only [go_sem, Nat.reduceBEq, Nat.reduceAdd, Nat.reduceLT, Nat.reduceMul, Nat.reduceSub, Nat.reduceLeDiff, Nat.reduceEqDiff, Int.reduceToNat, Nat.reduceBeqDiff, Nat.reduceBneDiff, decide_false, and_self, List.reduceReplicate, List.flatten_cons, List.flatten_nil, true_and, and_true, eq_self, decide_true, reduceIte, reduceCtorEq, List.any_toArray, Region.binds, Int.reduceBEq, Int.reduceBNe, Int.reduceLT, h1, h2, h3]
        exact .refl _
      · have z1 : (bl s).length ≤ 1099511627776 := by rw [← size_bl]; omega
        have z2 : (bl t).length ≤ 1099511627776 := by rw [← size_bl]; omega
        have z3 : (bl u).length ≤ 1099511627776 := by rw [← size_bl]; omega
        by_cases hok : okP s ∧ okP t ∧ okP u
        · obtain ⟨o1, o2, o3⟩ := hok
          have hal := allR_yes o1 o2 o3
          have b1 := val_blen o1
          have b2 := val_blen o2
          have b3 := val_blen o3
          generalize val s = a at *
          generalize val t = b at *
          generalize val u = c at *
          have a1 := le_big b1 (by decide)
          have a2 := le_big b2 (by decide)
          have a3 := le_big b3 (by decide)
          have s1 := blen_add_le b1 b2
          have s1' := blen_add_le b2 b1
          have s2 := blen_add_le b2 b3
          have s3 := blen_add_le s1 (Nat.le_trans b3 (by decide : 1024 ≤ 1025))
          have s4 := blen_add_le (Nat.le_trans b1 (by decide : 1024 ≤ 1025)) s2
          have m1 := blen_mul_le b1 b2
          have m1' := blen_mul_le b2 b1
          have m2 := blen_mul_le b2 b3
          have m3 := blen_mul_le b1 b3
          have m4 := blen_mul_le m1 b3
          have m5 := blen_mul_le b1 m2
          have m6 := blen_mul_le s1 b3
          have m7 := blen_add_le m3 m2
          have c1 := le_big s1 (by decide)
          have c1' := le_big s1' (by decide)
          have c2 := le_big s2 (by decide)
          have c3 := le_big s3 (by decide)
          have c4 := le_big s4 (by decide)
          have d1 := le_big m1 (by decide)
          have d1' := le_big m1' (by decide)
          have d2 := le_big m2 (by decide)
          have d3 := le_big m3 (by decide)
          have d4 := le_big m4 (by decide)
          have d5 := le_big m5 (by decide)
          have d6 := le_big m6 (by decide)
          have d7 := le_big m7 (by decide)
          have e0 : ¬ a + b < b := by omega
          have e1 : decide (a + b = b + a) = true := decide_eq_true (Nat.add_comm _ _)
          have e2 : decide (a * b = b * a) = true := decide_eq_true (Nat.mul_comm _ _)
          have e3 : decide (a + b + c = a + (b + c)) = true := decide_eq_true (Nat.add_assoc _ _ _)
          have e4 : decide (a * b * c = a * (b * c)) = true := decide_eq_true (Nat.mul_assoc _ _ _)
          have e5 : decide ((a + b) * c = a * c + b * c) = true := decide_eq_true (Nat.add_mul _ _ _)
          have e6 : decide (a + b - b = a) = true := decide_eq_true (Nat.add_sub_cancel ..)
          have e7 : blen (a + b - b) ≤ 68719476736 := by rw [Nat.add_sub_cancel]; exact a1
          simp (maxSteps := 1000000) only [go_sem, Nat.reduceBEq, Nat.reduceAdd, Nat.reduceLT, Nat.reduceMul, Nat.reduceSub, Nat.reduceLeDiff, Nat.reduceEqDiff, Int.reduceToNat, Nat.reduceBeqDiff, Nat.reduceBneDiff, decide_false, and_self, List.reduceReplicate, List.flatten_cons, List.flatten_nil, true_and, and_true, eq_self, decide_true, reduceIte, reduceCtorEq, List.any_toArray, Region.binds, Int.reduceBEq, Int.reduceBNe, Int.reduceLT, h1, h2, h3, z1, z2, z3, hal, a1, a2, a3, c1, c1', c2, c3, c4, d1, d1', d2, d3, d4, d5, d6, d7, e0, e1, e2, e3, e4, e5, e6, e7]
          exact ⟨by decide, by decide, .refl _⟩
        · have hal := allR_no hok
          simp (maxSteps := 1000000) only [go_sem, Nat.reduceBEq, Nat.reduceAdd, Nat.reduceLT, Nat.reduceMul, Nat.reduceSub, Nat.reduceLeDiff, Nat.reduceEqDiff, Int.reduceToNat, Nat.reduceBeqDiff, Nat.reduceBneDiff, decide_false, and_self, List.reduceReplicate, List.flatten_cons, List.flatten_nil, true_and, and_true, eq_self, decide_true, reduceIte, reduceCtorEq, List.any_toArray, Region.binds, Int.reduceBEq, Int.reduceBNe, Int.reduceLT, h1, h2, h3, z1, z2, z3, hal]
          exact .refl _
end Go.Proofs.Ytlgimmafejbmgaa.AM
