/- NatDivides. -/
import Derived.Test.YtlgimmafejbmgaaNv
namespace Go.Proofs.Ytlgimmafejbmgaa.AM
set_option linter.all false
set_option autoImplicit true
set_option relaxedAutoImplicit true
open Go Go.Proofs
set_option maxRecDepth 100000
set_option maxHeartbeats 8000000
set_option linter.unusedSimpArgs false
variable {P : Program}

theorem gcd_blen {a b n : Nat} (ha : blen a ≤ n) (hb : blen b ≤ n) : blen (Nat.gcd a b) ≤ n := by
  rcases Nat.eq_zero_or_pos a with h | h
  · subst h; rw [Nat.gcd_zero_left]; exact hb
  · exact blen_le_of (Nat.le_of_dvd h (Nat.gcd_dvd_left a b)) ha
theorem NatDivides_spec (hP : PrgOk P) (s t u : ByteArray) : CSpec P 8 [.str s, .str t, .str u] (.bool true) := by
  have HE := Sj_ok hP
  refine CSpec_vc (E := ⟨T0, Sj⟩) (fn8 hP) HE hP.mix rfl (by first | rfl | (simp only [go_sem]; done)) (by first | rfl | (simp only [go_sem]; done)) (Nat.le_of_ble_eq_true rfl) ?_
  by_cases h1 : 4096 < s.size
  · simp (maxSteps := 1000000) only [go_sem, Nat.reduceBEq, Nat.reduceAdd, Nat.reduceLT, Nat.reduceMul, Nat.reduceSub, Nat.reduceLeDiff, Nat.reduceEqDiff, Int.reduceToNat, Nat.reduceBeqDiff, Nat.reduceBneDiff, decide_false, and_self, List.reduceReplicate, List.flatten_cons, List.flatten_nil, true_and, and_true, eq_self, decide_true, reduceIte, reduceCtorEq, List.any_toArray, Region.binds, Int.reduceBEq, Int.reduceBNe, Int.reduceLT, h1]
    exact .refl _
  · by_cases h2 : 4096 < t.size
    · simp (maxSteps := 1000000) only [go_sem, Nat.reduceBEq, Nat.reduceAdd, Nat.reduceLT, Nat.reduceMul, Nat.reduceSub, Nat.reduceLeDiff, Nat.reduceEqDiff, Int.reduceToNat, Nat.reduceBeqDiff, Nat.reduceBneDiff, decide_false, and_self, List.reduceReplicate, List.flatten_cons, List.flatten_nil, true_and, and_true, eq_self, decide_true, reduceIte, reduceCtorEq, List.any_toArray, Region.binds, Int.reduceBEq, Int.reduceBNe, Int.reduceLT, h1, h2]
      exact .refl _
    · by_cases h3 : 4096 < u.size
      · simp (maxSteps := 1000000) only [go_sem, Nat.reduceBEq, Nat.reduceAdd, Nat.reduceLT, Nat.reduceMul, Nat.reduceSub, Nat.reduceLeDiff, Nat.reduceEqDiff, Int.reduceToNat, Nat.reduceBeqDiff, Nat.reduceBneDiff, decide_false, and_self, List.reduceReplicate, List.flatten_cons, List.flatten_nil, true_and, and_true, eq_self, decide_true, reduceIte, reduceCtorEq, List.any_toArray, Region.binds, Int.reduceBEq, Int.reduceBNe, Int.reduceLT, h1, h2, h3]
        exact .refl _
      · have z1 : (bl s).length ≤ 1099511627776 := by rw [← size_bl]; omega
        have z2 : (bl t).length ≤ 1099511627776 := by rw [← size_bl]; omega
        have z3 : (bl u).length ≤ 1099511627776 := by rw [← size_bl]; omega
        by_cases hok : okP s ∧ okP t ∧ okP u
        · obtain ⟨o1, o2, o3⟩ := hok
          have hal := allR_yes o1 o2 o3
          have b1 := val_blen o1
          have b2 := val_blen o2
          have b3 := val_blen o3
          generalize val s = a at *
          generalize val t = b at *
          generalize val u = c at *
          have a1 := le_big b1 (by decide)
          have a2 := le_big b2 (by decide)
          have a3 := le_big b3 (by decide)
          have g1 := gcd_blen b1 b2
          have g2 := le_big g1 (by decide)
          by_cases hb : b = 0
          · have hb0 : (b = 0) = True := eq_true hb
            have hbl : (blen b != 0) = false := by rw [hb]; decide
            simp (maxSteps := 1000000) only [go_sem, Nat.reduceBEq, Nat.reduceAdd, Nat.reduceLT, Nat.reduceMul, Nat.reduceSub, Nat.reduceLeDiff, Nat.reduceEqDiff, Int.reduceToNat, Nat.reduceBeqDiff, Nat.reduceBneDiff, decide_false, and_self, List.reduceReplicate, List.flatten_cons, List.flatten_nil, true_and, and_true, eq_self, decide_true, reduceIte, reduceCtorEq, List.any_toArray, Region.binds, Int.reduceBEq, Int.reduceBNe, Int.reduceLT, h1, h2, h3, z1, z2, z3, hal, a1, a2, a3, hb0, hbl, g2]
            refine ⟨by decide, by decide, by decide, ?_⟩
            refine trX_loop HE hP.mix [61, 45, 44, 33, 32, 31, 13, 7] (fun i : Nat => ⟨upd (upd (upd (upd (upd (upd (upd (upd (fun _ => .junk) 6 (.bool false)) 9 (.ref 31 0)) 10 (.ref 32 0)) 11 (.ref 33 0)) 15 (.ref 61 0)) 84 (.imm 2 [.opq (.nat a), .pad, .opq (.nat b), .pad])) 85 (.int .i64 2)) 86 (match i with | 0 => .int .i64 0 | 1 => .int .i64 1 | _ => .int .i64 2),
                upd (upd (upd (upd (upd (upd (upd (upd (fun _ => .unused) 7 (.ro [.str s, .str t, .str u])) 13 (.ro [.str s, .str t, .str u])) 31 (.live [.opq (.nat a), .pad])) 32 (.live [.opq (.nat b), .pad])) 33 (.live [.opq (.nat c), .pad])) 44 (.live [.opq (.nat 0), .pad])) 45 (.live [.opq (.nat 0), .pad])) 61 (.live [.opq (.nat (Nat.gcd a b)), .pad]), 131⟩)
              (fun i => i ≤ 2) (fun i => 2 - i) 0 200 (by repeat (first | exact Has.nil | refine Has.upd rfl ?_)) (Kept.of rfl (by repeat (first | exact KT.nil | refine KT.upd rfl (by first | rfl | exact hr | exact hr2 | (simp only [go_sem]; done)) ?_)) (KM.p (by repeat (first | exact KMp.nil | refine KMp.upd rfl (by first | rfl | (simp only [go_sem]; done)) ?_)))) (by decide) 131 (by kernel_rfl) ?_
            intro i hi
            have x1 := le_big (blen_le_of (Nat.div_le_self a (Nat.gcd a b)) b1) (by decide)
            have x2 := le_big (blen_le_of (Nat.div_le_self b (Nat.gcd a b)) b2) (by decide)
            have x3 : a % Nat.gcd a b = 0 := Nat.mod_eq_zero_of_dvd (Nat.gcd_dvd_left a b)
            have x4 : b % Nat.gcd a b = 0 := Nat.mod_eq_zero_of_dvd (Nat.gcd_dvd_right a b)
            have x5 : blen 0 = 0 := by decide
            have x6 : blen 0 ≤ 68719476736 := by decide
            match i, hi with
            | 0, _ =>
              by_cases hg : Nat.gcd a b = 0
              · have hg0 : (Nat.gcd a b = 0) = True := eq_true hg
                have y1 : (blen a != 0) = false := by rw [Nat.eq_zero_of_gcd_eq_zero_left hg]; decide
                have y2 : (blen b != 0) = false := by rw [Nat.eq_zero_of_gcd_eq_zero_right hg]; decide
                simp (maxSteps := 1000000) only [go_sem, Nat.reduceBEq, Nat.reduceAdd, Nat.reduceLT, Nat.reduceMul, Nat.reduceSub, Nat.reduceLeDiff, Nat.reduceEqDiff, Int.reduceToNat, Nat.reduceBeqDiff, Nat.reduceBneDiff, decide_false, and_self, List.reduceReplicate, List.flatten_cons, List.flatten_nil, true_and, and_true, eq_self, decide_true, reduceIte, reduceCtorEq, List.any_toArray, Region.binds, Int.reduceBEq, Int.reduceBNe, Int.reduceLT, hg0, g2, a1, a2, y1, y2]
                exact ⟨1, Kept.of rfl (by repeat (first | exact KT.nil | refine KT.upd rfl (by first | rfl | exact hr | exact hr2 | (simp only [go_sem]; done)) ?_)) (KM.p (by repeat (first | exact KMp.nil | refine KMp.upd rfl (by first | rfl | (simp only [go_sem]; done)) ?_))), by decide, by decide⟩
              · have hg0 : (Nat.gcd a b = 0) = False := eq_false hg
                simp (maxSteps := 1000000) only [go_sem, Nat.reduceBEq, Nat.reduceAdd, Nat.reduceLT, Nat.reduceMul, Nat.reduceSub, Nat.reduceLeDiff, Nat.reduceEqDiff, Int.reduceToNat, Nat.reduceBeqDiff, Nat.reduceBneDiff, decide_false, and_self, List.reduceReplicate, List.flatten_cons, List.flatten_nil, true_and, and_true, eq_self, decide_true, reduceIte, reduceCtorEq, List.any_toArray, Region.binds, Int.reduceBEq, Int.reduceBNe, Int.reduceLT, hg0, g2, a1, a2, x3, x5, x6]
                exact ⟨1, Kept.of rfl (by repeat (first | exact KT.nil | refine KT.upd rfl (by first | rfl | exact hr | exact hr2 | (simp only [go_sem]; done)) ?_)) (KM.p (by repeat (first | exact KMp.nil | refine KMp.upd rfl (by first | rfl | (simp only [go_sem]; done)) ?_))), by decide, by decide⟩
            | 1, _ =>
              by_cases hg : Nat.gcd a b = 0
              · have hg0 : (Nat.gcd a b = 0) = True := eq_true hg
                have y1 : (blen a != 0) = false := by rw [Nat.eq_zero_of_gcd_eq_zero_left hg]; decide
                have y2 : (blen b != 0) = false := by rw [Nat.eq_zero_of_gcd_eq_zero_right hg]; decide
                simp (maxSteps := 1000000) only [go_sem, Nat.reduceBEq, Nat.reduceAdd, Nat.reduceLT, Nat.reduceMul, Nat.reduceSub, Nat.reduceLeDiff, Nat.reduceEqDiff, Int.reduceToNat, Nat.reduceBeqDiff, Nat.reduceBneDiff, decide_false, and_self, List.reduceReplicate, List.flatten_cons, List.flatten_nil, true_and, and_true, eq_self, decide_true, reduceIte, reduceCtorEq, List.any_toArray, Region.binds, Int.reduceBEq, Int.reduceBNe, Int.reduceLT, hg0, g2, a1, a2, y1, y2, Int.reduceLE]
                exact ⟨2, Kept.of rfl (by repeat (first | exact KT.nil | refine KT.upd rfl (by first | rfl | exact hr | exact hr2 | (simp only [go_sem]; done)) ?_)) (KM.p (by repeat (first | exact KMp.nil | refine KMp.upd rfl (by first | rfl | (simp only [go_sem]; done)) ?_))), by decide, by decide⟩
              · have hg0 : (Nat.gcd a b = 0) = False := eq_false hg
                simp (maxSteps := 1000000) only [go_sem, Nat.reduceBEq, Nat.reduceAdd, Nat.reduceLT, Nat.reduceMul, Nat.reduceSub, Nat.reduceLeDiff, Nat.reduceEqDiff, Int.reduceToNat, Nat.reduceBeqDiff, Nat.reduceBneDiff, decide_false, and_self, List.reduceReplicate, List.flatten_cons, List.flatten_nil, true_and, and_true, eq_self, decide_true, reduceIte, reduceCtorEq, List.any_toArray, Region.binds, Int.reduceBEq, Int.reduceBNe, Int.reduceLT, hg0, g2, a1, a2, x4, x5, x6, Int.reduceLE]
                exact ⟨2, Kept.of rfl (by repeat (first | exact KT.nil | refine KT.upd rfl (by first | rfl | exact hr | exact hr2 | (simp only [go_sem]; done)) ?_)) (KM.p (by repeat (first | exact KMp.nil | refine KMp.upd rfl (by first | rfl | (simp only [go_sem]; done)) ?_))), by decide, by decide⟩
            | 2, _ =>
              have m1 := le_big (blen_mul_le b1 b3) (by decide)
              have m2 := le_big (blen_mul_le b2 b3) (by decide)
              have m3 := le_big (blen_mul_le g1 b3) (by decide)
              have m4 : Nat.gcd (a * c) (b * c) = Nat.gcd a b * c := Nat.gcd_mul_right a c b
              have m5 : cmpI (Nat.gcd a b * c) (Nat.gcd a b * c) = 0 := cmpI_eq _
              simp (maxSteps := 1000000) only [go_sem, Nat.reduceBEq, Nat.reduceAdd, Nat.reduceLT, Nat.reduceMul, Nat.reduceSub, Nat.reduceLeDiff, Nat.reduceEqDiff, Int.reduceToNat, Nat.reduceBeqDiff, Nat.reduceBneDiff, decide_false, and_self, List.reduceReplicate, List.flatten_cons, List.flatten_nil, true_and, and_true, eq_self, decide_true, reduceIte, reduceCtorEq, List.any_toArray, Region.binds, Int.reduceBEq, Int.reduceBNe, Int.reduceLT, g2, a1, a2, a3, m1, m2, m3, m4, m5]
              exact .refl _
          · have hb0 : (b = 0) = False := eq_false hb
            have q1 := le_big (blen_le_of (Nat.div_le_self a b) b1) (by decide)
            have q2 := blen_le_of (Nat.le_of_lt (Nat.mod_lt a (by omega : 0 < b))) b2
            have q2' := le_big q2 (by decide)
            have q3 := le_big (blen_le_of (Nat.div_mul_le_self a b) b1) (by decide)
            have q4 : a / b * b + a % b = a := by rw [Nat.mul_comm]; exact Nat.div_add_mod a b
            have q5 : (cmpI a a != 0) = false := by rw [cmpI_eq]; rfl
            have q6 : decide (0 ≤ cmpI (a % b) b) = false := by rw [cmpI_lt (Nat.mod_lt a (by omega))]; rfl
            simp (maxSteps := 1000000) only [go_sem, Nat.reduceBEq, Nat.reduceAdd, Nat.reduceLT, Nat.reduceMul, Nat.reduceSub, Nat.reduceLeDiff, Nat.reduceEqDiff, Int.reduceToNat, Nat.reduceBeqDiff, Nat.reduceBneDiff, decide_false, and_self, List.reduceReplicate, List.flatten_cons, List.flatten_nil, true_and, and_true, eq_self, decide_true, reduceIte, reduceCtorEq, List.any_toArray, Region.binds, Int.reduceBEq, Int.reduceBNe, Int.reduceLT, h1, h2, h3, z1, z2, z3, hal, a1, a2, a3, hb0, g2, q1, q2', q3, q4, q5, q6]
            refine ⟨by decide, by decide, by decide, ?_⟩
            refine trX_loop HE hP.mix [68, 45, 44, 33, 32, 31, 13, 7] (fun i : Nat => ⟨upd (upd (upd (upd (upd (upd (upd (upd (fun _ => .junk) 6 (.bool false)) 9 (.ref 31 0)) 10 (.ref 32 0)) 11 (.ref 33 0)) 15 (.ref 68 0)) 84 (.imm 2 [.opq (.nat a), .pad, .opq (.nat b), .pad])) 85 (.int .i64 2)) 86 (match i with | 0 => .int .i64 0 | 1 => .int .i64 1 | _ => .int .i64 2),
                upd (upd (upd (upd (upd (upd (upd (upd (fun _ => .unused) 7 (.ro [.str s, .str t, .str u])) 13 (.ro [.str s, .str t, .str u])) 31 (.live [.opq (.nat a), .pad])) 32 (.live [.opq (.nat b), .pad])) 33 (.live [.opq (.nat c), .pad])) 44 (.live [.opq (.nat (a / b)), .pad])) 45 (.live [.opq (.nat (a % b)), .pad])) 68 (.live [.opq (.nat (Nat.gcd a b)), .pad]), 131⟩)
              (fun i => i ≤ 2) (fun i => 2 - i) 0 200 (by repeat (first | exact Has.nil | refine Has.upd rfl ?_)) (Kept.of rfl (by repeat (first | exact KT.nil | refine KT.upd rfl (by first | rfl | exact hr | exact hr2 | (simp only [go_sem]; done)) ?_)) (KM.p (by repeat (first | exact KMp.nil | refine KMp.upd rfl (by first | rfl | (simp only [go_sem]; done)) ?_)))) (by decide) 131 (by kernel_rfl) ?_
            intro i hi
            have x1 := le_big (blen_le_of (Nat.div_le_self a (Nat.gcd a b)) b1) (by decide)
            have x2 := le_big (blen_le_of (Nat.div_le_self b (Nat.gcd a b)) b2) (by decide)
            have x3 : a % Nat.gcd a b = 0 := Nat.mod_eq_zero_of_dvd (Nat.gcd_dvd_left a b)
            have x4 : b % Nat.gcd a b = 0 := Nat.mod_eq_zero_of_dvd (Nat.gcd_dvd_right a b)
            have x5 : blen 0 = 0 := by decide
            have x6 : blen 0 ≤ 68719476736 := by decide
            match i, hi with
            | 0, _ =>
              by_cases hg : Nat.gcd a b = 0
              · have hg0 : (Nat.gcd a b = 0) = True := eq_true hg
                have y1 : (blen a != 0) = false := by rw [Nat.eq_zero_of_gcd_eq_zero_left hg]; decide
                have y2 : (blen b != 0) = false := by rw [Nat.eq_zero_of_gcd_eq_zero_right hg]; decide
                simp (maxSteps := 1000000) only [go_sem, Nat.reduceBEq, Nat.reduceAdd, Nat.reduceLT, Nat.reduceMul, Nat.reduceSub, Nat.reduceLeDiff, Nat.reduceEqDiff, Int.reduceToNat, Nat.reduceBeqDiff, Nat.reduceBneDiff, decide_false, and_self, List.reduceReplicate, List.flatten_cons, List.flatten_nil, true_and, and_true, eq_self, decide_true, reduceIte, reduceCtorEq, List.any_toArray, Region.binds, Int.reduceBEq, Int.reduceBNe, Int.reduceLT, hg0, g2, a1, a2, y1, y2]
                exact ⟨1, Kept.of rfl (by repeat (first | exact KT.nil | refine KT.upd rfl (by first | rfl | exact hr | exact hr2 | (simp only [go_sem]; done)) ?_)) (KM.p (by repeat (first | exact KMp.nil | refine KMp.upd rfl (by first | rfl | (simp only [go_sem]; done)) ?_))), by decide, by decide⟩
              · have hg0 : (Nat.gcd a b = 0) = False := eq_false hg
                simp (maxSteps := 1000000) only [go_sem, Nat.reduceBEq, Nat.reduceAdd, Nat.reduceLT, Nat.reduceMul, Nat.reduceSub, Nat.reduceLeDiff, Nat.reduceEqDiff, Int.reduceToNat, Nat.reduceBeqDiff, Nat.reduceBneDiff, decide_false, and_self, List.reduceReplicate, List.flatten_cons, List.flatten_nil, true_and, and_true, eq_self, decide_true, reduceIte, reduceCtorEq, List.any_toArray, Region.binds, Int.reduceBEq, Int.reduceBNe, Int.reduceLT, hg0, g2, a1, a2, x3, x5, x6]
                exact ⟨1, Kept.of rfl (by repeat (first | exact KT.nil | refine KT.upd rfl (by first | rfl | exact hr | exact hr2 | (simp only [go_sem]; done)) ?_)) (KM.p (by repeat (first | exact KMp.nil | refine KMp.upd rfl (by first | rfl | (simp only [go_sem]; done)) ?_))), by decide, by decide⟩
            | 1, _ =>
              by_cases hg : Nat.gcd a b = 0
              · have hg0 : (Nat.gcd a b = 0) = True := eq_true hg
                have y1 : (blen a != 0) = false := by rw [Nat.eq_zero_of_gcd_eq_zero_left hg]; decide
                have y2 : (blen b != 0) = false := by rw [Nat.eq_zero_of_gcd_eq_zero_right hg]; decide
                simp (maxSteps := 1000000) only [go_sem, Nat.reduceBEq, Nat.reduceAdd, Nat.reduceLT, Nat.reduceMul, Nat.reduceSub, Nat.reduceLeDiff, Nat.reduceEqDiff, Int.reduceToNat, Nat.reduceBeqDiff, Nat.reduceBneDiff, decide_false, and_self, List.reduceReplicate, List.flatten_cons, List.flatten_nil, true_and, and_true, eq_self, decide_true, reduceIte, reduceCtorEq, List.any_toArray, Region.binds, Int.reduceBEq, Int.reduceBNe, Int.reduceLT, hg0, g2, a1, a2, y1, y2, Int.reduceLE]
                exact ⟨2, Kept.of rfl (by repeat (first | exact KT.nil | refine KT.upd rfl (by first | rfl | exact hr | exact hr2 | (simp only [go_sem]; done)) ?_)) (KM.p (by repeat (first | exact KMp.nil | refine KMp.upd rfl (by first | rfl | (simp only [go_sem]; done)) ?_))), by decide, by decide⟩
              · have hg0 : (Nat.gcd a b = 0) = False := eq_false hg
                simp (maxSteps := 1000000) only [go_sem, Nat.reduceBEq, Nat.reduceAdd, Nat.reduceLT, Nat.reduceMul, Nat.reduceSub, Nat.reduceLeDiff, Nat.reduceEqDiff, Int.reduceToNat, Nat.reduceBeqDiff, Nat.reduceBneDiff, decide_false, and_self, List.reduceReplicate, List.flatten_cons, List.flatten_nil, true_and, and_true, eq_self, decide_true, reduceIte, reduceCtorEq, List.any_toArray, Region.binds, Int.reduceBEq, Int.reduceBNe, Int.reduceLT, hg0, g2, a1, a2, x4, x5, x6, Int.reduceLE]
                exact ⟨2, Kept.of rfl (by repeat (first | exact KT.nil | refine KT.upd rfl (by first | rfl | exact hr | exact hr2 | (simp only [go_sem]; done)) ?_)) (KM.p (by repeat (first | exact KMp.nil | refine KMp.upd rfl (by first | rfl | (simp only [go_sem]; done)) ?_))), by decide, by decide⟩
            | 2, _ =>
              have m1 := le_big (blen_mul_le b1 b3) (by decide)
              have m2 := le_big (blen_mul_le b2 b3) (by decide)
              have m3 := le_big (blen_mul_le g1 b3) (by decide)
              have m4 : Nat.gcd (a * c) (b * c) = Nat.gcd a b * c := Nat.gcd_mul_right a c b
              have m5 : cmpI (Nat.gcd a b * c) (Nat.gcd a b * c) = 0 := cmpI_eq _
              simp (maxSteps := 1000000) only [go_sem, Nat.reduceBEq, Nat.reduceAdd, Nat.reduceLT, Nat.reduceMul, Nat.reduceSub, Nat.reduceLeDiff, Nat.reduceEqDiff, Int.reduceToNat, Nat.reduceBeqDiff, Nat.reduceBneDiff, decide_false, and_self, List.reduceReplicate, List.flatten_cons, List.flatten_nil, true_and, and_true, eq_self, decide_true, reduceIte, reduceCtorEq, List.any_toArray, Region.binds, Int.reduceBEq, Int.reduceBNe, Int.reduceLT, g2, a1, a2, a3, m1, m2, m3, m4, m5]
              exact .refl _
        · have hal := allR_no hok
          simp (maxSteps := 1000000) only [go_sem, Nat.reduceBEq, Nat.reduceAdd, Nat.reduceLT, Nat.reduceMul, Nat.reduceSub, Nat.reduceLeDiff, Nat.reduceEqDiff, Int.reduceToNat, Nat.reduceBeqDiff, Nat.reduceBneDiff, decide_false, and_self, List.reduceReplicate, List.flatten_cons, List.flatten_nil, true_and, and_true, eq_self, decide_true, reduceIte, reduceCtorEq, List.any_toArray, Region.binds, Int.reduceBEq, Int.reduceBNe, Int.reduceLT, h1, h2, h3, z1, z2, z3, hal]
          exact .refl _
end Go.Proofs.Ytlgimmafejbmgaa.AM
