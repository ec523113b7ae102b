/- Package nat: the guessed digit; digits shifted. -/
import Derived.Test.YtlgimmafejbmgaaNh
namespace Go.Proofs.Ytlgimmafejbmgaa.AM
set_option linter.all false
set_option autoImplicit true
set_option relaxedAutoImplicit true
open Go Go.Proofs
set_option maxRecDepth 100000
set_option maxHeartbeats 8000000
set_option linter.unusedSimpArgs false
variable {P : Program}

/-- A walked call may number its objects as it likes. -/
theorem icX_any {f args m K} (N : Nat) (h : icX (ICall P) f args m (K := ⟨fun _ v m' => K N v m'⟩)) : icX (ICall P) f args m (K := ⟨K⟩) := fun X φ w vs h1 h2 => (h X φ w vs h1 h2).mono fun v w' ⟨_, r, m', φ', k, h⟩ => ⟨N, r, m', φ', k, h⟩

theorem guess_leB {B x y z v w d rest : Nat} (h : d * v + rest = x * B + y) (h2 : d * w ≤ rest * B + z) : d * (v * B + w) ≤ (x * B + y) * B + z := by
  rw [← h, Nat.mul_add, ← Nat.mul_assoc, Nat.add_mul]; omega
theorem guess_gtB {B x y z v w d rest : Nat} (h : d * v + rest = x * B + y) (h2 : rest * B + z < d * w) : (x * B + y) * B + z < d * (v * B + w) := by
  rw [← h, Nat.mul_add, ← Nat.mul_assoc, Nat.add_mul]; omega
theorem guess_endB {B d w rest z : Nat} (hd : d < B) (hw : w < B) (h : B ≤ rest) : d * w ≤ rest * B + z := by
  have h1 : d * w ≤ B * B := Nat.mul_le_mul (by omega) (by omega)
  have h2 : B * B ≤ rest * B := Nat.mul_le_mul_right _ h
  omega
theorem guess_le {x y z v w d rest : Nat} (h : d * v + rest = x * 18446744073709551616 + y) (h2 : d * w ≤ rest * 18446744073709551616 + z) : d * (v * 18446744073709551616 + w) ≤ (x * 18446744073709551616 + y) * 18446744073709551616 + z := guess_leB h h2
theorem guess_gt {x y z v w d rest : Nat} (h : d * v + rest = x * 18446744073709551616 + y) (h2 : rest * 18446744073709551616 + z < d * w) : (x * 18446744073709551616 + y) * 18446744073709551616 + z < d * (v * 18446744073709551616 + w) := guess_gtB h h2
theorem guess_end {d w rest z : Nat} (hd : d < 18446744073709551616) (hw : w < 18446744073709551616) (h : 18446744073709551616 ≤ rest) : d * w ≤ rest * 18446744073709551616 + z := guess_endB hd hw h
theorem ge_of {h l A rest z B : Nat} (e : h * B + l = A) (hl : l < B) (h1 : ¬ h < rest) (h2 : h = rest → z < l) (hz : z < B) : rest * B + z < A := by
  rcases Nat.lt_or_ge rest h with h3 | h3
  · have : (rest + 1) * B ≤ h * B := Nat.mul_le_mul_right _ h3
    rw [Nat.add_mul] at this; omega
  · have h4 : h = rest := by omega
    have := h2 h4
    subst h4; omega
theorem le_of {h l A rest z B : Nat} (e : h * B + l = A) (hl : l < B) (h1 : h < rest ∨ (h = rest ∧ l ≤ z)) : A ≤ rest * B + z := by
  rcases h1 with h3 | ⟨rfl, h3⟩
  · have : (h + 1) * B ≤ rest * B := Nat.mul_le_mul_right _ h3
    rw [Nat.add_mul] at this; omega
  · omega
theorem guess_eq {N V d : Nat} (h1 : d * V ≤ N) (h2 : N < (d + 1) * V) : d = N / V := (Nat.div_eq_of_lt_le h1 h2).symm
theorem guess_startB {B x y z v w d r : Nat} (hz : z < B) (h : d * v + r = x * B + y) (hr : r < v) : (x * B + y) * B + z < (d + 1) * (v * B + w) := by
  rw [Nat.mul_add, ← Nat.mul_assoc]
  have h1 : (x * B + y + 1) * B ≤ (d + 1) * v * B := Nat.mul_le_mul_right _ (by rw [Nat.add_mul]; omega)
  rw [Nat.add_mul _ 1] at h1
  omega
theorem guess_start {x y z v w d r : Nat} (hz : z < 18446744073709551616) (h : d * v + r = x * 18446744073709551616 + y) (hr : r < v) : (x * 18446744073709551616 + y) * 18446744073709551616 + z < (d + 1) * (v * 18446744073709551616 + w) := guess_startB hz h hr
theorem guess_spec (hP : PrgOk P) (x y z v w : Nat) (hx : x < 18446744073709551616) (hy : y < 18446744073709551616) (hz : z < 18446744073709551616) (hv : v < 18446744073709551616) (hw : w < 18446744073709551616) (hlt : (x * 18446744073709551616 + y) * 18446744073709551616 + z < 18446744073709551616 * (v * 18446744073709551616 + w)) (hv0 : 0 < v) : CSpec P 58 [.int .u64 (x : Int), .int .u64 (y : Int), .int .u64 (z : Int), .int .u64 (v : Int), .int .u64 (w : Int)] (.int .u64 ((((x * 18446744073709551616 + y) * 18446744073709551616 + z) / (v * 18446744073709551616 + w) : Nat) : Int)) := by
  have HE := Sc_ok hP
  refine CSpec_vc (E := ⟨T0, Sc⟩) (fn58 hP) HE hP.mix rfl (by first | rfl | (simp only [go_sem]; done)) (by first | rfl | (simp only [go_sem]; done)) (Nat.le_of_ble_eq_true rfl) ?_
  by_cases h : x < v
  · simp (maxSteps := 1000000) only [go_sem, Nat.reduceBEq, Nat.reduceAdd, Nat.reduceLT, Nat.reduceMul, Nat.reduceSub, Nat.reduceLeDiff, Nat.reduceEqDiff, Int.reduceToNat, Nat.reduceBeqDiff, Nat.reduceBneDiff, decide_false, and_self, List.reduceReplicate, List.flatten_cons, List.flatten_nil, true_and, and_true, eq_self, decide_true, reduceIte, reduceCtorEq, List.any_toArray, Region.binds, Int.reduceBEq, Int.reduceBNe, Int.reduceLT, h, hy, hv]
    have i1 := divq_lt h hy
    have i2 : divr x y v < 18446744073709551616 := Nat.lt_trans (divr_lt x y hv0) hv
    have i3 := div_all x y v
    have i4 := guess_start (w := w) hz i3 (divr_lt x y hv0)
    generalize divq x y v = d0 at *
    generalize divr x y v = r0 at *
    refine trX_loop HE hP.mix [] (fun q : Nat × Nat => ⟨upd (upd (upd (upd (upd (upd (fun _ => .junk) 2 (.int .u64 (z : Int))) 3 (.int .u64 (v : Int))) 4 (.int .u64 (w : Int))) 10 (.int .u64 0)) 11 (.int .u64 (q.1 : Int))) 12 (.int .u64 (q.2 : Int)), fun _ => .unused, 67⟩)
      (fun q => q.1 < 18446744073709551616 ∧ q.2 < 18446744073709551616 ∧ q.1 * v + q.2 = x * 18446744073709551616 + y ∧ (x * 18446744073709551616 + y) * 18446744073709551616 + z < (q.1 + 1) * (v * 18446744073709551616 + w)) (fun q => q.1) (d0, r0) 0
      (by repeat (first | exact Has.nil | refine Has.upd rfl ?_)) (Kept.of rfl (by repeat (first | exact KT.nil | refine KT.upd rfl (by first | rfl | exact hr | exact hr2 | (simp only [go_sem]; done)) ?_)) (KM.p (by repeat (first | exact KMp.nil | refine KMp.upd rfl (by first | rfl | (simp only [go_sem]; done)) ?_)))) ⟨i1, i2, i3, i4⟩ 67 (by kernel_rfl) ?_
    rintro ⟨d, rest⟩ ⟨q1, q2, q3, q4⟩
    simp only [] at q1 q2 q3 q4
    clear i1 i2 i3 i4
    have hm : mulh d w * 18446744073709551616 + mull d w = d * w := by rw [Nat.mul_comm, Nat.add_comm]; exact mul_all d w
    have hml := mull_lt d w
    have fin : d * w ≤ rest * 18446744073709551616 + z → d = ((x * 18446744073709551616 + y) * 18446744073709551616 + z) / (v * 18446744073709551616 + w) := fun h => guess_eq (guess_le q3 h) q4
    by_cases h1 : mulh d w < rest
    · simp (maxSteps := 1000000) only [go_sem, Nat.reduceBEq, Nat.reduceAdd, Nat.reduceLT, Nat.reduceMul, Nat.reduceSub, Nat.reduceLeDiff, Nat.reduceEqDiff, Int.reduceToNat, Nat.reduceBeqDiff, Nat.reduceBneDiff, decide_false, and_self, List.reduceReplicate, List.flatten_cons, List.flatten_nil, true_and, and_true, eq_self, decide_true, reduceIte, reduceCtorEq, List.any_toArray, Region.binds, Int.reduceBEq, Int.reduceBNe, Int.reduceLT, q1, hw, h1]
      rw [← fin (le_of hm hml (.inl h1))]; exact .refl _
    · have hstep : rest * 18446744073709551616 + z < d * w → ∃ d', d = d' + 1 ∧ (x * 18446744073709551616 + y) * 18446744073709551616 + z < (d' + 1) * (v * 18446744073709551616 + w) := fun h => by
        have := guess_gt q3 h
        obtain ⟨d', rfl⟩ := succ_of h
        exact ⟨d', rfl, this⟩
      have h2t : (mulh d w == rest) = true ∨ (mulh d w == rest) = false := by cases (mulh d w == rest) <;> simp
      rcases h2t with h2 | h2
      · have h2e : mulh d w = rest := by simpa using h2
        by_cases h3 : mull d w ≤ z
        · simp (maxSteps := 1000000) only [go_sem, Nat.reduceBEq, Nat.reduceAdd, Nat.reduceLT, Nat.reduceMul, Nat.reduceSub, Nat.reduceLeDiff, Nat.reduceEqDiff, Int.reduceToNat, Nat.reduceBeqDiff, Nat.reduceBneDiff, decide_false, and_self, List.reduceReplicate, List.flatten_cons, List.flatten_nil, true_and, and_true, eq_self, decide_true, reduceIte, reduceCtorEq, List.any_toArray, Region.binds, Int.reduceBEq, Int.reduceBNe, Int.reduceLT, q1, hw, h1, h2, h3]
          rw [← fin (le_of hm hml (.inr ⟨h2e, h3⟩))]; exact .refl _
        · obtain ⟨d', rfl, g⟩ := hstep (ge_of hm hml h1 (fun _ => Nat.lt_of_not_le h3) hz)
          clear fin hstep
          have m1 := u_nat d' (by omega)
          have hc := add_all rest v 0
          have hcl := addl_lt rest v 0
          have g3 : d' * v + (rest + v) = x * 18446744073709551616 + y := by rw [← q3, Nat.succ_mul]; omega
          simp (maxSteps := 1000000) only [go_sem, Nat.reduceBEq, Nat.reduceAdd, Nat.reduceLT, Nat.reduceMul, Nat.reduceSub, Nat.reduceLeDiff, Nat.reduceEqDiff, Int.reduceToNat, Nat.reduceBeqDiff, Nat.reduceBneDiff, decide_false, and_self, List.reduceReplicate, List.flatten_cons, List.flatten_nil, true_and, and_true, eq_self, decide_true, reduceIte, reduceCtorEq, List.any_toArray, Region.binds, Int.reduceBEq, Int.reduceBNe, Int.reduceLT, q1, q2, hw, h1, h2, h3, m1]
          refine if_split (fun hb => ?_) (fun hb => ?_)
          · have hb : addh rest v 0 ≠ 0 := by simpa using hb
            have : d' * w ≤ (rest + v) * 18446744073709551616 + z := guess_end (by omega) hw (by omega)
            simp (maxSteps := 1000000) only [go_sem, Nat.reduceBEq, Nat.reduceAdd, Nat.reduceLT, Nat.reduceMul, Nat.reduceSub, Nat.reduceLeDiff, Nat.reduceEqDiff, Int.reduceToNat, Nat.reduceBeqDiff, Nat.reduceBneDiff, decide_false, and_self, List.reduceReplicate, List.flatten_cons, List.flatten_nil, true_and, and_true, eq_self, decide_true, reduceIte, reduceCtorEq, List.any_toArray, Region.binds, Int.reduceBEq, Int.reduceBNe, Int.reduceLT]
            rw [← guess_eq (guess_le g3 this) g]; exact .refl _
          · have hb : addh rest v 0 = 0 := by simpa using hb
            have he : addl rest v 0 = rest + v := by omega
            simp (maxSteps := 1000000) only [go_sem, Nat.reduceBEq, Nat.reduceAdd, Nat.reduceLT, Nat.reduceMul, Nat.reduceSub, Nat.reduceLeDiff, Nat.reduceEqDiff, Int.reduceToNat, Nat.reduceBeqDiff, Nat.reduceBneDiff, decide_false, and_self, List.reduceReplicate, List.flatten_cons, List.flatten_nil, true_and, and_true, eq_self, decide_true, reduceIte, reduceCtorEq, List.any_toArray, Region.binds, Int.reduceBEq, Int.reduceBNe, Int.reduceLT]
            exact ⟨(d', addl rest v 0), Kept.of rfl (by repeat (first | exact KT.nil | refine KT.upd rfl (by first | rfl | exact hr | exact hr2 | (simp only [go_sem]; done)) ?_)) (KM.p (by repeat (first | exact KMp.nil | refine KMp.upd rfl (by first | rfl | (simp only [go_sem]; done)) ?_))), ⟨by simp only []; omega, hcl, by simp only []; rw [he]; exact g3, g⟩, by simp only []; omega⟩
      · have h2e : mulh d w ≠ rest := by simpa using h2
        obtain ⟨d', rfl, g⟩ := hstep (ge_of hm hml h1 (fun e => absurd e h2e) hz)
        clear fin hstep
        have m1 := u_nat d' (by omega)
        have hc := add_all rest v 0
        have hcl := addl_lt rest v 0
        have g3 : d' * v + (rest + v) = x * 18446744073709551616 + y := by rw [← q3, Nat.succ_mul]; omega
        simp (maxSteps := 1000000) only [go_sem, Nat.reduceBEq, Nat.reduceAdd, Nat.reduceLT, Nat.reduceMul, Nat.reduceSub, Nat.reduceLeDiff, Nat.reduceEqDiff, Int.reduceToNat, Nat.reduceBeqDiff, Nat.reduceBneDiff, decide_false, and_self, List.reduceReplicate, List.flatten_cons, List.flatten_nil, true_and, and_true, eq_self, decide_true, reduceIte, reduceCtorEq, List.any_toArray, Region.binds, Int.reduceBEq, Int.reduceBNe, Int.reduceLT, q1, q2, hw, h1, h2, m1]
        refine if_split (fun hb => ?_) (fun hb => ?_)
        · have hb : addh rest v 0 ≠ 0 := by simpa using hb
          have : d' * w ≤ (rest + v) * 18446744073709551616 + z := guess_end (by omega) hw (by omega)
          simp (maxSteps := 1000000) only [go_sem, Nat.reduceBEq, Nat.reduceAdd, Nat.reduceLT, Nat.reduceMul, Nat.reduceSub, Nat.reduceLeDiff, Nat.reduceEqDiff, Int.reduceToNat, Nat.reduceBeqDiff, Nat.reduceBneDiff, decide_false, and_self, List.reduceReplicate, List.flatten_cons, List.flatten_nil, true_and, and_true, eq_self, decide_true, reduceIte, reduceCtorEq, List.any_toArray, Region.binds, Int.reduceBEq, Int.reduceBNe, Int.reduceLT]
          rw [← guess_eq (guess_le g3 this) g]; exact .refl _
        · have hb : addh rest v 0 = 0 := by simpa using hb
          have he : addl rest v 0 = rest + v := by omega
          simp (maxSteps := 1000000) only [go_sem, Nat.reduceBEq, Nat.reduceAdd, Nat.reduceLT, Nat.reduceMul, Nat.reduceSub, Nat.reduceLeDiff, Nat.reduceEqDiff, Int.reduceToNat, Nat.reduceBeqDiff, Nat.reduceBneDiff, decide_false, and_self, List.reduceReplicate, List.flatten_cons, List.flatten_nil, true_and, and_true, eq_self, decide_true, reduceIte, reduceCtorEq, List.any_toArray, Region.binds, Int.reduceBEq, Int.reduceBNe, Int.reduceLT]
          exact ⟨(d', addl rest v 0), Kept.of rfl (by repeat (first | exact KT.nil | refine KT.upd rfl (by first | rfl | exact hr | exact hr2 | (simp only [go_sem]; done)) ?_)) (KM.p (by repeat (first | exact KMp.nil | refine KMp.upd rfl (by first | rfl | (simp only [go_sem]; done)) ?_))), ⟨by simp only []; omega, hcl, by simp only []; rw [he]; exact g3, g⟩, by simp only []; omega⟩
  · have hxv : v = x := by
      rcases Nat.lt_or_ge v x with h' | h'
      · have : (v + 1) * 18446744073709551616 ≤ x * 18446744073709551616 := Nat.mul_le_mul_right _ h'
        omega
      · omega
    subst hxv
    have hc := add_all y v 0
    have i3 : 18446744073709551615 * v + (y + v) = v * 18446744073709551616 + y := by omega
    have i4 : (v * 18446744073709551616 + y) * 18446744073709551616 + z < (18446744073709551615 + 1) * (v * 18446744073709551616 + w) := hlt
    simp (maxSteps := 1000000) only [go_sem, Nat.reduceBEq, Nat.reduceAdd, Nat.reduceLT, Nat.reduceMul, Nat.reduceSub, Nat.reduceLeDiff, Nat.reduceEqDiff, Int.reduceToNat, Nat.reduceBeqDiff, Nat.reduceBneDiff, decide_false, and_self, List.reduceReplicate, List.flatten_cons, List.flatten_nil, true_and, and_true, eq_self, decide_true, reduceIte, reduceCtorEq, List.any_toArray, Region.binds, Int.reduceBEq, Int.reduceBNe, Int.reduceLT, h, hy]
    refine if_split (fun hb => ?_) (fun hb => ?_)
    · have hb : addh y v 0 ≠ 0 := by simpa using hb
      have := guess_eq (guess_le i3 (guess_end (z := z) (by decide) hw (by omega))) i4
      simp (maxSteps := 1000000) only [go_sem, Nat.reduceBEq, Nat.reduceAdd, Nat.reduceLT, Nat.reduceMul, Nat.reduceSub, Nat.reduceLeDiff, Nat.reduceEqDiff, Int.reduceToNat, Nat.reduceBeqDiff, Nat.reduceBneDiff, decide_false, and_self, List.reduceReplicate, List.flatten_cons, List.flatten_nil, true_and, and_true, eq_self, decide_true, reduceIte, reduceCtorEq, List.any_toArray, Region.binds, Int.reduceBEq, Int.reduceBNe, Int.reduceLT]
      rw [← this]; exact .refl _
    · have hb : addh y v 0 = 0 := by simpa using hb
      have i2 := addl_lt y v 0
      rw [show y + v = addl y v 0 by omega] at i3
      have i1 : 18446744073709551615 < 18446744073709551616 := by decide
      simp (maxSteps := 1000000) only [go_sem, Nat.reduceBEq, Nat.reduceAdd, Nat.reduceLT, Nat.reduceMul, Nat.reduceSub, Nat.reduceLeDiff, Nat.reduceEqDiff, Int.reduceToNat, Nat.reduceBeqDiff, Nat.reduceBneDiff, decide_false, and_self, List.reduceReplicate, List.flatten_cons, List.flatten_nil, true_and, and_true, eq_self, decide_true, reduceIte, reduceCtorEq, List.any_toArray, Region.binds, Int.reduceBEq, Int.reduceBNe, Int.reduceLT]
      generalize addl y v 0 = r0 at *
      obtain ⟨d0, hd0⟩ : ∃ d0 : Nat, d0 = 18446744073709551615 := ⟨_, rfl⟩
      rw [← hd0] at i1 i3 i4
      have hd0' : (18446744073709551615 : Int) = (d0 : Int) := by rw [hd0]; rfl
      rw [hd0']
      clear hd0 hd0'
      refine trX_loop HE hP.mix [] (fun q : Nat × Nat => ⟨upd (upd (upd (upd (upd (upd (fun _ => .junk) 2 (.int .u64 (z : Int))) 3 (.int .u64 (v : Int))) 4 (.int .u64 (w : Int))) 10 (.int .u64 0)) 11 (.int .u64 (q.1 : Int))) 12 (.int .u64 (q.2 : Int)), fun _ => .unused, 67⟩)
        (fun q => q.1 < 18446744073709551616 ∧ q.2 < 18446744073709551616 ∧ q.1 * v + q.2 = v * 18446744073709551616 + y ∧ (v * 18446744073709551616 + y) * 18446744073709551616 + z < (q.1 + 1) * (v * 18446744073709551616 + w)) (fun q => q.1) (d0, r0) 0
        (by repeat (first | exact Has.nil | refine Has.upd rfl ?_)) (Kept.of rfl (by repeat (first | exact KT.nil | refine KT.upd rfl (by first | rfl | exact hr | exact hr2 | (simp only [go_sem]; done)) ?_)) (KM.p (by repeat (first | exact KMp.nil | refine KMp.upd rfl (by first | rfl | (simp only [go_sem]; done)) ?_)))) ⟨i1, i2, i3, i4⟩ 67 (by kernel_rfl) ?_
      rintro ⟨d, rest⟩ ⟨q1, q2, q3, q4⟩
      simp only [] at q1 q2 q3 q4
      clear i1 i2 i3 i4
      have hm : mulh d w * 18446744073709551616 + mull d w = d * w := by rw [Nat.mul_comm, Nat.add_comm]; exact mul_all d w
      have hml := mull_lt d w
      have fin : d * w ≤ rest * 18446744073709551616 + z → d = ((v * 18446744073709551616 + y) * 18446744073709551616 + z) / (v * 18446744073709551616 + w) := fun h => guess_eq (guess_le q3 h) q4
      by_cases h1 : mulh d w < rest
      · simp (maxSteps := 1000000) only [go_sem, Nat.reduceBEq, Nat.reduceAdd, Nat.reduceLT, Nat.reduceMul, Nat.reduceSub, Nat.reduceLeDiff, Nat.reduceEqDiff, Int.reduceToNat, Nat.reduceBeqDiff, Nat.reduceBneDiff, decide_false, and_self, List.reduceReplicate, List.flatten_cons, List.flatten_nil, true_and, and_true, eq_self, decide_true, reduceIte, reduceCtorEq, List.any_toArray, Region.binds, Int.reduceBEq, Int.reduceBNe, Int.reduceLT, q1, hw, h1]
        rw [← fin (le_of hm hml (.inl h1))]; exact .refl _
      · have hstep : rest * 18446744073709551616 + z < d * w → ∃ d', d = d' + 1 ∧ (v * 18446744073709551616 + y) * 18446744073709551616 + z < (d' + 1) * (v * 18446744073709551616 + w) := fun h => by
          have := guess_gt q3 h
          obtain ⟨d', rfl⟩ := succ_of h
          exact ⟨d', rfl, this⟩
        have h2t : (mulh d w == rest) = true ∨ (mulh d w == rest) = false := by cases (mulh d w == rest) <;> simp
        rcases h2t with h2 | h2
        · have h2e : mulh d w = rest := by simpa using h2
          by_cases h3 : mull d w ≤ z
          · simp (maxSteps := 1000000) only [go_sem, Nat.reduceBEq, Nat.reduceAdd, Nat.reduceLT, Nat.reduceMul, Nat.reduceSub, Nat.reduceLeDiff, Nat.reduceEqDiff, Int.reduceToNat, Nat.reduceBeqDiff, Nat.reduceBneDiff, decide_false, and_self, List.reduceReplicate, List.flatten_cons, List.flatten_nil, true_and, and_true, eq_self, decide_true, reduceIte, reduceCtorEq, List.any_toArray, Region.binds, Int.reduceBEq, Int.reduceBNe, Int.reduceLT, q1, hw, h1, h2, h3]
            rw [← fin (le_of hm hml (.inr ⟨h2e, h3⟩))]; exact .refl _
          · obtain ⟨d', rfl, g⟩ := hstep (ge_of hm hml h1 (fun _ => Nat.lt_of_not_le h3) hz)
            clear fin hstep
            have m1 := u_nat d' (by omega)
            have hc := add_all rest v 0
            have hcl := addl_lt rest v 0
            have g3 : d' * v + (rest + v) = v * 18446744073709551616 + y := by rw [← q3, Nat.succ_mul]; omega
            simp (maxSteps := 1000000) only [go_sem, Nat.reduceBEq, Nat.reduceAdd, Nat.reduceLT, Nat.reduceMul, Nat.reduceSub, Nat.reduceLeDiff, Nat.reduceEqDiff, Int.reduceToNat, Nat.reduceBeqDiff, Nat.reduceBneDiff, decide_false, and_self, List.reduceReplicate, List.flatten_cons, List.flatten_nil, true_and, and_true, eq_self, decide_true, reduceIte, reduceCtorEq, List.any_toArray, Region.binds, Int.reduceBEq, Int.reduceBNe, Int.reduceLT, q1, q2, hw, h1, h2, h3, m1]
            refine if_split (fun hb => ?_) (fun hb => ?_)
            · have hb : addh rest v 0 ≠ 0 := by simpa using hb
              have : d' * w ≤ (rest + v) * 18446744073709551616 + z := guess_end (by omega) hw (by omega)
              simp (maxSteps := 1000000) only [go_sem, Nat.reduceBEq, Nat.reduceAdd, Nat.reduceLT, Nat.reduceMul, Nat.reduceSub, Nat.reduceLeDiff, Nat.reduceEqDiff, Int.reduceToNat, Nat.reduceBeqDiff, Nat.reduceBneDiff, decide_false, and_self, List.reduceReplicate, List.flatten_cons, List.flatten_nil, true_and, and_true, eq_self, decide_true, reduceIte, reduceCtorEq, List.any_toArray, Region.binds, Int.reduceBEq, Int.reduceBNe, Int.reduceLT]
              rw [← guess_eq (guess_le g3 this) g]; exact .refl _
            · have hb : addh rest v 0 = 0 := by simpa using hb
              have he : addl rest v 0 = rest + v := by omega
              simp (maxSteps := 1000000) only [go_sem, Nat.reduceBEq, Nat.reduceAdd, Nat.reduceLT, Nat.reduceMul, Nat.reduceSub, Nat.reduceLeDiff, Nat.reduceEqDiff, Int.reduceToNat, Nat.reduceBeqDiff, Nat.reduceBneDiff, decide_false, and_self, List.reduceReplicate, List.flatten_cons, List.flatten_nil, true_and, and_true, eq_self, decide_true, reduceIte, reduceCtorEq, List.any_toArray, Region.binds, Int.reduceBEq, Int.reduceBNe, Int.reduceLT]
              exact ⟨(d', addl rest v 0), Kept.of rfl (by repeat (first | exact KT.nil | refine KT.upd rfl (by first | rfl | exact hr | exact hr2 | (simp only [go_sem]; done)) ?_)) (KM.p (by repeat (first | exact KMp.nil | refine KMp.upd rfl (by first | rfl | (simp only [go_sem]; done)) ?_))), ⟨by simp only []; omega, hcl, by simp only []; rw [he]; exact g3, g⟩, by simp only []; omega⟩
        · have h2e : mulh d w ≠ rest := by simpa using h2
          obtain ⟨d', rfl, g⟩ := hstep (ge_of hm hml h1 (fun e => absurd e h2e) hz)
          clear fin hstep
          have m1 := u_nat d' (by omega)
          have hc := add_all rest v 0
          have hcl := addl_lt rest v 0
          have g3 : d' * v + (rest + v) = v * 18446744073709551616 + y := by rw [← q3, Nat.succ_mul]; omega
          simp (maxSteps := 1000000) only [go_sem, Nat.reduceBEq, Nat.reduceAdd, Nat.reduceLT, Nat.reduceMul, Nat.reduceSub, Nat.reduceLeDiff, Nat.reduceEqDiff, Int.reduceToNat, Nat.reduceBeqDiff, Nat.reduceBneDiff, decide_false, and_self, List.reduceReplicate, List.flatten_cons, List.flatten_nil, true_and, and_true, eq_self, decide_true, reduceIte, reduceCtorEq, List.any_toArray, Region.binds, Int.reduceBEq, Int.reduceBNe, Int.reduceLT, q1, q2, hw, h1, h2, m1]
          refine if_split (fun hb => ?_) (fun hb => ?_)
          · have hb : addh rest v 0 ≠ 0 := by simpa using hb
            have : d' * w ≤ (rest + v) * 18446744073709551616 + z := guess_end (by omega) hw (by omega)
            simp (maxSteps := 1000000) only [go_sem, Nat.reduceBEq, Nat.reduceAdd, Nat.reduceLT, Nat.reduceMul, Nat.reduceSub, Nat.reduceLeDiff, Nat.reduceEqDiff, Int.reduceToNat, Nat.reduceBeqDiff, Nat.reduceBneDiff, decide_false, and_self, List.reduceReplicate, List.flatten_cons, List.flatten_nil, true_and, and_true, eq_self, decide_true, reduceIte, reduceCtorEq, List.any_toArray, Region.binds, Int.reduceBEq, Int.reduceBNe, Int.reduceLT]
            rw [← guess_eq (guess_le g3 this) g]; exact .refl _
          · have hb : addh rest v 0 = 0 := by simpa using hb
            have he : addl rest v 0 = rest + v := by omega
            simp (maxSteps := 1000000) only [go_sem, Nat.reduceBEq, Nat.reduceAdd, Nat.reduceLT, Nat.reduceMul, Nat.reduceSub, Nat.reduceLeDiff, Nat.reduceEqDiff, Int.reduceToNat, Nat.reduceBeqDiff, Nat.reduceBneDiff, decide_false, and_self, List.reduceReplicate, List.flatten_cons, List.flatten_nil, true_and, and_true, eq_self, decide_true, reduceIte, reduceCtorEq, List.any_toArray, Region.binds, Int.reduceBEq, Int.reduceBNe, Int.reduceLT]
            exact ⟨(d', addl rest v 0), Kept.of rfl (by repeat (first | exact KT.nil | refine KT.upd rfl (by first | rfl | exact hr | exact hr2 | (simp only [go_sem]; done)) ?_)) (KM.p (by repeat (first | exact KMp.nil | refine KMp.upd rfl (by first | rfl | (simp only [go_sem]; done)) ?_))), ⟨by simp only []; omega, hcl, by simp only []; rw [he]; exact g3, g⟩, by simp only []; omega⟩
theorem guess_top (hP : PrgOk P) (z v w : Nat) (hz : z < 18446744073709551616) (hv : v < 18446744073709551616) (hw : w < 18446744073709551616) : CSpec P 58 [.int .u64 (v : Int), .int .u64 (w : Int), .int .u64 (z : Int), .int .u64 (v : Int), .int .u64 (w : Int)] (.int .u64 18446744073709551615) := by
  have HE := Sc_ok hP
  refine CSpec_vc (E := ⟨T0, Sc⟩) (fn58 hP) HE hP.mix rfl (by first | rfl | (simp only [go_sem]; done)) (by first | rfl | (simp only [go_sem]; done)) (Nat.le_of_ble_eq_true rfl) ?_
  have h : ¬ v < v := Nat.lt_irrefl v
  have hc := add_all w v 0
  simp (maxSteps := 1000000) only [go_sem, Nat.reduceBEq, Nat.reduceAdd, Nat.reduceLT, Nat.reduceMul, Nat.reduceSub, Nat.reduceLeDiff, Nat.reduceEqDiff, Int.reduceToNat, Nat.reduceBeqDiff, Nat.reduceBneDiff, decide_false, and_self, List.reduceReplicate, List.flatten_cons, List.flatten_nil, true_and, and_true, eq_self, decide_true, reduceIte, reduceCtorEq, List.any_toArray, Region.binds, Int.reduceBEq, Int.reduceBNe, Int.reduceLT, h, hw]
  refine if_split (fun hb => ?_) (fun hb => ?_)
  · simp (maxSteps := 1000000) only [go_sem, Nat.reduceBEq, Nat.reduceAdd, Nat.reduceLT, Nat.reduceMul, Nat.reduceSub, Nat.reduceLeDiff, Nat.reduceEqDiff, Int.reduceToNat, Nat.reduceBeqDiff, Nat.reduceBneDiff, decide_false, and_self, List.reduceReplicate, List.flatten_cons, List.flatten_nil, true_and, and_true, eq_self, decide_true, reduceIte, reduceCtorEq, List.any_toArray, Region.binds, Int.reduceBEq, Int.reduceBNe, Int.reduceLT]
    exact .refl _
  · have hb : addh w v 0 = 0 := by simpa using hb
    have i2 := addl_lt w v 0
    have i1 : 18446744073709551615 < 18446744073709551616 := by decide
    have i3 : addl w v 0 = w + v := by omega
    simp (maxSteps := 1000000) only [go_sem, Nat.reduceBEq, Nat.reduceAdd, Nat.reduceLT, Nat.reduceMul, Nat.reduceSub, Nat.reduceLeDiff, Nat.reduceEqDiff, Int.reduceToNat, Nat.reduceBeqDiff, Nat.reduceBneDiff, decide_false, and_self, List.reduceReplicate, List.flatten_cons, List.flatten_nil, true_and, and_true, eq_self, decide_true, reduceIte, reduceCtorEq, List.any_toArray, Region.binds, Int.reduceBEq, Int.reduceBNe, Int.reduceLT]
    generalize addl w v 0 = r0 at *
    obtain ⟨d0, hd0⟩ : ∃ d0 : Nat, d0 = 18446744073709551615 := ⟨_, rfl⟩
    rw [← hd0] at i1
    have hd0' : (18446744073709551615 : Int) = (d0 : Int) := by rw [hd0]; rfl
    rw [hd0']
    refine trX_loop HE hP.mix [] (fun q : Nat × Nat => ⟨upd (upd (upd (upd (upd (upd (fun _ => .junk) 2 (.int .u64 (z : Int))) 3 (.int .u64 (v : Int))) 4 (.int .u64 (w : Int))) 10 (.int .u64 0)) 11 (.int .u64 (q.1 : Int))) 12 (.int .u64 (q.2 : Int)), fun _ => .unused, 67⟩)
      (fun q => q = (d0, r0)) (fun q => q.1) (d0, r0) 0
      (by repeat (first | exact Has.nil | refine Has.upd rfl ?_)) (Kept.of rfl (by repeat (first | exact KT.nil | refine KT.upd rfl (by first | rfl | exact hr | exact hr2 | (simp only [go_sem]; done)) ?_)) (KM.p (by repeat (first | exact KMp.nil | refine KMp.upd rfl (by first | rfl | (simp only [go_sem]; done)) ?_)))) rfl 67 (by kernel_rfl) ?_
    rintro ⟨d, rest⟩ hq
    obtain ⟨rfl, rfl⟩ := Prod.mk.inj hq
    have hm : mulh d w * 18446744073709551616 + mull d w = d * w := by rw [Nat.mul_comm, Nat.add_comm]; exact mul_all d w
    have hml := mull_lt d w
    have hle : d * w ≤ rest * 18446744073709551616 + z := by
      have h1 : d * w ≤ 18446744073709551616 * w := Nat.mul_le_mul_right _ (by omega)
      have h2 : w * 18446744073709551616 ≤ rest * 18446744073709551616 := Nat.mul_le_mul_right _ (by omega)
      rw [Nat.mul_comm] at h2; omega
    clear hd0 hd0'
    by_cases h1 : mulh d w < rest
    · simp (maxSteps := 1000000) only [go_sem, Nat.reduceBEq, Nat.reduceAdd, Nat.reduceLT, Nat.reduceMul, Nat.reduceSub, Nat.reduceLeDiff, Nat.reduceEqDiff, Int.reduceToNat, Nat.reduceBeqDiff, Nat.reduceBneDiff, decide_false, and_self, List.reduceReplicate, List.flatten_cons, List.flatten_nil, true_and, and_true, eq_self, decide_true, reduceIte, reduceCtorEq, List.any_toArray, Region.binds, Int.reduceBEq, Int.reduceBNe, Int.reduceLT, i1, hw, h1]
      exact .refl _
    · have h2t : (mulh d w == rest) = true ∨ (mulh d w == rest) = false := by cases (mulh d w == rest) <;> simp
      rcases h2t with h2 | h2
      · have h2e : mulh d w = rest := by simpa using h2
        by_cases h3 : mull d w ≤ z
        · simp (maxSteps := 1000000) only [go_sem, Nat.reduceBEq, Nat.reduceAdd, Nat.reduceLT, Nat.reduceMul, Nat.reduceSub, Nat.reduceLeDiff, Nat.reduceEqDiff, Int.reduceToNat, Nat.reduceBeqDiff, Nat.reduceBneDiff, decide_false, and_self, List.reduceReplicate, List.flatten_cons, List.flatten_nil, true_and, and_true, eq_self, decide_true, reduceIte, reduceCtorEq, List.any_toArray, Region.binds, Int.reduceBEq, Int.reduceBNe, Int.reduceLT, i1, hw, h1, h2, h3]
          exact .refl _
        · exact absurd (ge_of hm hml h1 (fun _ => Nat.lt_of_not_le h3) hz) (Nat.not_lt_of_le hle)
      · have h2e : mulh d w ≠ rest := by simpa using h2
        exact absurd (ge_of hm hml h1 (fun e => absurd e h2e) hz) (Nat.not_lt_of_le hle)
/-- The digit guessed. -/
theorem gd_ex : ∃ f : Nat → Nat → Nat → Nat → Nat → Nat, ∀ x y z v w, f x y z v w = if (x * 18446744073709551616 + y) * 18446744073709551616 + z < 18446744073709551616 * (v * 18446744073709551616 + w) then ((x * 18446744073709551616 + y) * 18446744073709551616 + z) / (v * 18446744073709551616 + w) else 18446744073709551615 := ⟨_, fun _ _ _ _ _ => rfl⟩
noncomputable def gdig : Nat → Nat → Nat → Nat → Nat → Nat := Classical.choose gd_ex
theorem gdig_eq (x y z v w) : gdig x y z v w = if (x * 18446744073709551616 + y) * 18446744073709551616 + z < 18446744073709551616 * (v * 18446744073709551616 + w) then ((x * 18446744073709551616 + y) * 18446744073709551616 + z) / (v * 18446744073709551616 + w) else 18446744073709551615 := Classical.choose_spec gd_ex x y z v w
def guessC (x y z v w : Nat) : Prop := x < 18446744073709551616 ∧ y < 18446744073709551616 ∧ z < 18446744073709551616 ∧ v < 18446744073709551616 ∧ w < 18446744073709551616 ∧ x * 18446744073709551616 + y ≤ v * 18446744073709551616 + w ∧ 0 < v
theorem guess_eqB {B x y z v w : Nat} (hy : y < B) (hw : w < B) (h : x * B + y ≤ v * B + w) (hn : ¬ (x * B + y) * B + z < B * (v * B + w)) (hz : z < B) : x = v ∧ y = w := by
  have h1 : x * B + y = v * B + w := by
    rcases Nat.lt_or_ge (x * B + y) (v * B + w) with h2 | h2
    · have : (x * B + y + 1) * B ≤ (v * B + w) * B := Nat.mul_le_mul_right _ h2
      rw [Nat.add_mul, Nat.mul_comm (v * B + w)] at this; omega
    · omega
  have h2 : x = v := by
    rcases Nat.lt_trichotomy x v with h3 | h3 | h3
    · have : (x + 1) * B ≤ v * B := Nat.mul_le_mul_right _ h3
      rw [Nat.add_mul] at this; omega
    · exact h3
    · have : (v + 1) * B ≤ x * B := Nat.mul_le_mul_right _ h3
      rw [Nat.add_mul] at this; omega
  subst h2; exact ⟨rfl, by omega⟩
theorem guess_all (hP : PrgOk P) (x y z v w : Nat) (h : guessC x y z v w) : CSpec P 58 [.int .u64 (x : Int), .int .u64 (y : Int), .int .u64 (z : Int), .int .u64 (v : Int), .int .u64 (w : Int)] (.int .u64 ((gdig x y z v w : Nat) : Int)) := by
  obtain ⟨hx, hy, hz, hv, hw, hle, hv0⟩ := h
  rw [gdig_eq]
  by_cases h : (x * 18446744073709551616 + y) * 18446744073709551616 + z < 18446744073709551616 * (v * 18446744073709551616 + w)
  · rw [if_pos h]; exact guess_spec hP x y z v w hx hy hz hv hw h hv0
  · rw [if_neg h]
    obtain ⟨rfl, rfl⟩ := guess_eqB hy hw hle h hz
    exact guess_top hP z x y hz hx hy
noncomputable def guessS : List AV → Option (Prop × AV)
  | [.int .u64 x, .int .u64 y, .int .u64 z, .int .u64 v, .int .u64 w] => some ((0 ≤ x ∧ 0 ≤ y ∧ 0 ≤ z ∧ 0 ≤ v ∧ 0 ≤ w) ∧ guessC x.toNat y.toNat z.toNat v.toNat w.toNat, .int .u64 ((gdig x.toNat y.toNat z.toNat v.toNat w.toNat : Nat) : Int))
  | _ => none
theorem guessS_ok (hP : PrgOk P) (args p r) (h : guessS args = some (p, r)) (hp : p) : CSpec P 58 args r := by
  unfold guessS at h
  split at h
  · simp only [Option.some.injEq, Prod.mk.injEq] at h
    obtain ⟨rfl, rfl⟩ := h
    exact (by rename_i x y z v w; obtain ⟨⟨a1, a2, a3, a4, a5⟩, b⟩ := hp; have := guess_all hP _ _ _ _ _ b; rw [nn a1, nn a2, nn a3, nn a4, nn a5] at this; exact this)
  · simp at h
attribute [go_sem] guessS
/-- How good the guess is. -/
theorem gdig_good {B p P3 V2 V Pn q lowV lowP : Nat} (hV : V = V2 * p + lowV) (hl : lowV < p) (hPn : Pn = P3 * p + lowP) (hlp : lowP < p) (hB : B ≤ V2) (hB0 : 0 < B) (hPV : Pn < B * V) (hq : q = if P3 < B * V2 then P3 / V2 else B - 1) : q < B ∧ q * V < Pn + V ∧ Pn < (q + 1) * V := by
  have hV2 : 0 < V2 := by omega
  have h0 : B * p ≤ V2 * p := Nat.mul_le_mul_right _ hB
  have hVp : 0 < V2 * p := Nat.mul_pos hV2 (by omega)
  split at hq
  · rename_i h
    have e1 := Nat.div_mul_le_self P3 V2
    have e2 : P3 < (q + 1) * V2 := by
      rw [hq, Nat.add_mul, Nat.one_mul, Nat.mul_comm]
      have := Nat.mod_add_div P3 V2
      have := Nat.mod_lt P3 hV2
      omega
    rw [← hq] at e1
    have hqB : q < B := by rw [hq]; exact (Nat.div_lt_iff_lt_mul hV2).2 h
    refine ⟨hqB, ?_, ?_⟩
    · have a1 : q * V2 * p ≤ P3 * p := Nat.mul_le_mul_right _ e1
      clear hq
      rw [hV, Nat.mul_add, ← Nat.mul_assoc]
      rcases Nat.eq_zero_or_pos q with hq0 | hq0
      · subst hq0; simp; omega
      · have a3 : q * lowV < q * p := (Nat.mul_lt_mul_left hq0).2 hl
        have a4 : q * p ≤ B * p := Nat.mul_le_mul_right _ (by omega)
        omega
    · have a1 : (P3 + 1) * p ≤ (q + 1) * V2 * p := Nat.mul_le_mul_right _ e2
      clear hq
      rw [Nat.add_mul, Nat.one_mul] at a1
      rw [hV, Nat.mul_add, ← Nat.mul_assoc]; omega
  · rename_i h
    refine ⟨by omega, ?_, ?_⟩
    · have a1 : B * V2 * p ≤ P3 * p := Nat.mul_le_mul_right _ (by omega)
      have a2 : B * lowV < B * p := (Nat.mul_lt_mul_left hB0).2 hl
      have a3 : (q + 1) * V = B * V := by rw [hq]; congr 1; omega
      have a4 : B * V = B * V2 * p + B * lowV := by rw [hV, Nat.mul_add, Nat.mul_assoc]
      rw [Nat.add_mul, Nat.one_mul] at a3
      omega
    · have a3 : (q + 1) * V = B * V := by rw [hq]; congr 1; omega
      omega
theorem away_none {w V d P Bn b : Nat} (h : w + V * d = P + Bn * b) (hb : b = 0) (h2 : P < (d + 1) * V) : w < V ∧ w + d * V = P := by
  subst hb; rw [Nat.mul_comm V] at h; rw [Nat.add_mul] at h2; omega
theorem away_much {w w2 V d P Bn b c : Nat} (h : w + V * d = P + Bn * b) (hb : b = 1) (hw : w < Bn) (h1 : d * V < P + V) (hc : c ≤ 1) (h3 : w2 + Bn * c = w + V) (hV : V < Bn) (hw2 : w2 < Bn) : ∃ d', d = d' + 1 ∧ w2 < V ∧ w2 + d' * V = P := by
  subst hb
  rw [Nat.mul_comm V] at h
  obtain ⟨d', rfl⟩ : ∃ d', d = d' + 1 := by
    cases d with
    | zero => omega
    | succ d => exact ⟨d, rfl⟩
  rw [Nat.add_mul, Nat.one_mul] at h h1
  refine ⟨d', rfl, ?_⟩
  rcases Nat.le_one_iff_eq_zero_or_eq_one.1 hc with rfl | rfl <;> omega
end Go.Proofs.Ytlgimmafejbmgaa.AM
