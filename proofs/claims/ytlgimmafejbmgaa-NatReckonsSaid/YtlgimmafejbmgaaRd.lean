/- The document's numbers: products. -/
import Derived.Test.YtlgimmafejbmgaaRc
namespace Go.Proofs.Ytlgimmafejbmgaa.AM
set_option linter.all false
set_option autoImplicit true
set_option relaxedAutoImplicit true
open Go Go.Proofs
set_option maxRecDepth 100000
set_option maxHeartbeats 8000000
set_option linter.unusedSimpArgs false
variable {P : Program}

noncomputable def Sl : Nat → List AV → Option (Prop × AV) := addS (addS Sk 26 rAddS) 35 rSubS
theorem Sl_ok (hP : PrgOk P) : EnvOk P ⟨T0, Sl⟩ := ((Sk_ok hP).add (rAddS_ok hP)).add (rSubS_ok hP)
attribute [go_sem] Sl

theorem rmul_bound {p c z X Y : Nat} (hp : 65536 ^ (X + Y) ≤ p) (h : z + p * c < 65536 ^ (X + Y)) : c = 0 := by
  rcases Nat.eq_zero_or_pos c with h0 | h0
  · exact h0
  · have := Nat.mul_le_mul hp h0
    omega
theorem rmul_step {p c z z0 d s A x y : Nat} (h : z + p * c = A) (hs : z0 + p * d = z + p * (s % 65536)) (hd : s = d + c + x * y) : z0 + p * 65536 * (s / 65536) = A + p * (x * y) := by
  have e := Nat.mod_add_div s 65536
  have e2 := congrArg (p * ·) (e.trans hd)
  simp only [Nat.mul_add, ← Nat.mul_assoc] at e2
  simp only [← Nat.mul_assoc]
  omega
theorem rMul_spec (hP : PrgOk P) (a b : Nat) (ha : blen a ≤ 68719476736) (hb : blen b ≤ 68719476736) : CSpec P 24 [(.imm (digs 65536 (a)).length (List.map (fun d : Nat => AV.int .u32 (d : Int)) (digs 65536 (a)))), (.imm (digs 65536 (b)).length (List.map (fun d : Nat => AV.int .u32 (d : Int)) (digs 65536 (b))))] (.imm (digs 65536 (a * b)).length (List.map (fun d : Nat => AV.int .u32 (d : Int)) (digs 65536 (a * b)))) := by
  have HE := Sl_ok hP
  have hxd : ∀ d ∈ digs 65536 a, d < 65536 := digs_lt 65536 a (by decide)
  have hyd : ∀ d ∈ digs 65536 b, d < 65536 := digs_lt 65536 b (by decide)
  have hx := dOf_digs 65536 a (by decide)
  have hy := dOf_digs 65536 b (by decide)
  have hlx := rlen_blen a
  have hly := rlen_blen b
  refine CSpec_vc (E := ⟨T0, Sl⟩) (fn24 hP) HE hP.mix rfl (by first | rfl | (simp only [go_sem]; done)) (by first | rfl | (simp only [go_sem]; done)) (Nat.le_of_ble_eq_true rfl) ?_
  generalize digs 65536 a = x at *
  generalize digs 65536 b = y at *
  have hi := wi_add x.length y.length (by omega)
  have hi2 : x.length + y.length ≤ 1099511627776 := by omega
  simp (maxSteps := 1000000) only [go_sem, Nat.reduceBEq, Nat.reduceAdd, Nat.reduceLT, Nat.reduceMul, Nat.reduceSub, Nat.reduceLeDiff, Nat.reduceEqDiff, Int.reduceToNat, Nat.reduceBeqDiff, Nat.reduceBneDiff, decide_false, and_self, List.reduceReplicate, List.flatten_cons, List.flatten_nil, true_and, and_true, eq_self, decide_true, reduceIte, reduceCtorEq, List.any_toArray, Region.binds, Int.reduceBEq, Int.reduceBNe, Int.reduceLT, hi, hi2]
  refine trX_loop HE hP.mix [6] (fun q : Nat × List Nat => ⟨upd (upd (upd (upd (fun _ => .junk) 0 (.imm x.length (List.map (fun d : Nat => AV.int .u32 (d : Int)) (x)))) 1 (.imm y.length (List.map (fun d : Nat => AV.int .u32 (d : Int)) (y)))) 5 (.sl 6 0 (x.length + y.length) 1)) 6 (.int .i64 (q.1 : Int)), upd (fun _ => .unused) 6 (.live (List.map (fun d : Nat => AV.int .u32 (d : Int)) (q.2))), 70⟩)
    (fun q => q.1 ≤ x.length ∧ q.2.length = x.length + y.length ∧ (∀ d ∈ q.2, d < 65536) ∧ dOf 65536 q.2 = dOf 65536 (x.take q.1) * dOf 65536 y) (fun q => x.length - q.1) (0, List.replicate (x.length + y.length) 0) 60
    (by repeat (first | exact Has.nil | refine Has.upd rfl ?_)) (Kept.of rfl (by repeat (first | exact KT.nil | refine KT.upd rfl (by first | rfl | exact hr | exact hr2 | (simp only [go_sem]; done)) ?_)) (KM.p (by repeat (first | exact KMp.nil | refine KMp.upd rfl (by first | rfl | (simp only [go_sem]; done)) ?_)))) ⟨by simp, by simp, by intro d hd; rw [List.eq_of_mem_replicate hd]; decide, by simp [dOf, dOf_zeros]⟩ 70 (by kernel_rfl) ?_
  rintro ⟨i, z⟩ ⟨q1, q2, q3, q5⟩
  simp only [] at q1 q2 q3 q5
  by_cases hk : i < x.length
  · have hxi := hxd _ (getD_mem hk)
    simp (maxSteps := 1000000) only [go_sem, Nat.reduceBEq, Nat.reduceAdd, Nat.reduceLT, Nat.reduceMul, Nat.reduceSub, Nat.reduceLeDiff, Nat.reduceEqDiff, Int.reduceToNat, Nat.reduceBeqDiff, Nat.reduceBneDiff, decide_false, and_self, List.reduceReplicate, List.flatten_cons, List.flatten_nil, true_and, and_true, eq_self, decide_true, reduceIte, reduceCtorEq, List.any_toArray, Region.binds, Int.reduceBEq, Int.reduceBNe, Int.reduceLT, hk]
    refine trX_loop HE hP.mix [6] (fun q : Nat × List Nat × Nat => ⟨upd (upd (upd (upd (upd (upd (fun _ => .junk) 0 (.imm x.length (List.map (fun d : Nat => AV.int .u32 (d : Int)) (x)))) 1 (.imm y.length (List.map (fun d : Nat => AV.int .u32 (d : Int)) (y)))) 5 (.sl 6 0 (x.length + y.length) 1)) 6 (.int .i64 (i : Int))) 7 (.int .u64 (q.2.2 : Int))) 8 (.int .i64 (q.1 : Int)), upd (fun _ => .unused) 6 (.live (List.map (fun d : Nat => AV.int .u32 (d : Int)) (q.2.1))), 70⟩)
      (fun q => i + q.1 ≤ x.length + y.length ∧ q.2.1.length = x.length + y.length ∧ (∀ d ∈ q.2.1, d < 65536) ∧ q.2.2 < 65536 ∧ dOf 65536 q.2.1 + 65536 ^ (i + q.1) * q.2.2 = dOf 65536 z + 65536 ^ i * x.getD i 0 * dOf 65536 (y.take q.1)) (fun q => x.length + y.length - q.1) (0, z, 0) 60
      (by repeat (first | exact Has.nil | refine Has.upd rfl ?_)) (Kept.of rfl (by repeat (first | exact KT.nil | refine KT.upd rfl (by first | rfl | exact hr | exact hr2 | (simp only [go_sem]; done)) ?_)) (KM.p (by repeat (first | exact KMp.nil | refine KMp.upd rfl (by first | rfl | (simp only [go_sem]; done)) ?_)))) ⟨by simp only []; omega, q2, q3, by simp, by simp [dOf]⟩ 70 (by kernel_rfl) ?_
    rintro ⟨j, z', c⟩ ⟨r1, r2, r3, r4, r6⟩
    simp only [] at r1 r2 r3 r4 r6
    have hAB : dOf 65536 z + 65536 ^ i * x.getD i 0 * dOf 65536 y < 65536 ^ (x.length + y.length) := by
      have e1 : dOf 65536 z + 65536 ^ i * x.getD i 0 * dOf 65536 y = dOf 65536 (x.take (i + 1)) * dOf 65536 y := by
        rw [q5, dOf_take_succ 65536 x i hk, Nat.add_mul]
      have e2 := dOf_lt 65536 (x.take (i + 1)) (fun d hd => hxd d (List.mem_of_mem_take hd))
      have e3 := dOf_lt 65536 y hyd
      rw [List.length_take, Nat.min_eq_left (by omega)] at e2
      rw [e1, Nat.pow_add]
      have e4 : (65536 : Nat) ^ (i + 1) ≤ 65536 ^ x.length := Nat.pow_le_pow_right (by decide) (by omega)
      exact Nat.mul_lt_mul'' (Nat.lt_of_lt_of_le e2 e4) e3
    obtain ⟨s, hs⟩ : ∃ s, z'.getD (i + j) 0 + c + (if j < y.length then x.getD i 0 * y.getD j 0 else 0) = s := ⟨_, rfl⟩
    have hst : i + j < x.length + y.length → (if j < y.length then x.getD i 0 * y.getD j 0 else 0) = x.getD i 0 * y.getD j 0 → dOf 65536 (z'.set (i + j) (s % 65536)) + 65536 ^ (i + (j + 1)) * (s / 65536) = dOf 65536 z + 65536 ^ i * x.getD i 0 * dOf 65536 (y.take (j + 1)) := fun h he => by
      have h1 := dOf_set 65536 z' (i + j) (s % 65536) (by omega)
      rw [he] at hs
      have h2 := rmul_step r6 h1 hs.symm
      rw [← Nat.add_assoc, Nat.pow_succ, h2, take_any, Nat.mul_add, ← Nat.add_assoc]
      congr 1
      rw [Nat.pow_add]
      generalize x.getD i 0 = u; generalize y.getD j 0 = v; generalize 65536 ^ i = p1; generalize 65536 ^ j = p2
      simp only [Nat.mul_assoc]; congr 1; rw [← Nat.mul_assoc, ← Nat.mul_assoc, Nat.mul_comm p2 u]
    have hmem : i + j < x.length + y.length → s / 65536 < 65536 → dOf 65536 (z'.set (i + j) (s % 65536)) + 65536 ^ (i + (j + 1)) * (s / 65536) = dOf 65536 z + 65536 ^ i * x.getD i 0 * dOf 65536 (y.take (j + 1)) → i + (j + 1) ≤ x.length + y.length ∧ (z'.set (i + j) (s % 65536)).length = x.length + y.length ∧ (∀ d ∈ z'.set (i + j) (s % 65536), d < 65536) ∧ s / 65536 < 65536 ∧ dOf 65536 (z'.set (i + j) (s % 65536)) + 65536 ^ (i + (j + 1)) * (s / 65536) = dOf 65536 z + 65536 ^ i * x.getD i 0 * dOf 65536 (y.take (j + 1)) := fun h1 h2 h3 => by
      refine ⟨by omega, by rw [List.length_set]; exact r2, fun d hd => ?_, h2, h3⟩
      rcases List.mem_or_eq_of_mem_set hd with hd | rfl
      · exact r3 d hd
      · omega
    have hki : i ≤ x.length := by omega
    have hw3 := wi_add i j (by omega)
    have hw4 := wi_add1 j (by omega)
    have g1 : (s : Int).tmod 65536 = ((s % 65536 : Nat) : Int) := rfl
    have g2 : (s : Int).tdiv 65536 = ((s / 65536 : Nat) : Int) := rfl
    have f4 : ∀ d < 65536, IntKind.u64.wrap ((d : Nat) : Int) = (d : Int) := fun d hd => by rw [IntKind.wrap_u64]; omega
    by_cases hj : j < y.length
    · have hyj := hyd _ (getD_mem hj)
      have hij : i + j < x.length + y.length := by omega
      have hz : i + j < z'.length := by omega
      have hzd := r3 _ (getD_mem hz)
      have hkj : j ≤ y.length := by omega
      rw [if_pos hj] at hs hst
      have hxy : x.getD i 0 * y.getD j 0 ≤ 65535 * 65535 := Nat.mul_le_mul (by omega) (by omega)
      have f1 : IntKind.u64.wrap (((z'.getD (i + j) 0 : Nat) : Int) + (c : Int)) = ((z'.getD (i + j) 0 + c : Nat) : Int) := by rw [IntKind.wrap_u64]; omega
      have f2 : IntKind.u64.wrap (((x.getD i 0 : Nat) : Int) * ((y.getD j 0 : Nat) : Int)) = ((x.getD i 0 * y.getD j 0 : Nat) : Int) := by rw [← Int.natCast_mul, IntKind.wrap_u64]; omega
      have f3 : IntKind.u64.wrap (((z'.getD (i + j) 0 + c : Nat) : Int) + ((x.getD i 0 * y.getD j 0 : Nat) : Int)) = (s : Int) := by rw [IntKind.wrap_u64]; omega
      have f5 : IntKind.u32.wrap ((s % 65536 : Nat) : Int) = ((s % 65536 : Nat) : Int) := by rw [IntKind.wrap_u32]; omega
      simp (maxSteps := 1000000) only [go_sem, Nat.reduceBEq, Nat.reduceAdd, Nat.reduceLT, Nat.reduceMul, Nat.reduceSub, Nat.reduceLeDiff, Nat.reduceEqDiff, Int.reduceToNat, Nat.reduceBeqDiff, Nat.reduceBneDiff, decide_false, and_self, List.reduceReplicate, List.flatten_cons, List.flatten_nil, true_and, and_true, eq_self, decide_true, reduceIte, reduceCtorEq, List.any_toArray, Region.binds, Int.reduceBEq, Int.reduceBNe, Int.reduceLT, hj, hk, hki, hkj, gU' hk, gU' hj, hxi, hyj, hw3, hw4, hij, hz, gU hz, hzd, g1, g2, f1, f2, f3, f4 _ hxi, f4 _ hyj, f4 _ hzd, f5, f4 (s / 65536) (by omega)]
      refine ⟨by decide, by decide, (j + 1, z'.set (i + j) (s % 65536), s / 65536), Kept.of rfl (by repeat (first | exact KT.nil | refine KT.upd rfl (by first | rfl | exact hr | exact hr2 | (simp only [go_sem]; done)) ?_)) (KM.p (by repeat (first | exact KMp.nil | refine KMp.upd rfl (by first | rfl | (simp only [go_sem]; done)) ?_))), hmem (by omega) (by omega) (hst (by omega) rfl), by simp only []; omega⟩
    · rw [if_neg hj, Nat.add_zero] at hs
      have hty : y.take j = y := List.take_of_length_le (by omega)
      by_cases hc : 0 < c
      · have hij : i + j < x.length + y.length := by
          rcases Nat.lt_or_ge (i + j) (x.length + y.length) with h | h
          · exact h
          · have := rmul_bound (Nat.pow_le_pow_right (by decide) h : 65536 ^ (x.length + y.length) ≤ 65536 ^ (i + j)) (c := c) (z := dOf 65536 z') (by rw [r6, hty]; exact hAB)
            omega
        have hz : i + j < z'.length := by omega
        have hzd := r3 _ (getD_mem hz)
        have f1 : IntKind.u64.wrap (((z'.getD (i + j) 0 : Nat) : Int) + (c : Int)) = (s : Int) := by rw [IntKind.wrap_u64]; omega
        have f5 : IntKind.u32.wrap ((s % 65536 : Nat) : Int) = ((s % 65536 : Nat) : Int) := by rw [IntKind.wrap_u32]; omega
        simp (maxSteps := 1000000) only [go_sem, Nat.reduceBEq, Nat.reduceAdd, Nat.reduceLT, Nat.reduceMul, Nat.reduceSub, Nat.reduceLeDiff, Nat.reduceEqDiff, Int.reduceToNat, Nat.reduceBeqDiff, Nat.reduceBneDiff, decide_false, and_self, List.reduceReplicate, List.flatten_cons, List.flatten_nil, true_and, and_true, eq_self, decide_true, reduceIte, reduceCtorEq, List.any_toArray, Region.binds, Int.reduceBEq, Int.reduceBNe, Int.reduceLT, hj, hk, hki, hw3, hw4, hij, hz, gU hz, hzd, g1, g2, f1, f4 _ hzd, f5, f4 (s / 65536) (by omega), hc]
        refine ⟨by decide, by decide, (j + 1, z'.set (i + j) (s % 65536), s / 65536), Kept.of rfl (by repeat (first | exact KT.nil | refine KT.upd rfl (by first | rfl | exact hr | exact hr2 | (simp only [go_sem]; done)) ?_)) (KM.p (by repeat (first | exact KMp.nil | refine KMp.upd rfl (by first | rfl | (simp only [go_sem]; done)) ?_))), hmem (by omega) (by omega) (hst (by omega) (by rw [if_neg hj, getD_ge (show y.length ≤ j by omega), Nat.mul_zero])), by simp only []; omega⟩
      · have hc0 : c = 0 := by omega
        have hw2 := wi_add1 i (by omega)
        simp (maxSteps := 1000000) only [go_sem, Nat.reduceBEq, Nat.reduceAdd, Nat.reduceLT, Nat.reduceMul, Nat.reduceSub, Nat.reduceLeDiff, Nat.reduceEqDiff, Int.reduceToNat, Nat.reduceBeqDiff, Nat.reduceBneDiff, decide_false, and_self, List.reduceReplicate, List.flatten_cons, List.flatten_nil, true_and, and_true, eq_self, decide_true, reduceIte, reduceCtorEq, List.any_toArray, Region.binds, Int.reduceBEq, Int.reduceBNe, Int.reduceLT, hj, hc, hw2]
        rw [hc0, Nat.mul_zero, Nat.add_zero, hty] at r6
        refine ⟨(i + 1, z'), Kept.of rfl (by repeat (first | exact KT.nil | refine KT.upd rfl (by first | rfl | exact hr | exact hr2 | (simp only [go_sem]; done)) ?_)) (KM.p (by repeat (first | exact KMp.nil | refine KMp.upd rfl (by first | rfl | (simp only [go_sem]; done)) ?_))), ⟨by simp only []; omega, r2, r3, ?_⟩, by simp only []; omega⟩
        rw [r6, q5, dOf_take_succ 65536 x i hk, Nat.add_mul]
  · have htk : z.take (x.length + y.length) = z := List.take_of_length_le (by omega)
    have hsl : x.length + y.length < 4611686018427387904 := by omega
    have hz3 : (∀ d ∈ z, d < 65536) = True := eq_true q3
    have hti : x.take i = x := List.take_of_length_le (by omega)
    simp (maxSteps := 1000000) only [go_sem, Nat.reduceBEq, Nat.reduceAdd, Nat.reduceLT, Nat.reduceMul, Nat.reduceSub, Nat.reduceLeDiff, Nat.reduceEqDiff, Int.reduceToNat, Nat.reduceBeqDiff, Nat.reduceBneDiff, decide_false, and_self, List.reduceReplicate, List.flatten_cons, List.flatten_nil, true_and, and_true, eq_self, decide_true, reduceIte, reduceCtorEq, List.any_toArray, Region.binds, Int.reduceBEq, Int.reduceBNe, Int.reduceLT, hk, htk, q2, hz3, hsl]
    rw [q5, hti, hx, hy]; exact .refl _
def rMulS : List AV → Option (Prop × AV) := onR2 fun a b => (blen a ≤ 68719476736 ∧ blen b ≤ 68719476736, (.imm (digs 65536 (a * b)).length (List.map (fun d : Nat => AV.int .u32 (d : Int)) (digs 65536 (a * b)))))
theorem rMulS_ok (hP : PrgOk P) (args p r) : rMulS args = some (p, r) → p → CSpec P 24 args r := onR2_ok (fun a b h => by exact rMul_spec hP a b h.1 h.2) args p r
attribute [go_sem] rMulS
end Go.Proofs.Ytlgimmafejbmgaa.AM
