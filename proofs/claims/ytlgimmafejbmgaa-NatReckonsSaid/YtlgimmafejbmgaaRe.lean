/- The document's numbers: quotients and rests. -/
import Derived.Test.YtlgimmafejbmgaaRd
namespace Go.Proofs.Ytlgimmafejbmgaa.AM
set_option linter.all false
set_option autoImplicit true
set_option relaxedAutoImplicit true
open Go Go.Proofs
set_option maxRecDepth 100000
set_option maxHeartbeats 8000000
set_option linter.unusedSimpArgs false
variable {P : Program}

noncomputable def Sm : Nat → List AV → Option (Prop × AV) := addS Sl 24 rMulS
theorem Sm_ok (hP : PrgOk P) : EnvOk P ⟨T0, Sm⟩ := (Sl_ok hP).add (rMulS_ok hP)
attribute [go_sem] Sm

/-- A rest: none yet, or a number. -/
def rv : Option Nat → AV
  | none => .nils
  | some r => (.imm (digs 65536 (r)).length (List.map (fun d : Nat => AV.int .u32 (d : Int)) (digs 65536 (r))))
theorem rv_some (r : Nat) : rv (some r) = (.imm (digs 65536 (r)).length (List.map (fun d : Nat => AV.int .u32 (d : Int)) (digs 65536 (r)))) := rfl
attribute [go_sem] rv_some
def ru : Option Nat → Nat
  | none => 0
  | some r => r
theorem blen_17 {m : Nat} (h : m ≤ 65536) : blen m ≤ 17 := (blen_le_iff m 17).2 (by omega)
theorem objOnly_F {L : List Nat} {l : List Nat} : objOnly L (AObj.live (List.map (fun d : Nat => AV.int .u32 (d : Int)) (l))).freeze = true := objOnly_U (k := .u32) (l := l)
theorem dOf_split_at (b : Nat) (l : List Nat) (i : Nat) (h : i ≤ l.length) : dOf b l = dOf b (l.take i) + b ^ i * dOf b (l.drop i) := by
  conv => lhs; rw [← List.take_append_drop i l]
  rw [dOf_append, List.length_take, Nat.min_eq_left h]
theorem rDiv_spec (hP : PrgOk P) (a b : Nat) (ha : blen a ≤ 68719476736) (hb : blen b ≤ 34359738368) (h0 : 0 < b) : CSpec P 28 [(.imm (digs 65536 (a)).length (List.map (fun d : Nat => AV.int .u32 (d : Int)) (digs 65536 (a)))), (.imm (digs 65536 (b)).length (List.map (fun d : Nat => AV.int .u32 (d : Int)) (digs 65536 (b))))] (.tup [(.imm (digs 65536 (a / b)).length (List.map (fun d : Nat => AV.int .u32 (d : Int)) (digs 65536 (a / b)))), (.imm (digs 65536 (a % b)).length (List.map (fun d : Nat => AV.int .u32 (d : Int)) (digs 65536 (a % b))))]) := by
  have HE := Sm_ok hP
  have hxd : ∀ d ∈ digs 65536 a, d < 65536 := digs_lt 65536 a (by decide)
  have hx := dOf_digs 65536 a (by decide)
  have hlx := rlen_blen a
  refine CSpec_vc (E := ⟨T0, Sm⟩) (fn28 hP) HE hP.mix rfl (by first | rfl | (simp only [go_sem]; done)) (by first | rfl | (simp only [go_sem]; done)) (Nat.le_of_ble_eq_true rfl) ?_
  generalize digs 65536 a = x at *
  have hi2 : x.length ≤ 1099511627776 := by omega
  have hw : IntKind.i64.wrap ((x.length : Int) - 1) = (x.length : Int) - 1 := by rw [IntKind.wrap_i64]; omega
  simp (maxSteps := 1000000) only [go_sem, Nat.reduceBEq, Nat.reduceAdd, Nat.reduceLT, Nat.reduceMul, Nat.reduceSub, Nat.reduceLeDiff, Nat.reduceEqDiff, Int.reduceToNat, Nat.reduceBeqDiff, Nat.reduceBneDiff, decide_false, and_self, List.reduceReplicate, List.flatten_cons, List.flatten_nil, true_and, and_true, eq_self, decide_true, reduceIte, reduceCtorEq, List.any_toArray, Region.binds, Int.reduceBEq, Int.reduceBNe, Int.reduceLT, hi2, hw]
  refine trX_loop HE hP.mix [4] (fun q : Nat × List Nat × Option Nat => ⟨upd (upd (upd (upd (upd (fun _ => .junk) 0 (.imm x.length (List.map (fun d : Nat => AV.int .u32 (d : Int)) (x)))) 1 (.imm (digs 65536 (b)).length (List.map (fun d : Nat => AV.int .u32 (d : Int)) (digs 65536 (b))))) 6 (.sl 4 0 x.length 1)) 7 (rv q.2.2)) 8 (.int .i64 ((q.1 : Int) - 1)), upd (fun _ => .unused) 4 (.live (List.map (fun d : Nat => AV.int .u32 (d : Int)) (q.2.1))), 63⟩)
    (fun q => q.1 ≤ x.length ∧ q.2.1.length = x.length ∧ (∀ d ∈ q.2.1, d < 65536) ∧ dOf 65536 (x.drop q.1) = dOf 65536 (q.2.1.drop q.1) * b + ru q.2.2 ∧ ru q.2.2 < b ∧ True) (fun q => q.1) (x.length, List.replicate x.length 0, none) 100
    (by repeat (first | exact Has.nil | refine Has.upd rfl ?_)) (Kept.of rfl (by repeat (first | exact KT.nil | refine KT.upd rfl (by first | rfl | exact hr | exact hr2 | (simp only [go_sem]; done)) ?_)) (KM.p (by repeat (first | exact KMp.nil | refine KMp.upd rfl (by first | rfl | (simp only [go_sem]; done)) ?_)))) ⟨by simp, by simp, by intro d hd; rw [List.eq_of_mem_replicate hd]; decide, by simp [dOf, ru], h0, trivial⟩ 63 (by kernel_rfl) ?_
  rintro ⟨i, z, r⟩ ⟨q1, q2, q3, q4, q5, q6⟩
  simp only [] at q1 q2 q3 q4 q5 q6
  cases i with
  | zero =>
    have hsl : x.length < 4611686018427387904 := by omega
    have hz3 : (∀ d ∈ z, d < 65536) = True := eq_true q3
    have htk : z.take x.length = z := List.take_of_length_le (by omega)
    simp only [List.drop_zero] at q4
    obtain ⟨k1, k2⟩ := divmod_of (A := a) (by rw [← hx]; exact q4.symm) q5
    have hn0 : decide ((0 : Int) ≤ ((0 : Nat) : Int) - 1) = false := rfl
    cases r with
    | none =>
      simp only [rv]
      simp (maxSteps := 1000000) only [go_sem, Nat.reduceBEq, Nat.reduceAdd, Nat.reduceLT, Nat.reduceMul, Nat.reduceSub, Nat.reduceLeDiff, Nat.reduceEqDiff, Int.reduceToNat, Nat.reduceBeqDiff, Nat.reduceBneDiff, decide_false, and_self, List.reduceReplicate, List.flatten_cons, List.flatten_nil, true_and, and_true, eq_self, decide_true, reduceIte, reduceCtorEq, List.any_toArray, Region.binds, Int.reduceBEq, Int.reduceBNe, Int.reduceLT, hn0, htk, q2, hz3, hsl]
      rw [← k1, ← k2]
      have e : CvL [(.imm (digs 65536 (dOf 65536 z)).length (List.map (fun d : Nat => AV.int .u32 (d : Int)) (digs 65536 (dOf 65536 z)))), .nils] [(.imm (digs 65536 (dOf 65536 z)).length (List.map (fun d : Nat => AV.int .u32 (d : Int)) (digs 65536 (dOf 65536 z)))), (.imm (digs 65536 (0)).length (List.map (fun d : Nat => AV.int .u32 (d : Int)) (digs 65536 (0))))] := .cons rfl (by
        have e : digs 65536 0 = [] := digs_zero _
        rw [e]; exact .nilR .nil)
      exact CvL.conv (CvL.tup e .nil)
    | some r =>
      simp only [rv]
      simp (maxSteps := 1000000) only [go_sem, Nat.reduceBEq, Nat.reduceAdd, Nat.reduceLT, Nat.reduceMul, Nat.reduceSub, Nat.reduceLeDiff, Nat.reduceEqDiff, Int.reduceToNat, Nat.reduceBeqDiff, Nat.reduceBneDiff, decide_false, and_self, List.reduceReplicate, List.flatten_cons, List.flatten_nil, true_and, and_true, eq_self, decide_true, reduceIte, reduceCtorEq, List.any_toArray, Region.binds, Int.reduceBEq, Int.reduceBNe, Int.reduceLT, hn0, htk, q2, hz3, hsl]
      rw [← k1, ← k2]
      exact .refl _
  | succ i =>
    have hi : i < x.length := by omega
    have hi3 : i ≤ x.length := by omega
    have hxi := hxd _ (getD_mem hi)
    have f1 : IntKind.i64.wrap ((i : Int) - 1) = (i : Int) - 1 := by rw [IntKind.wrap_i64]; omega
    have f2 : ((i + 1 : Nat) : Int) - 1 = (i : Int) := by omega
    obtain ⟨R, hR⟩ : ∃ R, x.getD i 0 + 65536 * ru r = R := ⟨_, rfl⟩
    have hRb : R < 65536 * b := by omega
    have hdR : dOf 65536 (x.drop i) = 65536 * (dOf 65536 (z.drop (i + 1)) * b) + R := by
      rw [drop_cons hi, dOf, q4]; omega
    have hRa : R ≤ a := by
      have e := dOf_split_at 65536 x i hi3
      rw [hx, hdR] at e
      have : R ≤ 65536 ^ i * (65536 * (dOf 65536 (z.drop (i + 1)) * b) + R) := Nat.le_trans (Nat.le_add_left _ _) (Nat.le_mul_of_pos_left _ (Nat.pow_pos (by decide)))
      omega
    have hRl : blen R ≤ 68719476736 := blen_le_of hRa ha
    cases r with
    | none =>
      have e1 : dOf 65536 [ud (AV.int .u32 ((x.getD i 0 : Nat) : Int))] = R := by rw [← hR]; simp [dOf, ud, ru]
      have e2 : [AV.int IntKind.u32 ((x.getD i 0 : Nat) : Int)] = [AV.int IntKind.u32 ((ud (AV.int IntKind.u32 ((x.getD i 0 : Nat) : Int)) : Nat) : Int)] := rfl
      have e3 : ud (AV.int IntKind.u32 ((x.getD i 0 : Nat) : Int)) < 65536 := hxi
      simp only [rv, f2]
      simp (maxSteps := 1000000) only [go_sem, Nat.reduceBEq, Nat.reduceAdd, Nat.reduceLT, Nat.reduceMul, Nat.reduceSub, Nat.reduceLeDiff, Nat.reduceEqDiff, Int.reduceToNat, Nat.reduceBeqDiff, Nat.reduceBneDiff, decide_false, and_self, List.reduceReplicate, List.flatten_cons, List.flatten_nil, true_and, and_true, eq_self, decide_true, reduceIte, reduceCtorEq, List.any_toArray, Region.binds, Int.reduceBEq, Int.reduceBNe, Int.reduceLT, hi, hi3, gU' hi, hxi, e1]
      refine ⟨fun h => h, ⟨e2, e3, by simp⟩, ?_⟩
      refine trX_loop HE hP.mix [108, 106, 4] (fun q : Nat × Nat => ⟨upd (upd (upd (upd (upd (upd (upd (fun _ => .junk) 0 (.imm x.length (List.map (fun d : Nat => AV.int .u32 (d : Int)) (x)))) 1 (.imm (digs 65536 (b)).length (List.map (fun d : Nat => AV.int .u32 (d : Int)) (digs 65536 (b))))) 6 (.sl 4 0 x.length 1)) 7 (.imm (digs 65536 (R)).length (List.map (fun d : Nat => AV.int .u32 (d : Int)) (digs 65536 (R))))) 8 (.int .i64 (i : Int))) 9 (.int .u64 (q.1 : Int))) 10 (.int .u64 (q.2 : Int)), upd (upd (upd (fun _ => .unused) 4 (.live (List.map (fun d : Nat => AV.int .u32 (d : Int)) (z)))) 106 .gone) 108 (AObj.live ([.int .u32 ((x.getD i 0 : Nat) : Int)])).freeze, 63⟩)
        (fun q => q.1 < q.2 ∧ q.2 ≤ 65536 ∧ q.1 * b ≤ R ∧ R < q.2 * b) (fun q => q.2 - q.1) (0, 65536) 200
        (by repeat (first | exact Has.nil | refine Has.upd rfl ?_)) (Kept.of rfl (by repeat (first | exact KT.nil | refine KT.upd rfl (by first | rfl | exact hr | exact hr2 | (simp only [go_sem]; done)) ?_)) (KM.p (by repeat (first | exact KMp.nil | refine KMp.upd rfl (by first | rfl | exact objOnly_F) ?_)))) ⟨by decide, by simp, by simp, hRb⟩ 63 (by kernel_rfl) ?_
      rintro ⟨lo, hh⟩ ⟨p1, p2, p3, p4⟩
      simp only [] at p1 p2 p3 p4
      have w1 : IntKind.u64.wrap ((hh : Int) - (lo : Int)) = ((hh - lo : Nat) : Int) := by rw [IntKind.wrap_u64]; omega
      by_cases hg : 1 < hh - lo
      · have w2 : IntKind.u64.wrap ((lo : Int) + (hh : Int)) = ((lo + hh : Nat) : Int) := by rw [IntKind.wrap_u64]; omega
        obtain ⟨m, hm⟩ : ∃ m, (lo + hh) / 2 = m := ⟨_, rfl⟩
        have w3 : ((lo + hh : Nat) : Int).tdiv 2 = (m : Int) := by rw [← hm]; rfl
        have w4 : IntKind.u64.wrap (m : Int) = (m : Int) := by rw [IntKind.wrap_u64]; omega
        have w5 : ((0 : Int) ≤ (m : Int)) = True := eq_true (by omega)
        have w6 : ((m : Int) < 18446744073709551616) = True := eq_true (by omega)
        have hmb : blen m ≤ 17 := blen_17 (by omega)
        have w7 : blen m ≤ 68719476736 := Nat.le_trans hmb (by decide)
        have w8 : blen b ≤ 68719476736 := Nat.le_trans hb (by decide)
        have w9 : blen (m * b) ≤ 68719476736 := Nat.le_trans (blen_mul_le hmb hb) (by decide)
        rcases Nat.lt_or_ge R (m * b) with hc | hc
        · have w10 : decide (cmpI (m * b) R ≤ 0) = false := by rw [cmpI_gt hc]; rfl
          simp (maxSteps := 1000000) only [go_sem, Nat.reduceBEq, Nat.reduceAdd, Nat.reduceLT, Nat.reduceMul, Nat.reduceSub, Nat.reduceLeDiff, Nat.reduceEqDiff, Int.reduceToNat, Nat.reduceBeqDiff, Nat.reduceBneDiff, decide_false, and_self, List.reduceReplicate, List.flatten_cons, List.flatten_nil, true_and, and_true, eq_self, decide_true, reduceIte, reduceCtorEq, List.any_toArray, Region.binds, Int.reduceBEq, Int.reduceBNe, Int.reduceLT, w1, hg, w2, w3, w4, w5, w6, w7, w8, w9, hRl, Int.toNat_natCast, w10]
          exact ⟨by decide, (lo, m), Kept.of rfl (by repeat (first | exact KT.nil | refine KT.upd rfl (by first | rfl | exact hr | exact hr2 | (simp only [go_sem]; done)) ?_)) (KM.p (by repeat (first | exact KMp.nil | refine KMp.upd rfl (by first | rfl | exact objOnly_F) ?_))), ⟨by simp only []; omega, by simp only []; omega, p3, hc⟩, by simp only []; omega⟩
        · have w10 : decide (cmpI (m * b) R ≤ 0) = true := by
            rcases Nat.lt_or_eq_of_le hc with h | h
            · rw [cmpI_lt h]; rfl
            · rw [h, cmpI_eq]; rfl
          simp (maxSteps := 1000000) only [go_sem, Nat.reduceBEq, Nat.reduceAdd, Nat.reduceLT, Nat.reduceMul, Nat.reduceSub, Nat.reduceLeDiff, Nat.reduceEqDiff, Int.reduceToNat, Nat.reduceBeqDiff, Nat.reduceBneDiff, decide_false, and_self, List.reduceReplicate, List.flatten_cons, List.flatten_nil, true_and, and_true, eq_self, decide_true, reduceIte, reduceCtorEq, List.any_toArray, Region.binds, Int.reduceBEq, Int.reduceBNe, Int.reduceLT, w1, hg, w2, w3, w4, w5, w6, w7, w8, w9, hRl, Int.toNat_natCast, w10]
          exact ⟨by decide, (m, hh), Kept.of rfl (by repeat (first | exact KT.nil | refine KT.upd rfl (by first | rfl | exact hr | exact hr2 | (simp only [go_sem]; done)) ?_)) (KM.p (by repeat (first | exact KMp.nil | refine KMp.upd rfl (by first | rfl | exact objOnly_F) ?_))), ⟨by simp only []; omega, p2, hc, p4⟩, by simp only []; omega⟩
      · have hll : hh = lo + 1 := by omega
        have w4 : IntKind.u32.wrap (lo : Int) = (lo : Int) := by rw [IntKind.wrap_u32]; omega
        have w5 : ((0 : Int) ≤ (lo : Int)) = True := eq_true (by omega)
        have w6 : ((lo : Int) < 18446744073709551616) = True := eq_true (by omega)
        have hmb : blen lo ≤ 17 := blen_17 (by omega)
        have w7 : blen lo ≤ 68719476736 := Nat.le_trans hmb (by decide)
        have w8 : blen b ≤ 68719476736 := Nat.le_trans hb (by decide)
        have hz : i < z.length := by omega
        simp (maxSteps := 1000000) only [go_sem, Nat.reduceBEq, Nat.reduceAdd, Nat.reduceLT, Nat.reduceMul, Nat.reduceSub, Nat.reduceLeDiff, Nat.reduceEqDiff, Int.reduceToNat, Nat.reduceBeqDiff, Nat.reduceBneDiff, decide_false, and_self, List.reduceReplicate, List.flatten_cons, List.flatten_nil, true_and, and_true, eq_self, decide_true, reduceIte, reduceCtorEq, List.any_toArray, Region.binds, Int.reduceBEq, Int.reduceBNe, Int.reduceLT, w1, hg, w4, w5, w6, w7, w8, hRl, Int.toNat_natCast, hi, hi3, hz, p3, f1, plain_U hz]
        refine ⟨(i, z.set i lo, some (R - lo * b)), Kept.of rfl (by repeat (first | exact KT.nil | refine KT.upd rfl (by first | rfl | exact hr | exact hr2 | (simp only [go_sem]; done)) ?_)) (KM.p (by repeat (first | exact KMp.nil | refine KMp.upd rfl (by first | rfl | (simp only [go_sem]; done)) ?_))), ⟨by simp only []; omega, by rw [List.length_set]; exact q2, fun d hd => ?_, ?_, ?_⟩, by simp only []; omega⟩
        · rcases List.mem_or_eq_of_mem_set hd with hd | rfl
          · exact q3 d hd
          · omega
        · simp only [ru]
          rw [hdR, drop_cons (w := z.set i lo) (by rw [List.length_set]; exact hz), getD_set_eq _ _ _ hz, List.drop_set_of_lt (by omega), dOf, Nat.add_mul, Nat.mul_assoc]
          omega
        · rw [hll, Nat.succ_mul] at p4
          simp only [ru]
          omega
    | some r =>
      obtain ⟨l, hl⟩ : ∃ l, x.getD i 0 :: digs 65536 r = l := ⟨_, rfl⟩
      have e0 : AV.int IntKind.u32 ((x.getD i 0 : Nat) : Int) :: (List.map (fun d : Nat => AV.int .u32 (d : Int)) (digs 65536 r)) = (List.map (fun d : Nat => AV.int .u32 (d : Int)) (l)) := by rw [← hl]; rfl
      have e1 : l.length = 1 + (digs 65536 r).length := by rw [← hl, List.length_cons, Nat.add_comm]
      have e2 : dOf 65536 l = R := by rw [← hl, ← hR, dOf, dOf_digs 65536 r (by decide)]; rfl
      have e3 : (∀ d ∈ l, d < 65536) = True := eq_true (fun d hd => by
        rw [← hl] at hd
        rcases List.mem_cons.1 hd with rfl | hd
        · exact hxi
        · exact digs_lt 65536 r (by decide) d hd)
      have e4 := rlen_blen r
      have e5 : blen r ≤ 34359738368 := blen_le_of (Nat.le_of_lt (by simpa [ru] using q5)) hb
      have e6 : List.take (1 + (digs 65536 r).length) (List.map (fun d : Nat => AV.int .u32 (d : Int)) (l)) = (List.map (fun d : Nat => AV.int .u32 (d : Int)) (l)) := List.take_of_length_le (by rw [List.length_map]; omega)
      have e7 : List.drop (1 + (digs 65536 r).length) (List.map (fun d : Nat => AV.int .u32 (d : Int)) (l)) = [] := List.drop_of_length_le (by rw [List.length_map]; omega)
      have e8 : (1 + (digs 65536 r).length) * 4 ≤ 1099511627776 := by omega
      have e9 : 1 + (digs 65536 r).length < 4611686018427387904 := by omega
      simp only [rv, f2]
      simp (maxSteps := 1000000) only [go_sem, Nat.reduceBEq, Nat.reduceAdd, Nat.reduceLT, Nat.reduceMul, Nat.reduceSub, Nat.reduceLeDiff, Nat.reduceEqDiff, Int.reduceToNat, Nat.reduceBeqDiff, Nat.reduceBneDiff, decide_false, and_self, List.reduceReplicate, List.flatten_cons, List.flatten_nil, true_and, and_true, eq_self, decide_true, reduceIte, reduceCtorEq, List.any_toArray, Region.binds, Int.reduceBEq, Int.reduceBNe, Int.reduceLT, hi, hi3, gU' hi, hxi, e0, e6, e7, map_ud32, e1, e2, e3, e8, e9]
      refine ⟨fun h => h.elim, ?_⟩
      refine trX_loop HE hP.mix [108, 106, 4] (fun q : Nat × Nat => ⟨upd (upd (upd (upd (upd (upd (upd (fun _ => .junk) 0 (.imm x.length (List.map (fun d : Nat => AV.int .u32 (d : Int)) (x)))) 1 (.imm (digs 65536 (b)).length (List.map (fun d : Nat => AV.int .u32 (d : Int)) (digs 65536 (b))))) 6 (.sl 4 0 x.length 1)) 7 (.imm (digs 65536 (R)).length (List.map (fun d : Nat => AV.int .u32 (d : Int)) (digs 65536 (R))))) 8 (.int .i64 (i : Int))) 9 (.int .u64 (q.1 : Int))) 10 (.int .u64 (q.2 : Int)), upd (upd (upd (fun _ => .unused) 4 (.live (List.map (fun d : Nat => AV.int .u32 (d : Int)) (z)))) 106 .gone) 108 (AObj.live ((List.map (fun d : Nat => AV.int .u32 (d : Int)) (l)))).freeze, 63⟩)
        (fun q => q.1 < q.2 ∧ q.2 ≤ 65536 ∧ q.1 * b ≤ R ∧ R < q.2 * b) (fun q => q.2 - q.1) (0, 65536) 200
        (by repeat (first | exact Has.nil | refine Has.upd rfl ?_)) (Kept.of rfl (by repeat (first | exact KT.nil | refine KT.upd rfl (by first | rfl | exact hr | exact hr2 | (simp only [go_sem]; done)) ?_)) (KM.p (by repeat (first | exact KMp.nil | refine KMp.upd rfl (by first | rfl | exact objOnly_F) ?_)))) ⟨by decide, by simp, by simp, hRb⟩ 63 (by kernel_rfl) ?_
      rintro ⟨lo, hh⟩ ⟨p1, p2, p3, p4⟩
      simp only [] at p1 p2 p3 p4
      have w1 : IntKind.u64.wrap ((hh : Int) - (lo : Int)) = ((hh - lo : Nat) : Int) := by rw [IntKind.wrap_u64]; omega
      by_cases hg : 1 < hh - lo
      · have w2 : IntKind.u64.wrap ((lo : Int) + (hh : Int)) = ((lo + hh : Nat) : Int) := by rw [IntKind.wrap_u64]; omega
        obtain ⟨m, hm⟩ : ∃ m, (lo + hh) / 2 = m := ⟨_, rfl⟩
        have w3 : ((lo + hh : Nat) : Int).tdiv 2 = (m : Int) := by rw [← hm]; rfl
        have w4 : IntKind.u64.wrap (m : Int) = (m : Int) := by rw [IntKind.wrap_u64]; omega
        have w5 : ((0 : Int) ≤ (m : Int)) = True := eq_true (by omega)
        have w6 : ((m : Int) < 18446744073709551616) = True := eq_true (by omega)
        have hmb : blen m ≤ 17 := blen_17 (by omega)
        have w7 : blen m ≤ 68719476736 := Nat.le_trans hmb (by decide)
        have w8 : blen b ≤ 68719476736 := Nat.le_trans hb (by decide)
        have w9 : blen (m * b) ≤ 68719476736 := Nat.le_trans (blen_mul_le hmb hb) (by decide)
        rcases Nat.lt_or_ge R (m * b) with hc | hc
        · have w10 : decide (cmpI (m * b) R ≤ 0) = false := by rw [cmpI_gt hc]; rfl
          simp (maxSteps := 1000000) only [go_sem, Nat.reduceBEq, Nat.reduceAdd, Nat.reduceLT, Nat.reduceMul, Nat.reduceSub, Nat.reduceLeDiff, Nat.reduceEqDiff, Int.reduceToNat, Nat.reduceBeqDiff, Nat.reduceBneDiff, decide_false, and_self, List.reduceReplicate, List.flatten_cons, List.flatten_nil, true_and, and_true, eq_self, decide_true, reduceIte, reduceCtorEq, List.any_toArray, Region.binds, Int.reduceBEq, Int.reduceBNe, Int.reduceLT, w1, hg, w2, w3, w4, w5, w6, w7, w8, w9, hRl, Int.toNat_natCast, w10]
          exact ⟨by decide, (lo, m), Kept.of rfl (by repeat (first | exact KT.nil | refine KT.upd rfl (by first | rfl | exact hr | exact hr2 | (simp only [go_sem]; done)) ?_)) (KM.p (by repeat (first | exact KMp.nil | refine KMp.upd rfl (by first | rfl | exact objOnly_F) ?_))), ⟨by simp only []; omega, by simp only []; omega, p3, hc⟩, by simp only []; omega⟩
        · have w10 : decide (cmpI (m * b) R ≤ 0) = true := by
            rcases Nat.lt_or_eq_of_le hc with h | h
            · rw [cmpI_lt h]; rfl
            · rw [h, cmpI_eq]; rfl
          simp (maxSteps := 1000000) only [go_sem, Nat.reduceBEq, Nat.reduceAdd, Nat.reduceLT, Nat.reduceMul, Nat.reduceSub, Nat.reduceLeDiff, Nat.reduceEqDiff, Int.reduceToNat, Nat.reduceBeqDiff, Nat.reduceBneDiff, decide_false, and_self, List.reduceReplicate, List.flatten_cons, List.flatten_nil, true_and, and_true, eq_self, decide_true, reduceIte, reduceCtorEq, List.any_toArray, Region.binds, Int.reduceBEq, Int.reduceBNe, Int.reduceLT, w1, hg, w2, w3, w4, w5, w6, w7, w8, w9, hRl, Int.toNat_natCast, w10]
          exact ⟨by decide, (m, hh), Kept.of rfl (by repeat (first | exact KT.nil | refine KT.upd rfl (by first | rfl | exact hr | exact hr2 | (simp only [go_sem]; done)) ?_)) (KM.p (by repeat (first | exact KMp.nil | refine KMp.upd rfl (by first | rfl | exact objOnly_F) ?_))), ⟨by simp only []; omega, p2, hc, p4⟩, by simp only []; omega⟩
      · have hll : hh = lo + 1 := by omega
        have w4 : IntKind.u32.wrap (lo : Int) = (lo : Int) := by rw [IntKind.wrap_u32]; omega
        have w5 : ((0 : Int) ≤ (lo : Int)) = True := eq_true (by omega)
        have w6 : ((lo : Int) < 18446744073709551616) = True := eq_true (by omega)
        have hmb : blen lo ≤ 17 := blen_17 (by omega)
        have w7 : blen lo ≤ 68719476736 := Nat.le_trans hmb (by decide)
        have w8 : blen b ≤ 68719476736 := Nat.le_trans hb (by decide)
        have hz : i < z.length := by omega
        simp (maxSteps := 1000000) only [go_sem, Nat.reduceBEq, Nat.reduceAdd, Nat.reduceLT, Nat.reduceMul, Nat.reduceSub, Nat.reduceLeDiff, Nat.reduceEqDiff, Int.reduceToNat, Nat.reduceBeqDiff, Nat.reduceBneDiff, decide_false, and_self, List.reduceReplicate, List.flatten_cons, List.flatten_nil, true_and, and_true, eq_self, decide_true, reduceIte, reduceCtorEq, List.any_toArray, Region.binds, Int.reduceBEq, Int.reduceBNe, Int.reduceLT, w1, hg, w4, w5, w6, w7, w8, hRl, Int.toNat_natCast, hi, hi3, hz, p3, f1, plain_U hz]
        refine ⟨(i, z.set i lo, some (R - lo * b)), Kept.of rfl (by repeat (first | exact KT.nil | refine KT.upd rfl (by first | rfl | exact hr | exact hr2 | (simp only [go_sem]; done)) ?_)) (KM.p (by repeat (first | exact KMp.nil | refine KMp.upd rfl (by first | rfl | (simp only [go_sem]; done)) ?_))), ⟨by simp only []; omega, by rw [List.length_set]; exact q2, fun d hd => ?_, ?_, ?_⟩, by simp only []; omega⟩
        · rcases List.mem_or_eq_of_mem_set hd with hd | rfl
          · exact q3 d hd
          · omega
        · simp only [ru]
          rw [hdR, drop_cons (w := z.set i lo) (by rw [List.length_set]; exact hz), getD_set_eq _ _ _ hz, List.drop_set_of_lt (by omega), dOf, Nat.add_mul, Nat.mul_assoc]
          omega
        · rw [hll, Nat.succ_mul] at p4
          simp only [ru]
          omega
def rDivS : List AV → Option (Prop × AV) := onR2 fun a b => (blen a ≤ 68719476736 ∧ blen b ≤ 34359738368 ∧ 0 < b, .tup [(.imm (digs 65536 (a / b)).length (List.map (fun d : Nat => AV.int .u32 (d : Int)) (digs 65536 (a / b)))), (.imm (digs 65536 (a % b)).length (List.map (fun d : Nat => AV.int .u32 (d : Int)) (digs 65536 (a % b))))])
theorem rDivS_ok (hP : PrgOk P) (args p r) : rDivS args = some (p, r) → p → CSpec P 28 args r := onR2_ok (fun a b h => by exact rDiv_spec hP a b h.1 h.2.1 h.2.2) args p r
attribute [go_sem] rDivS
end Go.Proofs.Ytlgimmafejbmgaa.AM
