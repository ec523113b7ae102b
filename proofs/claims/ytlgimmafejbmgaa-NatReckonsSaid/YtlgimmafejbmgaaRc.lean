/- The document's numbers: sums and differences. -/
import Derived.Test.YtlgimmafejbmgaaRb
namespace Go.Proofs.Ytlgimmafejbmgaa.AM
set_option linter.all false
set_option autoImplicit true
set_option relaxedAutoImplicit true
open Go Go.Proofs
set_option maxRecDepth 100000
set_option maxHeartbeats 8000000
set_option linter.unusedSimpArgs false
variable {P : Program}

noncomputable def Sk : Nat → List AV → Option (Prop × AV) := addS (addS (addS (addS (addS Sj 46 rcutS) 19 rOfS) 14 SmallS) 17 rBitsS) 34 rCmpS
theorem Sk_ok (hP : PrgOk P) : EnvOk P ⟨T0, Sk⟩ := (((((Sj_ok hP).add (rcutS_ok hP)).add (rOfS_ok hP)).add (SmallS_ok hP)).add (rBitsS_ok hP)).add (rCmpS_ok hP)
attribute [go_sem] Sk
structure AS where
  i : Nat
  c : Nat
  D : OD
  o : List Nat
theorem take_any (x : List Nat) (i : Nat) : dOf 65536 (x.take (i + 1)) = dOf 65536 (x.take i) + 65536 ^ i * x.getD i 0 := by
  by_cases h : i < x.length
  · exact dOf_take_succ 65536 x i h
  · rw [List.take_of_length_le (show x.length ≤ i by omega), List.take_of_length_le (show x.length ≤ i + 1 by omega), getD_ge (by omega)]; simp
theorem radd_step {O p c X Y x y s : Nat} (h : O + p * c = X + Y) (hs : s = c + x + y) : O + p * (s % 65536) + p * 65536 * (s / 65536) = (X + p * x) + (Y + p * y) := by
  have e := Nat.mod_add_div s 65536
  have e2 := congrArg (p * ·) (e.trans hs)
  simp only [Nat.mul_add, ← Nat.mul_assoc] at e2
  omega
theorem rAdd_spec (hP : PrgOk P) (a b : Nat) (ha : blen a ≤ 68719476736) (hb : blen b ≤ 68719476736) : CSpec P 26 [(.imm (digs 65536 (a)).length (List.map (fun d : Nat => AV.int .u32 (d : Int)) (digs 65536 (a)))), (.imm (digs 65536 (b)).length (List.map (fun d : Nat => AV.int .u32 (d : Int)) (digs 65536 (b))))] (.imm (digs 65536 (a + b)).length (List.map (fun d : Nat => AV.int .u32 (d : Int)) (digs 65536 (a + b)))) := by
  have HE := Sk_ok hP
  have hxd : ∀ d ∈ digs 65536 a, d < 65536 := digs_lt 65536 a (by decide)
  have hyd : ∀ d ∈ digs 65536 b, d < 65536 := digs_lt 65536 b (by decide)
  have hx := dOf_digs 65536 a (by decide)
  have hy := dOf_digs 65536 b (by decide)
  have hlx := rlen_blen a
  have hly := rlen_blen b
  have rcut : ∀ l : List Nat, (∀ d ∈ l, d < 65536) → l.length < 4611686018427387904 → dOf 65536 l = a + b → CSpec P 46 [.imm l.length (List.map (fun d : Nat => AV.int .u32 (d : Int)) (l))] (.imm (digs 65536 (a + b)).length (List.map (fun d : Nat => AV.int .u32 (d : Int)) (digs 65536 (a + b)))) := fun l h1 h2 h3 => h3 ▸ rcut_spec hP l h1 h2
  refine CSpec_vc (E := ⟨T0, Sk⟩) (fn26 hP) HE hP.mix rfl (by first | rfl | (simp only [go_sem]; done)) (by first | rfl | (simp only [go_sem]; done)) (Nat.le_of_ble_eq_true rfl) ?_
  generalize digs 65536 a = x at *
  generalize digs 65536 b = y at *
  simp (maxSteps := 1000000) only [go_sem, Nat.reduceBEq, Nat.reduceAdd, Nat.reduceLT, Nat.reduceMul, Nat.reduceSub, Nat.reduceLeDiff, Nat.reduceEqDiff, Int.reduceToNat, Nat.reduceBeqDiff, Nat.reduceBneDiff, decide_false, and_self, List.reduceReplicate, List.flatten_cons, List.flatten_nil, true_and, and_true, eq_self, decide_true, reduceIte, reduceCtorEq, List.any_toArray, Region.binds, Int.reduceBEq, Int.reduceBNe, Int.reduceLT]
  refine trX_loopV HE hP.mix (fun q : AS => oL [] q.D) (fun q => ⟨upd (upd (upd (upd (upd (upd (fun _ => .junk) 0 (.imm x.length (List.map (fun d : Nat => AV.int .u32 (d : Int)) (x)))) 1 (.imm y.length (List.map (fun d : Nat => AV.int .u32 (d : Int)) (y)))) 4 .nils) 5 (oV q.D q.i)) 6 (.int .u32 (q.c : Int))) 7 (.int .i64 (q.i : Int)), oM .u32 (fun _ => .unused) q.D q.o, 55⟩)
    (fun q => q.i ≤ max x.length y.length + 1 ∧ q.o.length = q.i ∧ (∀ d ∈ q.o, d < 65536) ∧ (q.c ≤ 1 ∧ (q.i = max x.length y.length + 1 → q.c = 0)) ∧ dOf 65536 q.o + 65536 ^ q.i * q.c = dOf 65536 (x.take q.i) + dOf 65536 (y.take q.i) ∧ (q.D = none → q.o = [] ∧ q.i = 0) ∧ (∀ b, q.D ≠ some (true, b))) (fun q => max x.length y.length + 1 - q.i) ⟨0, 0, none, []⟩ (fun q => pX (if q.i < x.length then (if q.i < y.length then 36 else 29) else (if q.i < y.length then 33 else 28)) q.D)
    (fun x r hr => absurd rfl hr) (Kept.of rfl (by repeat (first | exact KT.nil | refine KT.upd rfl (by first | rfl | exact hr | exact hr2 | (simp only [go_sem]; done)) ?_)) (KM.p (by repeat (first | exact KMp.nil | refine KMp.upd rfl (by first | rfl | (simp only [go_sem]; done)) ?_)))) ⟨Nat.zero_le _, rfl, by simp, ⟨by simp, fun _ => rfl⟩, by simp [dOf], fun _ => ⟨rfl, rfl⟩, by simp⟩ 55 (by kernel_rfl) ?_
  rintro ⟨i, c, D, o⟩ ⟨h1, h2, h3, ⟨h4, h4'⟩, h5, h6, h7⟩
  simp only [] at h1 h2 h3 h4 h4' h5 h6 h7
  obtain ⟨s, hs⟩ : ∃ s, c + x.getD i 0 + y.getD i 0 = s := ⟨_, rfl⟩
  have hM1 := Nat.le_max_left x.length y.length
  have hM2 := Nat.le_max_right x.length y.length
  have hM3 : max x.length y.length ≤ 68719476736 := Nat.max_le.2 ⟨by omega, by omega⟩
  have hwi := wi_add1 i (by omega)
  have c2 : (i + 1) * 4 ≤ 1099511627776 := by omega
  have hxb : x.getD i 0 < 65536 := by
    by_cases h : i < x.length
    · exact hxd _ (getD_mem h)
    · rw [getD_ge (by omega)]; decide
  have hyb : y.getD i 0 < 65536 := by
    by_cases h : i < y.length
    · exact hyd _ (getD_mem h)
    · rw [getD_ge (by omega)]; decide
  have g1 : (s : Int).tmod 65536 = ((s % 65536 : Nat) : Int) := rfl
  have g2 : IntKind.u32.wrap ((s : Int).tdiv 65536) = ((s / 65536 : Nat) : Int) := by
    rw [show (s : Int).tdiv 65536 = ((s / 65536 : Nat) : Int) from rfl, IntKind.wrap_u32]; omega
  have hst : i ≤ max x.length y.length → ∀ o'', o'' = o ++ [s % 65536] → i + 1 ≤ max x.length y.length + 1 ∧ o''.length = i + 1 ∧ (∀ d ∈ o'', d < 65536) ∧ (s / 65536 ≤ 1 ∧ (i + 1 = max x.length y.length + 1 → s / 65536 = 0)) ∧ dOf 65536 o'' + 65536 ^ (i + 1) * (s / 65536) = dOf 65536 (x.take (i + 1)) + dOf 65536 (y.take (i + 1)) := fun hi o'' e => by
    subst e
    refine ⟨by omega, by simp [h2], fun d hd => ?_, ⟨by omega, fun e => ?_⟩, ?_⟩
    · rcases List.mem_append.1 hd with hd | hd
      · exact h3 d hd
      · rw [List.mem_singleton.1 hd]; omega
    · rw [getD_ge (show x.length ≤ i by omega), getD_ge (show y.length ≤ i by omega)] at hs; omega
    · rw [dOf_snocR, h2, Nat.pow_succ, take_any, take_any]
      exact radd_step h5 hs.symm
  by_cases hix : i < x.length
  · have k1 : i ≤ x.length := by omega
    have f1 : IntKind.u32.wrap ((c : Int) + ((x.getD i 0 : Nat) : Int)) = ((c + x.getD i 0 : Nat) : Int) := by rw [IntKind.wrap_u32]; omega
    have hst := hst (by omega)
    by_cases hiy : i < y.length
    · have k2 : i ≤ y.length := by omega
      have f2 : IntKind.u32.wrap (((c + x.getD i 0 : Nat) : Int) + ((y.getD i 0 : Nat) : Int)) = (s : Int) := by rw [IntKind.wrap_u32]; omega
      rcases D with _ | ⟨_ | _, _ | _⟩
      · simp only [oV, oM, oNum, pX, hix, hiy, if_true, if_false]
        simp (maxSteps := 1000000) only [go_sem, Nat.reduceBEq, Nat.reduceAdd, Nat.reduceLT, Nat.reduceMul, Nat.reduceSub, Nat.reduceLeDiff, Nat.reduceEqDiff, Int.reduceToNat, Nat.reduceBeqDiff, Nat.reduceBneDiff, decide_false, and_self, List.reduceReplicate, List.flatten_cons, List.flatten_nil, true_and, and_true, eq_self, decide_true, reduceIte, reduceCtorEq, List.any_toArray, Region.binds, Int.reduceBEq, Int.reduceBNe, Int.reduceLT, hix, hiy, k1, k2, gU' hix, gU' hiy, f1, f2, g1, g2, hwi, h2, map_snoc, c2]
        obtain ⟨e1, e2⟩ := h6 rfl
        subst e1
        subst e2
        obtain ⟨y1, y2, y3, y4, y5⟩ := hst ([s % 65536]) rfl
        exact ⟨by decide, by first | exact ⟨by simp, fun _ => trivial⟩ | exact ⟨by simp, by simp⟩, by decide, ⟨0 + 1, s / 65536, some (false, false), [s % 65536]⟩, Kept.of rfl (by repeat (first | exact KT.nil | refine KT.upd rfl (by first | rfl | exact hr | exact hr2 | (simp only [go_sem]; done)) ?_)) (KM.p (by repeat (first | exact KMp.nil | refine KMp.upd rfl (by first | rfl | (simp only [go_sem]; done)) ?_))), ⟨y1, y2, y3, y4, y5, by simp, by simp⟩, by simp only []; omega⟩
      · simp only [oV, oM, oNum, pX, hix, hiy, if_true, if_false]
        simp (maxSteps := 1000000) only [go_sem, Nat.reduceBEq, Nat.reduceAdd, Nat.reduceLT, Nat.reduceMul, Nat.reduceSub, Nat.reduceLeDiff, Nat.reduceEqDiff, Int.reduceToNat, Nat.reduceBeqDiff, Nat.reduceBneDiff, decide_false, and_self, List.reduceReplicate, List.flatten_cons, List.flatten_nil, true_and, and_true, eq_self, decide_true, reduceIte, reduceCtorEq, List.any_toArray, Region.binds, Int.reduceBEq, Int.reduceBNe, Int.reduceLT, hix, hiy, k1, k2, gU' hix, gU' hiy, f1, f2, g1, g2, hwi, h2, map_snoc, c2]
        obtain ⟨y1, y2, y3, y4, y5⟩ := hst (o ++ [s % 65536]) rfl
        exact ⟨by decide, by first | exact ⟨by simp, fun _ => trivial⟩ | exact ⟨by simp, by simp⟩, by decide, ⟨i + 1, s / 65536, some (false, true), o ++ [s % 65536]⟩, Kept.of rfl (by repeat (first | exact KT.nil | refine KT.upd rfl (by first | rfl | exact hr | exact hr2 | (simp only [go_sem]; done)) ?_)) (KM.p (by repeat (first | exact KMp.nil | refine KMp.upd rfl (by first | rfl | (simp only [go_sem]; done)) ?_))), ⟨y1, y2, y3, y4, y5, by simp, by simp⟩, by simp only []; omega⟩
      · simp only [oV, oM, oNum, pX, hix, hiy, if_true, if_false]
        simp (maxSteps := 1000000) only [go_sem, Nat.reduceBEq, Nat.reduceAdd, Nat.reduceLT, Nat.reduceMul, Nat.reduceSub, Nat.reduceLeDiff, Nat.reduceEqDiff, Int.reduceToNat, Nat.reduceBeqDiff, Nat.reduceBneDiff, decide_false, and_self, List.reduceReplicate, List.flatten_cons, List.flatten_nil, true_and, and_true, eq_self, decide_true, reduceIte, reduceCtorEq, List.any_toArray, Region.binds, Int.reduceBEq, Int.reduceBNe, Int.reduceLT, hix, hiy, k1, k2, gU' hix, gU' hiy, f1, f2, g1, g2, hwi, h2, map_snoc, c2]
        obtain ⟨y1, y2, y3, y4, y5⟩ := hst (o ++ [s % 65536]) rfl
        exact ⟨by decide, by first | exact ⟨by simp, fun _ => trivial⟩ | exact ⟨by simp, by simp⟩, by decide, ⟨i + 1, s / 65536, some (false, false), o ++ [s % 65536]⟩, Kept.of rfl (by repeat (first | exact KT.nil | refine KT.upd rfl (by first | rfl | exact hr | exact hr2 | (simp only [go_sem]; done)) ?_)) (KM.p (by repeat (first | exact KMp.nil | refine KMp.upd rfl (by first | rfl | (simp only [go_sem]; done)) ?_))), ⟨y1, y2, y3, y4, y5, by simp, by simp⟩, by simp only []; omega⟩
      · exact absurd rfl (h7 false)
      · exact absurd rfl (h7 true)
    · have f1 : IntKind.u32.wrap ((c : Int) + ((x.getD i 0 : Nat) : Int)) = (s : Int) := by
        rw [getD_ge (show y.length ≤ i by omega)] at hs; rw [IntKind.wrap_u32]; omega
      rcases D with _ | ⟨_ | _, _ | _⟩
      · simp only [oV, oM, oNum, pX, hix, hiy, if_true, if_false]
        simp (maxSteps := 1000000) only [go_sem, Nat.reduceBEq, Nat.reduceAdd, Nat.reduceLT, Nat.reduceMul, Nat.reduceSub, Nat.reduceLeDiff, Nat.reduceEqDiff, Int.reduceToNat, Nat.reduceBeqDiff, Nat.reduceBneDiff, decide_false, and_self, List.reduceReplicate, List.flatten_cons, List.flatten_nil, true_and, and_true, eq_self, decide_true, reduceIte, reduceCtorEq, List.any_toArray, Region.binds, Int.reduceBEq, Int.reduceBNe, Int.reduceLT, hix, hiy, k1, gU' hix, f1, g1, g2, hwi, h2, map_snoc, c2]
        obtain ⟨e1, e2⟩ := h6 rfl
        subst e1
        subst e2
        obtain ⟨y1, y2, y3, y4, y5⟩ := hst ([s % 65536]) rfl
        exact ⟨by decide, by first | exact ⟨by simp, fun _ => trivial⟩ | exact ⟨by simp, by simp⟩, by decide, ⟨0 + 1, s / 65536, some (false, false), [s % 65536]⟩, Kept.of rfl (by repeat (first | exact KT.nil | refine KT.upd rfl (by first | rfl | exact hr | exact hr2 | (simp only [go_sem]; done)) ?_)) (KM.p (by repeat (first | exact KMp.nil | refine KMp.upd rfl (by first | rfl | (simp only [go_sem]; done)) ?_))), ⟨y1, y2, y3, y4, y5, by simp, by simp⟩, by simp only []; omega⟩
      · simp only [oV, oM, oNum, pX, hix, hiy, if_true, if_false]
        simp (maxSteps := 1000000) only [go_sem, Nat.reduceBEq, Nat.reduceAdd, Nat.reduceLT, Nat.reduceMul, Nat.reduceSub, Nat.reduceLeDiff, Nat.reduceEqDiff, Int.reduceToNat, Nat.reduceBeqDiff, Nat.reduceBneDiff, decide_false, and_self, List.reduceReplicate, List.flatten_cons, List.flatten_nil, true_and, and_true, eq_self, decide_true, reduceIte, reduceCtorEq, List.any_toArray, Region.binds, Int.reduceBEq, Int.reduceBNe, Int.reduceLT, hix, hiy, k1, gU' hix, f1, g1, g2, hwi, h2, map_snoc, c2]
        obtain ⟨y1, y2, y3, y4, y5⟩ := hst (o ++ [s % 65536]) rfl
        exact ⟨by decide, by first | exact ⟨by simp, fun _ => trivial⟩ | exact ⟨by simp, by simp⟩, by decide, ⟨i + 1, s / 65536, some (false, true), o ++ [s % 65536]⟩, Kept.of rfl (by repeat (first | exact KT.nil | refine KT.upd rfl (by first | rfl | exact hr | exact hr2 | (simp only [go_sem]; done)) ?_)) (KM.p (by repeat (first | exact KMp.nil | refine KMp.upd rfl (by first | rfl | (simp only [go_sem]; done)) ?_))), ⟨y1, y2, y3, y4, y5, by simp, by simp⟩, by simp only []; omega⟩
      · simp only [oV, oM, oNum, pX, hix, hiy, if_true, if_false]
        simp (maxSteps := 1000000) only [go_sem, Nat.reduceBEq, Nat.reduceAdd, Nat.reduceLT, Nat.reduceMul, Nat.reduceSub, Nat.reduceLeDiff, Nat.reduceEqDiff, Int.reduceToNat, Nat.reduceBeqDiff, Nat.reduceBneDiff, decide_false, and_self, List.reduceReplicate, List.flatten_cons, List.flatten_nil, true_and, and_true, eq_self, decide_true, reduceIte, reduceCtorEq, List.any_toArray, Region.binds, Int.reduceBEq, Int.reduceBNe, Int.reduceLT, hix, hiy, k1, gU' hix, f1, g1, g2, hwi, h2, map_snoc, c2]
        obtain ⟨y1, y2, y3, y4, y5⟩ := hst (o ++ [s % 65536]) rfl
        exact ⟨by decide, by first | exact ⟨by simp, fun _ => trivial⟩ | exact ⟨by simp, by simp⟩, by decide, ⟨i + 1, s / 65536, some (false, false), o ++ [s % 65536]⟩, Kept.of rfl (by repeat (first | exact KT.nil | refine KT.upd rfl (by first | rfl | exact hr | exact hr2 | (simp only [go_sem]; done)) ?_)) (KM.p (by repeat (first | exact KMp.nil | refine KMp.upd rfl (by first | rfl | (simp only [go_sem]; done)) ?_))), ⟨y1, y2, y3, y4, y5, by simp, by simp⟩, by simp only []; omega⟩
      · exact absurd rfl (h7 false)
      · exact absurd rfl (h7 true)
  · by_cases hiy : i < y.length
    · have k2 : i ≤ y.length := by omega
      have hst := hst (by omega)
      have f1 : IntKind.u32.wrap ((c : Int) + ((y.getD i 0 : Nat) : Int)) = (s : Int) := by
        rw [getD_ge (show x.length ≤ i by omega)] at hs; rw [IntKind.wrap_u32]; omega
      rcases D with _ | ⟨_ | _, _ | _⟩
      · simp only [oV, oM, oNum, pX, hix, hiy, if_true, if_false]
        simp (maxSteps := 1000000) only [go_sem, Nat.reduceBEq, Nat.reduceAdd, Nat.reduceLT, Nat.reduceMul, Nat.reduceSub, Nat.reduceLeDiff, Nat.reduceEqDiff, Int.reduceToNat, Nat.reduceBeqDiff, Nat.reduceBneDiff, decide_false, and_self, List.reduceReplicate, List.flatten_cons, List.flatten_nil, true_and, and_true, eq_self, decide_true, reduceIte, reduceCtorEq, List.any_toArray, Region.binds, Int.reduceBEq, Int.reduceBNe, Int.reduceLT, hix, hiy, k2, gU' hiy, f1, g1, g2, hwi, h2, map_snoc, c2]
        obtain ⟨e1, e2⟩ := h6 rfl
        subst e1
        subst e2
        obtain ⟨y1, y2, y3, y4, y5⟩ := hst ([s % 65536]) rfl
        exact ⟨by decide, by first | exact ⟨by simp, fun _ => trivial⟩ | exact ⟨by simp, by simp⟩, by decide, ⟨0 + 1, s / 65536, some (false, false), [s % 65536]⟩, Kept.of rfl (by repeat (first | exact KT.nil | refine KT.upd rfl (by first | rfl | exact hr | exact hr2 | (simp only [go_sem]; done)) ?_)) (KM.p (by repeat (first | exact KMp.nil | refine KMp.upd rfl (by first | rfl | (simp only [go_sem]; done)) ?_))), ⟨y1, y2, y3, y4, y5, by simp, by simp⟩, by simp only []; omega⟩
      · simp only [oV, oM, oNum, pX, hix, hiy, if_true, if_false]
        simp (maxSteps := 1000000) only [go_sem, Nat.reduceBEq, Nat.reduceAdd, Nat.reduceLT, Nat.reduceMul, Nat.reduceSub, Nat.reduceLeDiff, Nat.reduceEqDiff, Int.reduceToNat, Nat.reduceBeqDiff, Nat.reduceBneDiff, decide_false, and_self, List.reduceReplicate, List.flatten_cons, List.flatten_nil, true_and, and_true, eq_self, decide_true, reduceIte, reduceCtorEq, List.any_toArray, Region.binds, Int.reduceBEq, Int.reduceBNe, Int.reduceLT, hix, hiy, k2, gU' hiy, f1, g1, g2, hwi, h2, map_snoc, c2]
        obtain ⟨y1, y2, y3, y4, y5⟩ := hst (o ++ [s % 65536]) rfl
        exact ⟨by decide, by first | exact ⟨by simp, fun _ => trivial⟩ | exact ⟨by simp, by simp⟩, by decide, ⟨i + 1, s / 65536, some (false, true), o ++ [s % 65536]⟩, Kept.of rfl (by repeat (first | exact KT.nil | refine KT.upd rfl (by first | rfl | exact hr | exact hr2 | (simp only [go_sem]; done)) ?_)) (KM.p (by repeat (first | exact KMp.nil | refine KMp.upd rfl (by first | rfl | (simp only [go_sem]; done)) ?_))), ⟨y1, y2, y3, y4, y5, by simp, by simp⟩, by simp only []; omega⟩
      · simp only [oV, oM, oNum, pX, hix, hiy, if_true, if_false]
        simp (maxSteps := 1000000) only [go_sem, Nat.reduceBEq, Nat.reduceAdd, Nat.reduceLT, Nat.reduceMul, Nat.reduceSub, Nat.reduceLeDiff, Nat.reduceEqDiff, Int.reduceToNat, Nat.reduceBeqDiff, Nat.reduceBneDiff, decide_false, and_self, List.reduceReplicate, List.flatten_cons, List.flatten_nil, true_and, and_true, eq_self, decide_true, reduceIte, reduceCtorEq, List.any_toArray, Region.binds, Int.reduceBEq, Int.reduceBNe, Int.reduceLT, hix, hiy, k2, gU' hiy, f1, g1, g2, hwi, h2, map_snoc, c2]
        obtain ⟨y1, y2, y3, y4, y5⟩ := hst (o ++ [s % 65536]) rfl
        exact ⟨by decide, by first | exact ⟨by simp, fun _ => trivial⟩ | exact ⟨by simp, by simp⟩, by decide, ⟨i + 1, s / 65536, some (false, false), o ++ [s % 65536]⟩, Kept.of rfl (by repeat (first | exact KT.nil | refine KT.upd rfl (by first | rfl | exact hr | exact hr2 | (simp only [go_sem]; done)) ?_)) (KM.p (by repeat (first | exact KMp.nil | refine KMp.upd rfl (by first | rfl | (simp only [go_sem]; done)) ?_))), ⟨y1, y2, y3, y4, y5, by simp, by simp⟩, by simp only []; omega⟩
      · exact absurd rfl (h7 false)
      · exact absurd rfl (h7 true)
    · have hsc : s = c := by
        rw [getD_ge (show x.length ≤ i by omega), getD_ge (show y.length ≤ i by omega)] at hs; omega
      by_cases hc : 0 < c
      · have hst := hst (by
          rcases Nat.lt_or_ge (max x.length y.length) i with h | h
          · have := h4' (by omega); omega
          · exact h)
        subst hsc
        rcases D with _ | ⟨_ | _, _ | _⟩
        · simp only [oV, oM, oNum, pX, hix, hiy, if_true, if_false]
          simp (maxSteps := 1000000) only [go_sem, Nat.reduceBEq, Nat.reduceAdd, Nat.reduceLT, Nat.reduceMul, Nat.reduceSub, Nat.reduceLeDiff, Nat.reduceEqDiff, Int.reduceToNat, Nat.reduceBeqDiff, Nat.reduceBneDiff, decide_false, and_self, List.reduceReplicate, List.flatten_cons, List.flatten_nil, true_and, and_true, eq_self, decide_true, reduceIte, reduceCtorEq, List.any_toArray, Region.binds, Int.reduceBEq, Int.reduceBNe, Int.reduceLT, hix, hiy, hc, g1, g2, hwi, h2, map_snoc, c2]
          obtain ⟨e1, e2⟩ := h6 rfl
          subst e1
          subst e2
          obtain ⟨y1, y2, y3, y4, y5⟩ := hst ([s % 65536]) rfl
          exact ⟨by decide, by first | exact ⟨by simp, fun _ => trivial⟩ | exact ⟨by simp, by simp⟩, by decide, ⟨0 + 1, s / 65536, some (false, false), [s % 65536]⟩, Kept.of rfl (by repeat (first | exact KT.nil | refine KT.upd rfl (by first | rfl | exact hr | exact hr2 | (simp only [go_sem]; done)) ?_)) (KM.p (by repeat (first | exact KMp.nil | refine KMp.upd rfl (by first | rfl | (simp only [go_sem]; done)) ?_))), ⟨y1, y2, y3, y4, y5, by simp, by simp⟩, by simp only []; omega⟩
        · simp only [oV, oM, oNum, pX, hix, hiy, if_true, if_false]
          simp (maxSteps := 1000000) only [go_sem, Nat.reduceBEq, Nat.reduceAdd, Nat.reduceLT, Nat.reduceMul, Nat.reduceSub, Nat.reduceLeDiff, Nat.reduceEqDiff, Int.reduceToNat, Nat.reduceBeqDiff, Nat.reduceBneDiff, decide_false, and_self, List.reduceReplicate, List.flatten_cons, List.flatten_nil, true_and, and_true, eq_self, decide_true, reduceIte, reduceCtorEq, List.any_toArray, Region.binds, Int.reduceBEq, Int.reduceBNe, Int.reduceLT, hix, hiy, hc, g1, g2, hwi, h2, map_snoc, c2]
          obtain ⟨y1, y2, y3, y4, y5⟩ := hst (o ++ [s % 65536]) rfl
          exact ⟨by decide, by first | exact ⟨by simp, fun _ => trivial⟩ | exact ⟨by simp, by simp⟩, by decide, ⟨i + 1, s / 65536, some (false, true), o ++ [s % 65536]⟩, Kept.of rfl (by repeat (first | exact KT.nil | refine KT.upd rfl (by first | rfl | exact hr | exact hr2 | (simp only [go_sem]; done)) ?_)) (KM.p (by repeat (first | exact KMp.nil | refine KMp.upd rfl (by first | rfl | (simp only [go_sem]; done)) ?_))), ⟨y1, y2, y3, y4, y5, by simp, by simp⟩, by simp only []; omega⟩
        · simp only [oV, oM, oNum, pX, hix, hiy, if_true, if_false]
          simp (maxSteps := 1000000) only [go_sem, Nat.reduceBEq, Nat.reduceAdd, Nat.reduceLT, Nat.reduceMul, Nat.reduceSub, Nat.reduceLeDiff, Nat.reduceEqDiff, Int.reduceToNat, Nat.reduceBeqDiff, Nat.reduceBneDiff, decide_false, and_self, List.reduceReplicate, List.flatten_cons, List.flatten_nil, true_and, and_true, eq_self, decide_true, reduceIte, reduceCtorEq, List.any_toArray, Region.binds, Int.reduceBEq, Int.reduceBNe, Int.reduceLT, hix, hiy, hc, g1, g2, hwi, h2, map_snoc, c2]
          obtain ⟨y1, y2, y3, y4, y5⟩ := hst (o ++ [s % 65536]) rfl
          exact ⟨by decide, by first | exact ⟨by simp, fun _ => trivial⟩ | exact ⟨by simp, by simp⟩, by decide, ⟨i + 1, s / 65536, some (false, false), o ++ [s % 65536]⟩, Kept.of rfl (by repeat (first | exact KT.nil | refine KT.upd rfl (by first | rfl | exact hr | exact hr2 | (simp only [go_sem]; done)) ?_)) (KM.p (by repeat (first | exact KMp.nil | refine KMp.upd rfl (by first | rfl | (simp only [go_sem]; done)) ?_))), ⟨y1, y2, y3, y4, y5, by simp, by simp⟩, by simp only []; omega⟩
        · exact absurd rfl (h7 false)
        · exact absurd rfl (h7 true)
      · have hc0 : c = 0 := by omega
        rw [hc0, List.take_of_length_le (show x.length ≤ i by omega), List.take_of_length_le (show y.length ≤ i by omega), hx, hy, Nat.mul_zero, Nat.add_zero] at h5
        have htk : o.take i = o := List.take_of_length_le (by omega)
        have hz3 : (∀ d ∈ o, d < 65536) = True := eq_true h3
        have hsl : i < 4611686018427387904 := by omega
        rcases D with _ | ⟨_ | _, _ | _⟩
        · obtain ⟨e1, e2⟩ := h6 rfl
          subst e1
          simp only [oV, oM, oNum]
          simp (maxSteps := 1000000) only [go_sem, Nat.reduceBEq, Nat.reduceAdd, Nat.reduceLT, Nat.reduceMul, Nat.reduceSub, Nat.reduceLeDiff, Nat.reduceEqDiff, Int.reduceToNat, Nat.reduceBeqDiff, Nat.reduceBneDiff, decide_false, and_self, List.reduceReplicate, List.flatten_cons, List.flatten_nil, true_and, and_true, eq_self, decide_true, reduceIte, reduceCtorEq, List.any_toArray, Region.binds, Int.reduceBEq, Int.reduceBNe, Int.reduceLT, hix, hiy, hc]
          rw [← h5]; exact .refl _
        · simp only [oV, oM, oNum]
          simp (maxSteps := 1000000) only [go_sem, Nat.reduceBEq, Nat.reduceAdd, Nat.reduceLT, Nat.reduceMul, Nat.reduceSub, Nat.reduceLeDiff, Nat.reduceEqDiff, Int.reduceToNat, Nat.reduceBeqDiff, Nat.reduceBneDiff, decide_false, and_self, List.reduceReplicate, List.flatten_cons, List.flatten_nil, true_and, and_true, eq_self, decide_true, reduceIte, reduceCtorEq, List.any_toArray, Region.binds, Int.reduceBEq, Int.reduceBNe, Int.reduceLT, hix, hiy, hc, htk, hz3, h2, hsl]
          rw [h5]; exact .refl _
        · simp only [oV, oM, oNum]
          simp (maxSteps := 1000000) only [go_sem, Nat.reduceBEq, Nat.reduceAdd, Nat.reduceLT, Nat.reduceMul, Nat.reduceSub, Nat.reduceLeDiff, Nat.reduceEqDiff, Int.reduceToNat, Nat.reduceBeqDiff, Nat.reduceBneDiff, decide_false, and_self, List.reduceReplicate, List.flatten_cons, List.flatten_nil, true_and, and_true, eq_self, decide_true, reduceIte, reduceCtorEq, List.any_toArray, Region.binds, Int.reduceBEq, Int.reduceBNe, Int.reduceLT, hix, hiy, hc, htk, hz3, h2, hsl]
          rw [h5]; exact .refl _
        · exact absurd rfl (h7 false)
        · exact absurd rfl (h7 true)
def rAddS : List AV → Option (Prop × AV) := onR2 fun a b => (blen a ≤ 68719476736 ∧ blen b ≤ 68719476736, (.imm (digs 65536 (a + b)).length (List.map (fun d : Nat => AV.int .u32 (d : Int)) (digs 65536 (a + b)))))
theorem rAddS_ok (hP : PrgOk P) (args p r) : rAddS args = some (p, r) → p → CSpec P 26 args r := onR2_ok (fun a b h => by exact rAdd_spec hP a b h.1 h.2) args p r
attribute [go_sem] rAddS

theorem rsub_step {O p c X Y x y s : Nat} (h : O + Y = X + p * c) (hs : s + c + y = x + 65536) (hs2 : s / 65536 ≤ 1) : O + p * (s % 65536) + (Y + p * y) = (X + p * x) + p * 65536 * (1 - s / 65536) := by
  have e := Nat.mod_add_div s 65536
  have e3 : s % 65536 + c + y = x + 65536 * (1 - s / 65536) := by omega
  have e2 := congrArg (p * ·) e3
  simp only [Nat.mul_add, ← Nat.mul_assoc] at e2
  omega
theorem rSub_spec (hP : PrgOk P) (a b : Nat) (ha : blen a ≤ 68719476736) (hba : b ≤ a) : CSpec P 35 [(.imm (digs 65536 (a)).length (List.map (fun d : Nat => AV.int .u32 (d : Int)) (digs 65536 (a)))), (.imm (digs 65536 (b)).length (List.map (fun d : Nat => AV.int .u32 (d : Int)) (digs 65536 (b))))] (.imm (digs 65536 (a - b)).length (List.map (fun d : Nat => AV.int .u32 (d : Int)) (digs 65536 (a - b)))) := by
  have HE := Sk_ok hP
  have hb : blen b ≤ 68719476736 := blen_le_of hba ha
  have hxd : ∀ d ∈ digs 65536 a, d < 65536 := digs_lt 65536 a (by decide)
  have hyd : ∀ d ∈ digs 65536 b, d < 65536 := digs_lt 65536 b (by decide)
  have hx := dOf_digs 65536 a (by decide)
  have hy := dOf_digs 65536 b (by decide)
  have hlx := rlen_blen a
  have hyx : (digs 65536 b).length ≤ (digs 65536 a).length := by
    rcases Nat.lt_or_ge (digs 65536 a).length (digs 65536 b).length with h | h
    · have := digs_len_lt 65536 a b (by decide) h; omega
    · exact h
  refine CSpec_vc (E := ⟨T0, Sk⟩) (fn35 hP) HE hP.mix rfl (by first | rfl | (simp only [go_sem]; done)) (by first | rfl | (simp only [go_sem]; done)) (Nat.le_of_ble_eq_true rfl) ?_
  generalize digs 65536 a = x at *
  generalize digs 65536 b = y at *
  simp (maxSteps := 1000000) only [go_sem, Nat.reduceBEq, Nat.reduceAdd, Nat.reduceLT, Nat.reduceMul, Nat.reduceSub, Nat.reduceLeDiff, Nat.reduceEqDiff, Int.reduceToNat, Nat.reduceBeqDiff, Nat.reduceBneDiff, decide_false, and_self, List.reduceReplicate, List.flatten_cons, List.flatten_nil, true_and, and_true, eq_self, decide_true, reduceIte, reduceCtorEq, List.any_toArray, Region.binds, Int.reduceBEq, Int.reduceBNe, Int.reduceLT]
  refine trX_loopV HE hP.mix (fun q : AS => oL [] q.D) (fun q => ⟨upd (upd (upd (upd (upd (upd (fun _ => .junk) 0 (.imm x.length (List.map (fun d : Nat => AV.int .u32 (d : Int)) (x)))) 1 (.imm y.length (List.map (fun d : Nat => AV.int .u32 (d : Int)) (y)))) 4 .nils) 5 (oV q.D q.i)) 6 (.int .u32 (q.c : Int))) 7 (.int .i64 (q.i : Int)), oM .u32 (fun _ => .unused) q.D q.o, 42⟩)
    (fun q => q.i ≤ x.length ∧ q.o.length = q.i ∧ (∀ d ∈ q.o, d < 65536) ∧ q.c ≤ 1 ∧ dOf 65536 q.o + dOf 65536 (y.take q.i) = dOf 65536 (x.take q.i) + 65536 ^ q.i * q.c ∧ (q.D = none → q.o = [] ∧ q.i = 0) ∧ (∀ b, q.D ≠ some (true, b))) (fun q => x.length - q.i) ⟨0, 0, none, []⟩ (fun q => pX (if q.i < y.length then 27 else 20) q.D)
    (fun x r hr => absurd rfl hr) (Kept.of rfl (by repeat (first | exact KT.nil | refine KT.upd rfl (by first | rfl | exact hr | exact hr2 | (simp only [go_sem]; done)) ?_)) (KM.p (by repeat (first | exact KMp.nil | refine KMp.upd rfl (by first | rfl | (simp only [go_sem]; done)) ?_)))) ⟨Nat.zero_le _, rfl, by simp, by simp, by simp [dOf], fun _ => ⟨rfl, rfl⟩, by simp⟩ 42 (by kernel_rfl) ?_
  rintro ⟨i, c, D, o⟩ ⟨h1, h2, h3, h4, h5, h6, h7⟩
  simp only [] at h1 h2 h3 h4 h5 h6 h7
  by_cases hix : i < x.length
  · have hxb := hxd _ (getD_mem hix)
    have hyb : y.getD i 0 < 65536 := by
      by_cases h : i < y.length
      · exact hyd _ (getD_mem h)
      · rw [getD_ge (by omega)]; decide
    obtain ⟨s, hs⟩ : ∃ s, s + c + y.getD i 0 = x.getD i 0 + 65536 := ⟨x.getD i 0 + 65536 - c - y.getD i 0, by omega⟩
    have hwi := wi_add1 i (by omega)
    have k1 : i ≤ x.length := by omega
    have c2 : (i + 1) * 4 ≤ 1099511627776 := by omega
    have g1 : (s : Int).tmod 65536 = ((s % 65536 : Nat) : Int) := rfl
    have g2 : IntKind.u32.wrap ((s : Int).tdiv 65536) = ((s / 65536 : Nat) : Int) := by
      rw [show (s : Int).tdiv 65536 = ((s / 65536 : Nat) : Int) from rfl, IntKind.wrap_u32]; omega
    have g3 : IntKind.u32.wrap (1 - ((s / 65536 : Nat) : Int)) = ((1 - s / 65536 : Nat) : Int) := by rw [IntKind.wrap_u32]; omega
    have hst : ∀ o'', o'' = o ++ [s % 65536] → i + 1 ≤ x.length ∧ o''.length = i + 1 ∧ (∀ d ∈ o'', d < 65536) ∧ 1 - s / 65536 ≤ 1 ∧ dOf 65536 o'' + dOf 65536 (y.take (i + 1)) = dOf 65536 (x.take (i + 1)) + 65536 ^ (i + 1) * (1 - s / 65536) := fun o'' e => by
      subst e
      refine ⟨by omega, by simp [h2], fun d hd => ?_, by omega, ?_⟩
      · rcases List.mem_append.1 hd with hd | hd
        · exact h3 d hd
        · rw [List.mem_singleton.1 hd]; omega
      · rw [dOf_snocR, h2, Nat.pow_succ, take_any, take_any]
        exact rsub_step h5 hs (by omega)
    have f1 : IntKind.u32.wrap (((x.getD i 0 : Nat) : Int) + 65536) = ((x.getD i 0 + 65536 : Nat) : Int) := by rw [IntKind.wrap_u32]; omega
    by_cases hiy : i < y.length
    · have k2 : i ≤ y.length := by omega
      have f2 : IntKind.u32.wrap (((x.getD i 0 + 65536 : Nat) : Int) - (c : Int)) = ((x.getD i 0 + 65536 - c : Nat) : Int) := by rw [IntKind.wrap_u32]; omega
      have f3 : IntKind.u32.wrap (((x.getD i 0 + 65536 - c : Nat) : Int) - ((y.getD i 0 : Nat) : Int)) = (s : Int) := by rw [IntKind.wrap_u32]; omega
      rcases D with _ | ⟨_ | _, _ | _⟩
      · simp only [oV, oM, oNum, pX, hix, hiy, if_true, if_false]
        simp (maxSteps := 1000000) only [go_sem, Nat.reduceBEq, Nat.reduceAdd, Nat.reduceLT, Nat.reduceMul, Nat.reduceSub, Nat.reduceLeDiff, Nat.reduceEqDiff, Int.reduceToNat, Nat.reduceBeqDiff, Nat.reduceBneDiff, decide_false, and_self, List.reduceReplicate, List.flatten_cons, List.flatten_nil, true_and, and_true, eq_self, decide_true, reduceIte, reduceCtorEq, List.any_toArray, Region.binds, Int.reduceBEq, Int.reduceBNe, Int.reduceLT, hix, hiy, k1, k2, gU' hix, gU' hiy, f1, f2, f3, g1, g2, g3, hwi, h2, map_snoc, c2]
        obtain ⟨e1, e2⟩ := h6 rfl
        subst e1
        subst e2
        obtain ⟨y1, y2, y3, y4, y5⟩ := hst ([s % 65536]) rfl
        exact ⟨by decide, by first | exact ⟨by simp, fun _ => trivial⟩ | exact ⟨by simp, by simp⟩, by decide, ⟨0 + 1, 1 - s / 65536, some (false, false), [s % 65536]⟩, Kept.of rfl (by repeat (first | exact KT.nil | refine KT.upd rfl (by first | rfl | exact hr | exact hr2 | (simp only [go_sem]; done)) ?_)) (KM.p (by repeat (first | exact KMp.nil | refine KMp.upd rfl (by first | rfl | (simp only [go_sem]; done)) ?_))), ⟨y1, y2, y3, y4, y5, by simp, by simp⟩, by simp only []; omega⟩
      · simp only [oV, oM, oNum, pX, hix, hiy, if_true, if_false]
        simp (maxSteps := 1000000) only [go_sem, Nat.reduceBEq, Nat.reduceAdd, Nat.reduceLT, Nat.reduceMul, Nat.reduceSub, Nat.reduceLeDiff, Nat.reduceEqDiff, Int.reduceToNat, Nat.reduceBeqDiff, Nat.reduceBneDiff, decide_false, and_self, List.reduceReplicate, List.flatten_cons, List.flatten_nil, true_and, and_true, eq_self, decide_true, reduceIte, reduceCtorEq, List.any_toArray, Region.binds, Int.reduceBEq, Int.reduceBNe, Int.reduceLT, hix, hiy, k1, k2, gU' hix, gU' hiy, f1, f2, f3, g1, g2, g3, hwi, h2, map_snoc, c2]
        obtain ⟨y1, y2, y3, y4, y5⟩ := hst (o ++ [s % 65536]) rfl
        exact ⟨by decide, by first | exact ⟨by simp, fun _ => trivial⟩ | exact ⟨by simp, by simp⟩, by decide, ⟨i + 1, 1 - s / 65536, some (false, true), o ++ [s % 65536]⟩, Kept.of rfl (by repeat (first | exact KT.nil | refine KT.upd rfl (by first | rfl | exact hr | exact hr2 | (simp only [go_sem]; done)) ?_)) (KM.p (by repeat (first | exact KMp.nil | refine KMp.upd rfl (by first | rfl | (simp only [go_sem]; done)) ?_))), ⟨y1, y2, y3, y4, y5, by simp, by simp⟩, by simp only []; omega⟩
      · simp only [oV, oM, oNum, pX, hix, hiy, if_true, if_false]
        simp (maxSteps := 1000000) only [go_sem, Nat.reduceBEq, Nat.reduceAdd, Nat.reduceLT, Nat.reduceMul, Nat.reduceSub, Nat.reduceLeDiff, Nat.reduceEqDiff, Int.reduceToNat, Nat.reduceBeqDiff, Nat.reduceBneDiff, decide_false, and_self, List.reduceReplicate, List.flatten_cons, List.flatten_nil, true_and, and_true, eq_self, decide_true, reduceIte, reduceCtorEq, List.any_toArray, Region.binds, Int.reduceBEq, Int.reduceBNe, Int.reduceLT, hix, hiy, k1, k2, gU' hix, gU' hiy, f1, f2, f3, g1, g2, g3, hwi, h2, map_snoc, c2]
        obtain ⟨y1, y2, y3, y4, y5⟩ := hst (o ++ [s % 65536]) rfl
        exact ⟨by decide, by first | exact ⟨by simp, fun _ => trivial⟩ | exact ⟨by simp, by simp⟩, by decide, ⟨i + 1, 1 - s / 65536, some (false, false), o ++ [s % 65536]⟩, Kept.of rfl (by repeat (first | exact KT.nil | refine KT.upd rfl (by first | rfl | exact hr | exact hr2 | (simp only [go_sem]; done)) ?_)) (KM.p (by repeat (first | exact KMp.nil | refine KMp.upd rfl (by first | rfl | (simp only [go_sem]; done)) ?_))), ⟨y1, y2, y3, y4, y5, by simp, by simp⟩, by simp only []; omega⟩
      · exact absurd rfl (h7 false)
      · exact absurd rfl (h7 true)
    · have f2 : IntKind.u32.wrap (((x.getD i 0 + 65536 : Nat) : Int) - (c : Int)) = (s : Int) := by
        rw [getD_ge (show y.length ≤ i by omega)] at hs; rw [IntKind.wrap_u32]; omega
      rcases D with _ | ⟨_ | _, _ | _⟩
      · simp only [oV, oM, oNum, pX, hix, hiy, if_true, if_false]
        simp (maxSteps := 1000000) only [go_sem, Nat.reduceBEq, Nat.reduceAdd, Nat.reduceLT, Nat.reduceMul, Nat.reduceSub, Nat.reduceLeDiff, Nat.reduceEqDiff, Int.reduceToNat, Nat.reduceBeqDiff, Nat.reduceBneDiff, decide_false, and_self, List.reduceReplicate, List.flatten_cons, List.flatten_nil, true_and, and_true, eq_self, decide_true, reduceIte, reduceCtorEq, List.any_toArray, Region.binds, Int.reduceBEq, Int.reduceBNe, Int.reduceLT, hix, hiy, k1, gU' hix, f1, f2, g1, g2, g3, hwi, h2, map_snoc, c2]
        obtain ⟨e1, e2⟩ := h6 rfl
        subst e1
        subst e2
        obtain ⟨y1, y2, y3, y4, y5⟩ := hst ([s % 65536]) rfl
        exact ⟨by decide, by first | exact ⟨by simp, fun _ => trivial⟩ | exact ⟨by simp, by simp⟩, by decide, ⟨0 + 1, 1 - s / 65536, some (false, false), [s % 65536]⟩, Kept.of rfl (by repeat (first | exact KT.nil | refine KT.upd rfl (by first | rfl | exact hr | exact hr2 | (simp only [go_sem]; done)) ?_)) (KM.p (by repeat (first | exact KMp.nil | refine KMp.upd rfl (by first | rfl | (simp only [go_sem]; done)) ?_))), ⟨y1, y2, y3, y4, y5, by simp, by simp⟩, by simp only []; omega⟩
      · simp only [oV, oM, oNum, pX, hix, hiy, if_true, if_false]
        simp (maxSteps := 1000000) only [go_sem, Nat.reduceBEq, Nat.reduceAdd, Nat.reduceLT, Nat.reduceMul, Nat.reduceSub, Nat.reduceLeDiff, Nat.reduceEqDiff, Int.reduceToNat, Nat.reduceBeqDiff, Nat.reduceBneDiff, decide_false, and_self, List.reduceReplicate, List.flatten_cons, List.flatten_nil, true_and, and_true, eq_self, decide_true, reduceIte, reduceCtorEq, List.any_toArray, Region.binds, Int.reduceBEq, Int.reduceBNe, Int.reduceLT, hix, hiy, k1, gU' hix, f1, f2, g1, g2, g3, hwi, h2, map_snoc, c2]
        obtain ⟨y1, y2, y3, y4, y5⟩ := hst (o ++ [s % 65536]) rfl
        exact ⟨by decide, by first | exact ⟨by simp, fun _ => trivial⟩ | exact ⟨by simp, by simp⟩, by decide, ⟨i + 1, 1 - s / 65536, some (false, true), o ++ [s % 65536]⟩, Kept.of rfl (by repeat (first | exact KT.nil | refine KT.upd rfl (by first | rfl | exact hr | exact hr2 | (simp only [go_sem]; done)) ?_)) (KM.p (by repeat (first | exact KMp.nil | refine KMp.upd rfl (by first | rfl | (simp only [go_sem]; done)) ?_))), ⟨y1, y2, y3, y4, y5, by simp, by simp⟩, by simp only []; omega⟩
      · simp only [oV, oM, oNum, pX, hix, hiy, if_true, if_false]
        simp (maxSteps := 1000000) only [go_sem, Nat.reduceBEq, Nat.reduceAdd, Nat.reduceLT, Nat.reduceMul, Nat.reduceSub, Nat.reduceLeDiff, Nat.reduceEqDiff, Int.reduceToNat, Nat.reduceBeqDiff, Nat.reduceBneDiff, decide_false, and_self, List.reduceReplicate, List.flatten_cons, List.flatten_nil, true_and, and_true, eq_self, decide_true, reduceIte, reduceCtorEq, List.any_toArray, Region.binds, Int.reduceBEq, Int.reduceBNe, Int.reduceLT, hix, hiy, k1, gU' hix, f1, f2, g1, g2, g3, hwi, h2, map_snoc, c2]
        obtain ⟨y1, y2, y3, y4, y5⟩ := hst (o ++ [s % 65536]) rfl
        exact ⟨by decide, by first | exact ⟨by simp, fun _ => trivial⟩ | exact ⟨by simp, by simp⟩, by decide, ⟨i + 1, 1 - s / 65536, some (false, false), o ++ [s % 65536]⟩, Kept.of rfl (by repeat (first | exact KT.nil | refine KT.upd rfl (by first | rfl | exact hr | exact hr2 | (simp only [go_sem]; done)) ?_)) (KM.p (by repeat (first | exact KMp.nil | refine KMp.upd rfl (by first | rfl | (simp only [go_sem]; done)) ?_))), ⟨y1, y2, y3, y4, y5, by simp, by simp⟩, by simp only []; omega⟩
      · exact absurd rfl (h7 false)
      · exact absurd rfl (h7 true)
  · have hie : i = x.length := by omega
    have hO : dOf 65536 o = a - b := by
      rw [List.take_of_length_le (show x.length ≤ i by omega), List.take_of_length_le (show y.length ≤ i by omega), hx, hy] at h5
      have hlt := dOf_lt 65536 o h3
      rw [h2] at hlt
      rcases Nat.le_one_iff_eq_zero_or_eq_one.1 h4 with hc | hc
      · rw [hc, Nat.mul_zero, Nat.add_zero] at h5; omega
      · rw [hc, Nat.mul_one] at h5; omega
    have htk : o.take i = o := List.take_of_length_le (by omega)
    have hz3 : (∀ d ∈ o, d < 65536) = True := eq_true h3
    have hsl : i < 4611686018427387904 := by omega
    rcases D with _ | ⟨_ | _, _ | _⟩
    · obtain ⟨e1, e2⟩ := h6 rfl
      subst e1
      simp only [oV, oM, oNum]
      simp (maxSteps := 1000000) only [go_sem, Nat.reduceBEq, Nat.reduceAdd, Nat.reduceLT, Nat.reduceMul, Nat.reduceSub, Nat.reduceLeDiff, Nat.reduceEqDiff, Int.reduceToNat, Nat.reduceBeqDiff, Nat.reduceBneDiff, decide_false, and_self, List.reduceReplicate, List.flatten_cons, List.flatten_nil, true_and, and_true, eq_self, decide_true, reduceIte, reduceCtorEq, List.any_toArray, Region.binds, Int.reduceBEq, Int.reduceBNe, Int.reduceLT, hix]
      rw [← hO]; exact .refl _
    · simp only [oV, oM, oNum]
      simp (maxSteps := 1000000) only [go_sem, Nat.reduceBEq, Nat.reduceAdd, Nat.reduceLT, Nat.reduceMul, Nat.reduceSub, Nat.reduceLeDiff, Nat.reduceEqDiff, Int.reduceToNat, Nat.reduceBeqDiff, Nat.reduceBneDiff, decide_false, and_self, List.reduceReplicate, List.flatten_cons, List.flatten_nil, true_and, and_true, eq_self, decide_true, reduceIte, reduceCtorEq, List.any_toArray, Region.binds, Int.reduceBEq, Int.reduceBNe, Int.reduceLT, hix, htk, hz3, h2, hsl]
      rw [hO]; exact .refl _
    · simp only [oV, oM, oNum]
      simp (maxSteps := 1000000) only [go_sem, Nat.reduceBEq, Nat.reduceAdd, Nat.reduceLT, Nat.reduceMul, Nat.reduceSub, Nat.reduceLeDiff, Nat.reduceEqDiff, Int.reduceToNat, Nat.reduceBeqDiff, Nat.reduceBneDiff, decide_false, and_self, List.reduceReplicate, List.flatten_cons, List.flatten_nil, true_and, and_true, eq_self, decide_true, reduceIte, reduceCtorEq, List.any_toArray, Region.binds, Int.reduceBEq, Int.reduceBNe, Int.reduceLT, hix, htk, hz3, h2, hsl]
      rw [hO]; exact .refl _
    · exact absurd rfl (h7 false)
    · exact absurd rfl (h7 true)
def rSubS : List AV → Option (Prop × AV) := onR2 fun a b => (blen a ≤ 68719476736 ∧ b ≤ a, (.imm (digs 65536 (a - b)).length (List.map (fun d : Nat => AV.int .u32 (d : Int)) (digs 65536 (a - b)))))
theorem rSubS_ok (hP : PrgOk P) (args p r) : rSubS args = some (p, r) → p → CSpec P 35 args r := onR2_ok (fun a b h => by exact rSub_spec hP a b h.1 h.2) args p r
attribute [go_sem] rSubS
end Go.Proofs.Ytlgimmafejbmgaa.AM
