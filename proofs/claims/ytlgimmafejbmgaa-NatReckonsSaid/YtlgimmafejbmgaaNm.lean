/- Package nat: quotients and rests. -/
import Derived.Test.YtlgimmafejbmgaaNl
namespace Go.Proofs.Ytlgimmafejbmgaa.AM
set_option linter.all false
set_option autoImplicit true
set_option relaxedAutoImplicit true
open Go Go.Proofs
set_option maxRecDepth 100000
set_option maxHeartbeats 8000000
set_option linter.unusedSimpArgs false
variable {P : Program}

def longC (n m : Nat) (a b : List Nat) : Prop := n = a.length ∧ m = b.length ∧ (∀ d ∈ a, d < 18446744073709551616) ∧ (∀ d ∈ b, d < 18446744073709551616) ∧ 2 ≤ b.length ∧ b.length ≤ a.length ∧ a.length + 1 ≤ 1099511627776 ∧ b.getD (b.length - 1) 0 ≠ 0
noncomputable def longS : List AV → Option (Prop × AV)
  | [.imm n xs, .imm m ys] => some ((xs = (List.map (fun d : Nat => AV.int .u64 (d : Int)) (xs.map ud)) ∧ ys = (List.map (fun d : Nat => AV.int .u64 (d : Int)) (ys.map ud))) ∧ longC n m (xs.map ud) (ys.map ud), .tup [(.agg [.opq (.nat (dOf 18446744073709551616 (xs.map ud) / dOf 18446744073709551616 (ys.map ud))), .pad]), (.agg [.opq (.nat (dOf 18446744073709551616 (xs.map ud) % dOf 18446744073709551616 (ys.map ud))), .pad])])
  | _ => none
theorem longS_ok (hP : PrgOk P) (args p r) (h : longS args = some (p, r)) (hp : p) : CSpec P 47 args r := by
  unfold longS at h
  split at h
  · simp only [Option.some.injEq, Prod.mk.injEq] at h
    obtain ⟨rfl, rfl⟩ := h
    exact (by rename_i n xs m ys; obtain ⟨⟨a1, a2⟩, b1, b2, b3, b4, b5, b6, b7, b8⟩ := hp; have := long_spec hP _ _ b3 b4 b5 b6 b7 b8; rw [← a1, ← a2, ← b1, ← b2] at this; exact this)
  · simp at h
attribute [go_sem] longS
noncomputable def Se : Nat → List AV → Option (Prop × AV) := addS Sd 47 longS
theorem Se_ok (hP : PrgOk P) : EnvOk P ⟨T0, Se⟩ := (Sd_ok hP).add (longS_ok hP)
attribute [go_sem] Se

theorem Div_zero (hP : PrgOk P) (a : Nat) : CSpec P 27 [(.agg [.opq (.nat (a)), .pad]), (.agg [.opq (.nat (0)), .pad])] (.tup [(.agg [.opq (.nat (0)), .pad]), (.agg [.opq (.nat (0)), .pad]), .int .i64 11]) := by
  have HE := Se_ok hP
  have hb : blen 0 ≤ 68719476736 := by decide
  have hb2 : blen 0 = 0 := by decide
  have e0 : natC 0 = [.int .u64 0, .nils] := natC_small (by decide)
  have e : CvL [.agg [.int .u64 0, .nils], .agg [.int .u64 0, .nils], .int .i64 11] [(.agg [.opq (.nat (0)), .pad]), (.agg [.opq (.nat (0)), .pad]), .int .i64 11] := by
    have := CvL.natOut 0 (CvL.natOut 0 (CvL.refl [.int .i64 11]))
    rwa [e0] at this
  refine CSpec_vc (E := ⟨T0, Se⟩) (fn27 hP) HE hP.mix rfl (by first | rfl | (simp only [go_sem]; done)) (by first | rfl | (simp only [go_sem]; done)) (Nat.le_of_ble_eq_true rfl) ?_
  simp (maxSteps := 1000000) only [go_sem, Nat.reduceBEq, Nat.reduceAdd, Nat.reduceLT, Nat.reduceMul, Nat.reduceSub, Nat.reduceLeDiff, Nat.reduceEqDiff, Int.reduceToNat, Nat.reduceBeqDiff, Nat.reduceBneDiff, decide_false, and_self, List.reduceReplicate, List.flatten_cons, List.flatten_nil, true_and, and_true, eq_self, decide_true, reduceIte, reduceCtorEq, List.any_toArray, Region.binds, Int.reduceBEq, Int.reduceBNe, Int.reduceLT, hb, hb2]
  exact CvL.conv (CvL.tup e .nil)
theorem Div_less (hP : PrgOk P) (a b : Nat) (ha : blen a ≤ 68719476736) (hb : blen b ≤ 68719476736) (h : a < b) : CSpec P 27 [(.agg [.opq (.nat (a)), .pad]), (.agg [.opq (.nat (b)), .pad])] (.tup [(.agg [.opq (.nat (0)), .pad]), (.agg [.opq (.nat (a)), .pad]), .int .i64 0]) := by
  have HE := Se_ok hP
  have hb2 : (blen b == 0) = false := by
    have : blen b ≠ 0 := by rw [Ne, blen_zero_iff]; omega
    simpa using this
  have hc : decide (cmpI a b < 0) = true := by rw [cmpI_lt h]; rfl
  have e0 : natC 0 = [.int .u64 0, .nils] := natC_small (by decide)
  have e : CvL [.agg [.int .u64 0, .nils], (.agg [.opq (.nat (a)), .pad]), .int .i64 0] [(.agg [.opq (.nat (0)), .pad]), (.agg [.opq (.nat (a)), .pad]), .int .i64 0] := by
    have := CvL.natOut 0 (CvL.refl [(.agg [.opq (.nat (a)), .pad]), .int .i64 0])
    rwa [e0] at this
  refine CSpec_vc (E := ⟨T0, Se⟩) (fn27 hP) HE hP.mix rfl (by first | rfl | (simp only [go_sem]; done)) (by first | rfl | (simp only [go_sem]; done)) (Nat.le_of_ble_eq_true rfl) ?_
  simp (maxSteps := 1000000) only [go_sem, Nat.reduceBEq, Nat.reduceAdd, Nat.reduceLT, Nat.reduceMul, Nat.reduceSub, Nat.reduceLeDiff, Nat.reduceEqDiff, Int.reduceToNat, Nat.reduceBeqDiff, Nat.reduceBneDiff, decide_false, and_self, List.reduceReplicate, List.flatten_cons, List.flatten_nil, true_and, and_true, eq_self, decide_true, reduceIte, reduceCtorEq, List.any_toArray, Region.binds, Int.reduceBEq, Int.reduceBNe, Int.reduceLT, ha, hb, hb2, hc]
  exact CvL.conv (CvL.tup e .nil)
theorem cmp_ge {a b : Nat} (h : b ≤ a) : decide (cmpI a b < 0) = false := by
  rcases Nat.lt_or_ge b a with h' | h'
  · rw [cmpI_gt h']; rfl
  · rw [Nat.le_antisymm h h', cmpI_eq]; rfl
theorem divmod_of {W A y c : Nat} (h : W * y + c = A) (hc : c < y) : W = A / y ∧ c = A % y := by
  have h1 : A / y = W := by rw [← h, Nat.mul_comm, Nat.mul_add_div (by omega), Nat.div_eq_of_lt hc, Nat.add_zero]
  have h2 : A % y = c := by rw [← h, Nat.mul_comm, Nat.mul_add_mod, Nat.mod_eq_of_lt hc]
  exact ⟨h1.symm, h2.symm⟩
theorem Div_pos (hP : PrgOk P) (a b : Nat) (ha : blen a ≤ 68719476736) (hb : blen b ≤ 68719476736) (h0 : 0 < b) (h : b ≤ a) : CSpec P 27 [(.agg [.opq (.nat (a)), .pad]), (.agg [.opq (.nat (b)), .pad])] (.tup [(.agg [.opq (.nat (a / b)), .pad]), (.agg [.opq (.nat (a % b)), .pad]), .int .i64 0]) := by
  have HE := Se_ok hP
  have hb2 : (blen b == 0) = false := by
    have : blen b ≠ 0 := by rw [Ne, blen_zero_iff]; omega
    simpa using this
  have hc := cmp_ge h
  refine CSpec.cv ?_ (CvL.natIn a (CvL.natIn b .nil))
  by_cases hb1 : b < 18446744073709551616
  · by_cases ha1 : a < 18446744073709551616
    · rw [natC_small ha1, natC_small hb1]
      have hq := wu_div a b ha1
      have hr := u_mod a b
      have hqb : a / b < 18446744073709551616 := Nat.lt_of_le_of_lt (Nat.div_le_self _ _) ha1
      have hrb : a % b < 18446744073709551616 := Nat.lt_of_le_of_lt (Nat.mod_le _ _) ha1
      have e : CvL [.agg [.int .u64 ((a / b : Nat) : Int), .nils], .agg [.int .u64 ((a % b : Nat) : Int), .nils], .int .i64 0] [(.agg [.opq (.nat (a / b)), .pad]), (.agg [.opq (.nat (a % b)), .pad]), .int .i64 0] := by
        have := CvL.natOut (a / b) (CvL.natOut (a % b) (CvL.refl [.int .i64 0]))
        rwa [natC_small hqb, natC_small hrb] at this
      refine CSpec_vc (E := ⟨T0, Se⟩) (fn27 hP) HE hP.mix rfl (by first | rfl | (simp only [go_sem]; done)) (by first | rfl | (simp only [go_sem]; done)) (Nat.le_of_ble_eq_true rfl) ?_
      simp (maxSteps := 1000000) only [go_sem, Nat.reduceBEq, Nat.reduceAdd, Nat.reduceLT, Nat.reduceMul, Nat.reduceSub, Nat.reduceLeDiff, Nat.reduceEqDiff, Int.reduceToNat, Nat.reduceBeqDiff, Nat.reduceBneDiff, decide_false, and_self, List.reduceReplicate, List.flatten_cons, List.flatten_nil, true_and, and_true, eq_self, decide_true, reduceIte, reduceCtorEq, List.any_toArray, Region.binds, Int.reduceBEq, Int.reduceBNe, Int.reduceLT, ha, hb, ha1, hb1, hb2, hc, hq, hr]
      exact ⟨by omega, by omega, CvL.conv (CvL.tup e .nil)⟩
    · rw [natC_great ha1, natC_small hb1]
      have hxd : ∀ d ∈ digs 18446744073709551616 a, d < 18446744073709551616 := digs_lt 18446744073709551616 a (by decide)
      have hx := dOf_digs 18446744073709551616 a (by decide)
      have hlx := digs_len_blen a
      have hl := digs_length_gt 18446744073709551616 a 1 (by decide) (by omega)
      have hl2 : 2 ≤ (digs 18446744073709551616 a).length := by omega
      have hl3 : ((digs 18446744073709551616 a).length ≠ 0) = True := eq_true (by omega)
      refine CSpec_vc (E := ⟨T0, Se⟩) (fn27 hP) HE hP.mix rfl (by first | rfl | (simp only [go_sem]; done)) (by first | rfl | (simp only [go_sem]; done)) (Nat.le_of_ble_eq_true rfl) ?_
      simp (maxSteps := 1000000) only [go_sem, Nat.reduceBEq, Nat.reduceAdd, Nat.reduceLT, Nat.reduceMul, Nat.reduceSub, Nat.reduceLeDiff, Nat.reduceEqDiff, Int.reduceToNat, Nat.reduceBeqDiff, Nat.reduceBneDiff, decide_false, and_self, List.reduceReplicate, List.flatten_cons, List.flatten_nil, true_and, and_true, eq_self, decide_true, reduceIte, reduceCtorEq, List.any_toArray, Region.binds, Int.reduceBEq, Int.reduceBNe, Int.reduceLT, ha, hb, hb1, hb2, hc, hl2, hl3]
      generalize digs 18446744073709551616 a = x at *
      refine ⟨⟨fun _ => by omega, by omega⟩, ?_⟩
      refine short_ic hP (L := [24, 3, 2, 1, 0]) (tail := []) (w := x) (by repeat (first | exact GenM.nil | refine GenM.upd ?_ rfl (by first | rfl | exact objOnly_U | (simp only [go_sem, objOnly]; done)))) rfl (by rw [List.append_nil]; rfl) rfl (by omega) hxd hb1 h0 ?_
      intro nx w' c w1 w2 w3 w4
      have hwt : w'.take x.length = w' := List.take_of_length_le (by omega)
      have hz3 : (∀ d ∈ w', d < 18446744073709551616) = True := eq_true w2
      have hsl : x.length < 4611686018427387904 := by omega
      rw [List.append_nil]
      simp (maxSteps := 1000000) only [go_sem, Nat.reduceBEq, Nat.reduceAdd, Nat.reduceLT, Nat.reduceMul, Nat.reduceSub, Nat.reduceLeDiff, Nat.reduceEqDiff, Int.reduceToNat, Nat.reduceBeqDiff, Nat.reduceBneDiff, decide_false, and_self, List.reduceReplicate, List.flatten_cons, List.flatten_nil, true_and, and_true, eq_self, decide_true, reduceIte, reduceCtorEq, List.any_toArray, Region.binds, Int.reduceBEq, Int.reduceBNe, Int.reduceLT, hwt, hz3, w1, hsl]
      have hdm := divmod_of w4 w3
      rw [hx] at hdm
      have e : CvL [(.agg [.opq (.nat (dOf 18446744073709551616 w')), .pad]), .agg [.int .u64 ((c : Nat) : Int), .nils], .int .i64 0] [(.agg [.opq (.nat (a / b)), .pad]), (.agg [.opq (.nat (a % b)), .pad]), .int .i64 0] := by
        have := CvL.natOut c (CvL.refl [.int .i64 0])
        rw [natC_small (show c < 18446744073709551616 by omega)] at this
        rw [← hdm.2, hdm.1]
        exact CvL.agg (.refl _) this
      exact CvL.conv (CvL.tup e .nil)
  · have ha1 : ¬ a < 18446744073709551616 := by omega
    rw [natC_great ha1, natC_great hb1]
    have hxd : ∀ d ∈ digs 18446744073709551616 a, d < 18446744073709551616 := digs_lt 18446744073709551616 a (by decide)
    have hyd : ∀ d ∈ digs 18446744073709551616 b, d < 18446744073709551616 := digs_lt 18446744073709551616 b (by decide)
    have hx := dOf_digs 18446744073709551616 a (by decide)
    have hy := dOf_digs 18446744073709551616 b (by decide)
    have hlx := digs_len_blen a
    have hl := digs_length_gt 18446744073709551616 a 1 (by decide) (by omega)
    have hm := digs_length_gt 18446744073709551616 b 1 (by decide) (by omega)
    have hl2 : 2 ≤ (digs 18446744073709551616 a).length := by omega
    have hl3 : ((digs 18446744073709551616 a).length ≠ 0) = True := eq_true (by omega)
    have hm2 : 2 ≤ (digs 18446744073709551616 b).length := by omega
    have hm3 : ((digs 18446744073709551616 b).length ≠ 0) = True := eq_true (by omega)
    have hle : (digs 18446744073709551616 b).length ≤ (digs 18446744073709551616 a).length := by
      rcases Nat.lt_or_ge (digs 18446744073709551616 a).length (digs 18446744073709551616 b).length with h' | h'
      · have := digs_len_lt 18446744073709551616 a b (by decide) h'; omega
      · exact h'
    have htop := canon_last (digs_canon 18446744073709551616 b (by decide)) (by omega)
    refine CSpec_vc (E := ⟨T0, Se⟩) (fn27 hP) HE hP.mix rfl (by first | rfl | (simp only [go_sem]; done)) (by first | rfl | (simp only [go_sem]; done)) (Nat.le_of_ble_eq_true rfl) ?_
    simp (maxSteps := 1000000) only [go_sem, Nat.reduceBEq, Nat.reduceAdd, Nat.reduceLT, Nat.reduceMul, Nat.reduceSub, Nat.reduceLeDiff, Nat.reduceEqDiff, Int.reduceToNat, Nat.reduceBeqDiff, Nat.reduceBneDiff, decide_false, and_self, List.reduceReplicate, List.flatten_cons, List.flatten_nil, true_and, and_true, eq_self, decide_true, reduceIte, reduceCtorEq, List.any_toArray, Region.binds, Int.reduceBEq, Int.reduceBNe, Int.reduceLT, ha, hb, hb2, hc, hl2, hl3, hm2, hm3]
    refine ⟨⟨rfl, rfl, hxd, hyd, hm2, hle, by omega, htop⟩, ?_⟩
    exact .refl _
theorem Div_spec (hP : PrgOk P) (a b : Nat) (ha : blen a ≤ 68719476736) (hb : blen b ≤ 68719476736) (h0 : 0 < b) : CSpec P 27 [(.agg [.opq (.nat (a)), .pad]), (.agg [.opq (.nat (b)), .pad])] (.tup [(.agg [.opq (.nat (a / b)), .pad]), (.agg [.opq (.nat (a % b)), .pad]), .int .i64 0]) := by
  rcases Nat.lt_or_ge a b with h | h
  · rw [Nat.div_eq_of_lt h, Nat.mod_eq_of_lt h]; exact Div_less hP a b ha hb h
  · exact Div_pos hP a b ha hb h0 h
def DivS : List AV → Option (Prop × AV) := on2 fun a b => (blen a ≤ 68719476736 ∧ blen b ≤ 68719476736, if b = 0 then .tup [(.agg [.opq (.nat (0)), .pad]), (.agg [.opq (.nat (0)), .pad]), .int .i64 11] else .tup [(.agg [.opq (.nat (a / b)), .pad]), (.agg [.opq (.nat (a % b)), .pad]), .int .i64 0])
theorem DivS_ok (hP : PrgOk P) (args p r) : DivS args = some (p, r) → p → CSpec P 27 args r := on2_ok (fun a b h => by
  by_cases hb : b = 0
  · subst hb; simp only [if_pos]; exact Div_zero hP a
  · simp only [if_neg hb]; exact Div_spec hP a b h.1 h.2 (by omega)) args p r
attribute [go_sem] DivS
end Go.Proofs.Ytlgimmafejbmgaa.AM
