/- The document's numbers: made, told, measured, compared. -/
import Derived.Test.YtlgimmafejbmgaaRa
namespace Go.Proofs.Ytlgimmafejbmgaa.AM
set_option linter.all false
set_option autoImplicit true
set_option relaxedAutoImplicit true
open Go Go.Proofs
set_option maxRecDepth 100000
set_option maxHeartbeats 8000000
set_option linter.unusedSimpArgs false
variable {P : Program}

structure RS where
  m : Nat
  D : OD
  k : Nat
  o : List Nat
theorem conv_nilR : Conv .nils (.imm (digs 65536 (0)).length (List.map (fun d : Nat => AV.int .u32 (d : Int)) (digs 65536 (0)))) := by
  have e : digs 65536 0 = [] := digs_zero _
  rw [e]; exact CvL.conv (.nilR .nil)
theorem rof_step {n D p m : Nat} (h : n = D + p * m) : n = D + p * (m % 65536) + p * 65536 * (m / 65536) := by
  rw [h, Nat.mul_assoc, Nat.add_assoc, ← Nat.mul_add, Nat.mod_add_div]
theorem dOf_snocR (l : List Nat) (s : Nat) : dOf 65536 (l ++ [s]) = dOf 65536 l + 65536 ^ l.length * s := by
  rw [dOf_append]; simp [dOf]
theorem canon_snoc (l : List Nat) (s : Nat) (h : s ≠ 0) : Canon (l ++ [s]) := fun _ => by simpa using h
theorem rOf_spec (hP : PrgOk P) (n : Nat) (hn : n < 18446744073709551616) : CSpec P 19 [.int .u64 (n : Int)] (.imm (digs 65536 (n)).length (List.map (fun d : Nat => AV.int .u32 (d : Int)) (digs 65536 (n)))) := by
  have HE := Sj_ok hP
  refine CSpec_vc (E := ⟨T0, Sj⟩) (fn19 hP) HE hP.mix rfl (by first | rfl | (simp only [go_sem]; done)) (by first | rfl | (simp only [go_sem]; done)) (Nat.le_of_ble_eq_true rfl) ?_
  simp (maxSteps := 1000000) only [go_sem, Nat.reduceBEq, Nat.reduceAdd, Nat.reduceLT, Nat.reduceMul, Nat.reduceSub, Nat.reduceLeDiff, Nat.reduceEqDiff, Int.reduceToNat, Nat.reduceBeqDiff, Nat.reduceBneDiff, decide_false, and_self, List.reduceReplicate, List.flatten_cons, List.flatten_nil, true_and, and_true, eq_self, decide_true, reduceIte, reduceCtorEq, List.any_toArray, Region.binds, Int.reduceBEq, Int.reduceBNe, Int.reduceLT]
  refine trX_loopV HE hP.mix (fun q : RS => oL [] q.D) (fun q => ⟨upd (upd (upd (fun _ => .junk) 0 (.int .u64 (q.m : Int))) 2 .nils) 3 (oV q.D q.k), oM .u32 (fun _ => .unused) q.D q.o, 15⟩)
    (fun q => q.m ≤ n ∧ q.o.length = q.k ∧ (∀ d ∈ q.o, d < 65536) ∧ n = dOf 65536 q.o + 65536 ^ q.k * q.m ∧ (q.m = 0 → Canon q.o) ∧ (q.D = none → q.o = [] ∧ q.k = 0) ∧ (∀ b, q.D ≠ some (true, b))) (fun q => q.m) ⟨n, none, 0, []⟩ (fun q => pX 7 q.D)
    (fun x r hr => absurd rfl hr) (Kept.of rfl (by repeat (first | exact KT.nil | refine KT.upd rfl (by first | rfl | exact hr | exact hr2 | (simp only [go_sem]; done)) ?_)) (KM.p (by repeat (first | exact KMp.nil | refine KMp.upd rfl (by first | rfl | (simp only [go_sem]; done)) ?_)))) ⟨Nat.le_refl _, rfl, by simp, by simp [dOf], fun _ h => absurd rfl h, fun _ => ⟨rfl, rfl⟩, by simp⟩ 15 (by kernel_rfl) ?_
  rintro ⟨m, D, k, o⟩ ⟨h1, h2, h3, h4, h5, h6, h7⟩
  simp only [] at h1 h2 h3 h4 h5 h6 h7
  by_cases hm0 : 0 < m
  · have g1 : (m : Int).tmod 65536 = ((m % 65536 : Nat) : Int) := rfl
    have g2 : IntKind.u32.wrap ((m % 65536 : Nat) : Int) = ((m % 65536 : Nat) : Int) := by rw [IntKind.wrap_u32]; omega
    have g3 : IntKind.u64.wrap ((m : Int).tdiv 65536) = ((m / 65536 : Nat) : Int) := wu_div m 65536 (by omega)
    have hk4 : k < 4 := by
      have : 65536 ^ k * 1 ≤ 65536 ^ k * m := Nat.mul_le_mul_left _ hm0
      refine (Nat.pow_lt_pow_iff_right (a := 65536) (by decide)).1 ?_
      have e : (65536 : Nat) ^ 4 = 18446744073709551616 := by decide
      omega
    have hst : ∀ o'', o'' = o ++ [m % 65536] → o''.length = k + 1 ∧ (∀ d ∈ o'', d < 65536) ∧ n = dOf 65536 o'' + 65536 ^ (k + 1) * (m / 65536) ∧ (m / 65536 = 0 → Canon o'') := fun o'' e => by
      subst e
      refine ⟨by simp [h2], fun d hd => ?_, ?_, fun e => canon_snoc _ _ (by omega)⟩
      · rcases List.mem_append.1 hd with hd | hd
        · exact h3 d hd
        · rw [List.mem_singleton.1 hd]; omega
      · rw [dOf_snocR, h2, Nat.pow_succ]; exact rof_step h4
    have c2 : (k + 1) * 4 ≤ 1099511627776 := by omega
    rcases D with _ | ⟨_ | _, _ | _⟩
    · simp only [oV, oM, oNum, pX]
      simp (maxSteps := 1000000) only [go_sem, Nat.reduceBEq, Nat.reduceAdd, Nat.reduceLT, Nat.reduceMul, Nat.reduceSub, Nat.reduceLeDiff, Nat.reduceEqDiff, Int.reduceToNat, Nat.reduceBeqDiff, Nat.reduceBneDiff, decide_false, and_self, List.reduceReplicate, List.flatten_cons, List.flatten_nil, true_and, and_true, eq_self, decide_true, reduceIte, reduceCtorEq, List.any_toArray, Region.binds, Int.reduceBEq, Int.reduceBNe, Int.reduceLT, hm0, g1, g2, g3, map_snoc, h2, c2]
      obtain ⟨e1, e2⟩ := h6 rfl
      subst e1
      subst e2
      obtain ⟨y1, y2, y3, y4⟩ := hst [m % 65536] rfl
      exact ⟨by decide, ⟨by simp, fun _ => trivial⟩, by decide, ⟨m / 65536, some (false, false), 1, [m % 65536]⟩, Kept.of rfl (by repeat (first | exact KT.nil | refine KT.upd rfl (by first | rfl | exact hr | exact hr2 | (simp only [go_sem]; done)) ?_)) (KM.p (by repeat (first | exact KMp.nil | refine KMp.upd rfl (by first | rfl | (simp only [go_sem]; done)) ?_))), ⟨by simp only []; omega, y1, y2, y3, y4, by simp, by simp⟩, by simp only []; omega⟩
    · simp only [oV, oM, oNum, pX]
      simp (maxSteps := 1000000) only [go_sem, Nat.reduceBEq, Nat.reduceAdd, Nat.reduceLT, Nat.reduceMul, Nat.reduceSub, Nat.reduceLeDiff, Nat.reduceEqDiff, Int.reduceToNat, Nat.reduceBeqDiff, Nat.reduceBneDiff, decide_false, and_self, List.reduceReplicate, List.flatten_cons, List.flatten_nil, true_and, and_true, eq_self, decide_true, reduceIte, reduceCtorEq, List.any_toArray, Region.binds, Int.reduceBEq, Int.reduceBNe, Int.reduceLT, hm0, g1, g2, g3, map_snoc, h2, c2]
      obtain ⟨y1, y2, y3, y4⟩ := hst _ rfl
      exact ⟨by decide, ⟨by simp, by simp⟩, by decide, ⟨m / 65536, some (false, true), k + 1, o ++ [m % 65536]⟩, Kept.of rfl (by repeat (first | exact KT.nil | refine KT.upd rfl (by first | rfl | exact hr | exact hr2 | (simp only [go_sem]; done)) ?_)) (KM.p (by repeat (first | exact KMp.nil | refine KMp.upd rfl (by first | rfl | (simp only [go_sem]; done)) ?_))), ⟨by simp only []; omega, y1, y2, y3, y4, by simp, by simp⟩, by simp only []; omega⟩
    · simp only [oV, oM, oNum, pX]
      simp (maxSteps := 1000000) only [go_sem, Nat.reduceBEq, Nat.reduceAdd, Nat.reduceLT, Nat.reduceMul, Nat.reduceSub, Nat.reduceLeDiff, Nat.reduceEqDiff, Int.reduceToNat, Nat.reduceBeqDiff, Nat.reduceBneDiff, decide_false, and_self, List.reduceReplicate, List.flatten_cons, List.flatten_nil, true_and, and_true, eq_self, decide_true, reduceIte, reduceCtorEq, List.any_toArray, Region.binds, Int.reduceBEq, Int.reduceBNe, Int.reduceLT, hm0, g1, g2, g3, map_snoc, h2, c2]
      obtain ⟨y1, y2, y3, y4⟩ := hst _ rfl
      exact ⟨by decide, ⟨by simp, by simp⟩, by decide, ⟨m / 65536, some (false, false), k + 1, o ++ [m % 65536]⟩, Kept.of rfl (by repeat (first | exact KT.nil | refine KT.upd rfl (by first | rfl | exact hr | exact hr2 | (simp only [go_sem]; done)) ?_)) (KM.p (by repeat (first | exact KMp.nil | refine KMp.upd rfl (by first | rfl | (simp only [go_sem]; done)) ?_))), ⟨by simp only []; omega, y1, y2, y3, y4, by simp, by simp⟩, by simp only []; omega⟩
    · exact absurd rfl (h7 false)
    · exact absurd rfl (h7 true)
  · have hm : m = 0 := by omega
    subst hm
    have hn' : dOf 65536 o = n := by rw [h4]; simp
    have hd : digs 65536 n = o := by rw [← hn']; exact digs_dOf 65536 (by decide) o h3 (h5 rfl)
    have htk : o.take k = o := List.take_of_length_le (by omega)
    rw [hd]
    rcases D with _ | ⟨_ | _, _ | _⟩
    · obtain ⟨e1, e2⟩ := h6 rfl
      subst e1
      simp only [oV, oM, oNum]
      simp (maxSteps := 1000000) only [go_sem, Nat.reduceBEq, Nat.reduceAdd, Nat.reduceLT, Nat.reduceMul, Nat.reduceSub, Nat.reduceLeDiff, Nat.reduceEqDiff, Int.reduceToNat, Nat.reduceBeqDiff, Nat.reduceBneDiff, decide_false, and_self, List.reduceReplicate, List.flatten_cons, List.flatten_nil, true_and, and_true, eq_self, decide_true, reduceIte, reduceCtorEq, List.any_toArray, Region.binds, Int.reduceBEq, Int.reduceBNe, Int.reduceLT, hm0]
      exact CvL.conv (.nilR .nil)
    · simp only [oV, oM, oNum]
      simp (maxSteps := 1000000) only [go_sem, Nat.reduceBEq, Nat.reduceAdd, Nat.reduceLT, Nat.reduceMul, Nat.reduceSub, Nat.reduceLeDiff, Nat.reduceEqDiff, Int.reduceToNat, Nat.reduceBeqDiff, Nat.reduceBneDiff, decide_false, and_self, List.reduceReplicate, List.flatten_cons, List.flatten_nil, true_and, and_true, eq_self, decide_true, reduceIte, reduceCtorEq, List.any_toArray, Region.binds, Int.reduceBEq, Int.reduceBNe, Int.reduceLT, hm0, htk, h2]
      exact .refl _
    · simp only [oV, oM, oNum]
      simp (maxSteps := 1000000) only [go_sem, Nat.reduceBEq, Nat.reduceAdd, Nat.reduceLT, Nat.reduceMul, Nat.reduceSub, Nat.reduceLeDiff, Nat.reduceEqDiff, Int.reduceToNat, Nat.reduceBeqDiff, Nat.reduceBneDiff, decide_false, and_self, List.reduceReplicate, List.flatten_cons, List.flatten_nil, true_and, and_true, eq_self, decide_true, reduceIte, reduceCtorEq, List.any_toArray, Region.binds, Int.reduceBEq, Int.reduceBNe, Int.reduceLT, hm0, htk, h2]
      exact .refl _
    · exact absurd rfl (h7 false)
    · exact absurd rfl (h7 true)
def rOfS : List AV → Option (Prop × AV)
  | [.int .u64 n] => some (0 ≤ n ∧ n < 18446744073709551616, (.imm (digs 65536 (n.toNat)).length (List.map (fun d : Nat => AV.int .u32 (d : Int)) (digs 65536 (n.toNat)))))
  | _ => none
theorem rOfS_ok (hP : PrgOk P) (args p r) (h : rOfS args = some (p, r)) (hp : p) : CSpec P 19 args r := by
  unfold rOfS at h
  split at h
  · simp only [Option.some.injEq, Prod.mk.injEq] at h
    obtain ⟨rfl, rfl⟩ := h
    rename_i n
    have := rOf_spec hP n.toNat (by omega)
    rw [nn hp.1] at this; exact this
  · simp at h
attribute [go_sem] rOfS

theorem len4 (a : Nat) : 4 < (digs 65536 a).length ↔ ¬ a < 18446744073709551616 := by
  constructor
  · intro h hlt
    have := digs_length_le 65536 a 4 (by decide) (by rw [show (65536 : Nat) ^ 4 = 18446744073709551616 by decide]; exact hlt)
    omega
  · intro h
    exact digs_length_gt 65536 a 4 (by decide) (by rw [show (65536 : Nat) ^ 4 = 18446744073709551616 by decide]; omega)
theorem Small_spec (hP : PrgOk P) (a : Nat) (hl : (digs 65536 a).length ≤ 1099511627776) : CSpec P 14 [(.imm (digs 65536 (a)).length (List.map (fun d : Nat => AV.int .u32 (d : Int)) (digs 65536 (a))))] (.tup [.int .u64 ((if a < 18446744073709551616 then a else 0 : Nat) : Int), .bool (decide (a < 18446744073709551616))]) := by
  have HE := Sj_ok hP
  have hxd : ∀ d ∈ digs 65536 a, d < 65536 := digs_lt 65536 a (by decide)
  have hx := dOf_digs 65536 a (by decide)
  have h4 := len4 a
  refine CSpec_vc (E := ⟨T0, Sj⟩) (fn14 hP) HE hP.mix rfl (by first | rfl | (simp only [go_sem]; done)) (by first | rfl | (simp only [go_sem]; done)) (Nat.le_of_ble_eq_true rfl) ?_
  generalize digs 65536 a = x at *
  by_cases hb : a < 18446744073709551616
  · have hx4 : ¬ 4 < x.length := fun h => (h4.1 h) hb
    have hwp := wi_pred' x.length (by omega)
    rw [if_pos hb, decide_eq_true hb]
    simp (maxSteps := 1000000) only [go_sem, Nat.reduceBEq, Nat.reduceAdd, Nat.reduceLT, Nat.reduceMul, Nat.reduceSub, Nat.reduceLeDiff, Nat.reduceEqDiff, Int.reduceToNat, Nat.reduceBeqDiff, Nat.reduceBneDiff, decide_false, and_self, List.reduceReplicate, List.flatten_cons, List.flatten_nil, true_and, and_true, eq_self, decide_true, reduceIte, reduceCtorEq, List.any_toArray, Region.binds, Int.reduceBEq, Int.reduceBNe, Int.reduceLT, hx4, hwp]
    refine trX_loop HE hP.mix [] (fun q : Nat × Nat => ⟨upd (upd (upd (upd (upd (fun _ => .junk) 0 (.imm x.length (List.map (fun d : Nat => AV.int .u32 (d : Int)) (x)))) 2 (.int .u64 0)) 3 (.bool false)) 4 (.int .u64 (q.2 : Int))) 5 (.int .i64 ((q.1 : Int) - 1)), fun _ => .unused, 25⟩)
      (fun q => q.1 ≤ x.length ∧ q.2 = dOf 65536 (x.drop q.1)) (fun q => q.1) (x.length, 0) 20 (by repeat (first | exact Has.nil | refine Has.upd rfl ?_)) (Kept.of rfl (by repeat (first | exact KT.nil | refine KT.upd rfl (by first | rfl | exact hr | exact hr2 | (simp only [go_sem]; done)) ?_)) (KM.p (by repeat (first | exact KMp.nil | refine KMp.upd rfl (by first | rfl | (simp only [go_sem]; done)) ?_)))) ⟨Nat.le_refl _, by simp [dOf]⟩ 25 (by kernel_rfl) ?_
    rintro ⟨k, c⟩ ⟨q1, q2⟩
    simp only [] at q1 q2
    cases k with
    | zero =>
      have h0 : ((0 : Int) ≤ ((0 : Nat) : Int) - 1) = False := by simp
      simp (maxSteps := 1000000) only [go_sem, Nat.reduceBEq, Nat.reduceAdd, Nat.reduceLT, Nat.reduceMul, Nat.reduceSub, Nat.reduceLeDiff, Nat.reduceEqDiff, Int.reduceToNat, Nat.reduceBeqDiff, Nat.reduceBneDiff, decide_false, and_self, List.reduceReplicate, List.flatten_cons, List.flatten_nil, true_and, and_true, eq_self, decide_true, reduceIte, reduceCtorEq, List.any_toArray, Region.binds, Int.reduceBEq, Int.reduceBNe, Int.reduceLT, h0]
      rw [q2, List.drop_zero, hx]; exact .refl _
    | succ k =>
      have hk : k < x.length := by omega
      have hk2 : k ≤ x.length := by omega
      have hdk := hxd _ (getD_mem hk)
      have hdr := drop_cons hk
      have hwk := wi_pred' k (by omega)
      have hc : c < 65536 ^ 3 := by
        rw [q2]
        refine Nat.lt_of_lt_of_le (dOf_lt 65536 _ (fun d hd => hxd d (List.mem_of_mem_drop hd))) (Nat.pow_le_pow_right (by decide) ?_)
        rw [List.length_drop]; omega
      have e3 : (65536 : Nat) ^ 3 = 281474976710656 := by decide
      have f1 : IntKind.u64.wrap ((c : Int) * 65536) = ((c * 65536 : Nat) : Int) := by rw [IntKind.wrap_u64]; omega
      have f2 := u_nat (x.getD k 0) (by omega)
      have f3 := wu_add' (c * 65536) (x.getD k 0) (by omega)
      simp (maxSteps := 1000000) only [go_sem, Nat.reduceBEq, Nat.reduceAdd, Nat.reduceLT, Nat.reduceMul, Nat.reduceSub, Nat.reduceLeDiff, Nat.reduceEqDiff, Int.reduceToNat, Nat.reduceBeqDiff, Nat.reduceBneDiff, decide_false, and_self, List.reduceReplicate, List.flatten_cons, List.flatten_nil, true_and, and_true, eq_self, decide_true, reduceIte, reduceCtorEq, List.any_toArray, Region.binds, Int.reduceBEq, Int.reduceBNe, Int.reduceLT, hk, hk2, gU' hk, f1, f2, f3, hwk]
      exact ⟨(k, c * 65536 + x.getD k 0), Kept.of rfl (by repeat (first | exact KT.nil | refine KT.upd rfl (by first | rfl | exact hr | exact hr2 | (simp only [go_sem]; done)) ?_)) (KM.p (by repeat (first | exact KMp.nil | refine KMp.upd rfl (by first | rfl | (simp only [go_sem]; done)) ?_))), ⟨by simp only []; omega, by simp only []; rw [hdr]; simp only [dOf]; omega⟩, by simp only []; omega⟩
  · have hx4 : 4 < x.length := h4.2 hb
    rw [if_neg hb, decide_eq_false hb]
    simp (maxSteps := 1000000) only [go_sem, Nat.reduceBEq, Nat.reduceAdd, Nat.reduceLT, Nat.reduceMul, Nat.reduceSub, Nat.reduceLeDiff, Nat.reduceEqDiff, Int.reduceToNat, Nat.reduceBeqDiff, Nat.reduceBneDiff, decide_false, and_self, List.reduceReplicate, List.flatten_cons, List.flatten_nil, true_and, and_true, eq_self, decide_true, reduceIte, reduceCtorEq, List.any_toArray, Region.binds, Int.reduceBEq, Int.reduceBNe, Int.reduceLT, hx4]
    exact .refl _
def SmallS : List AV → Option (Prop × AV) := onR1 fun a => ((digs 65536 a).length ≤ 1099511627776, .tup [.int .u64 ((if a < 18446744073709551616 then a else 0 : Nat) : Int), .bool (decide (a < 18446744073709551616))])
theorem SmallS_ok (hP : PrgOk P) (args p r) : SmallS args = some (p, r) → p → CSpec P 14 args r := onR1_ok (fun a h => by exact Small_spec hP a h) args p r
attribute [go_sem] SmallS
theorem two16 (k : Nat) : 65536 ^ k = 2 ^ (16 * k) := by rw [Nat.pow_mul]
theorem blen_digs16 (a : Nat) (h : a ≠ 0) : blen a = 16 * ((digs 65536 a).length - 1) + blen ((digs 65536 a).getD ((digs 65536 a).length - 1) 0) := by
  have hpos : 0 < (digs 65536 a).length := by rw [digs_eq _ _ (by decide) h]; simp
  have hc := canon_last (digs_canon 65536 a (by decide)) hpos
  have hlt := digs_lt 65536 a (by decide)
  have e := dOf_last 65536 _ hpos
  rw [dOf_digs _ _ (by decide), two16] at e
  have hr := dOf_lt 65536 ((digs 65536 a).take ((digs 65536 a).length - 1)) (fun d hd => hlt d (List.mem_of_mem_take hd))
  rw [List.length_take, Nat.min_eq_left (by omega), two16] at hr
  conv => lhs; rw [e]
  exact blen_top _ _ _ hc hr
theorem rlen_blen (a : Nat) : (digs 65536 a).length ≤ blen a := by
  refine digs_length_le 65536 a (blen a) (by decide) (Nat.lt_of_lt_of_le (blen_lt a) (Nat.pow_le_pow_left (by decide) _))
theorem blen_half {d : Nat} (h : 0 < d) : blen d = blen (d / 2) + 1 := by
  have e : d = d % 2 + 2 ^ 1 * (d / 2) := by omega
  by_cases h2 : d / 2 = 0
  · have : d = 1 := by omega
    subst this; decide
  · have := blen_top 1 (d / 2) (d % 2) h2 (by omega)
    rw [← e] at this; omega
theorem rBits_spec (hP : PrgOk P) (a : Nat) (hb : blen a ≤ 68719476736) : CSpec P 17 [(.imm (digs 65536 (a)).length (List.map (fun d : Nat => AV.int .u32 (d : Int)) (digs 65536 (a))))] (.int .i64 (blen a : Nat)) := by
  have HE := Sj_ok hP
  have hxd : ∀ d ∈ digs 65536 a, d < 65536 := digs_lt 65536 a (by decide)
  have hlb := rlen_blen a
  rcases Nat.eq_zero_or_pos a with h0 | h0
  · subst h0
    have e : digs 65536 0 = [] := digs_zero _
    have e2 : blen 0 = 0 := by decide
    rw [e2]
    refine CSpec_vc (E := ⟨T0, Sj⟩) (fn17 hP) HE hP.mix rfl (by first | rfl | (simp only [go_sem]; done)) (by first | rfl | (simp only [go_sem]; done)) (Nat.le_of_ble_eq_true rfl) ?_
    simp (maxSteps := 1000000) only [go_sem, Nat.reduceBEq, Nat.reduceAdd, Nat.reduceLT, Nat.reduceMul, Nat.reduceSub, Nat.reduceLeDiff, Nat.reduceEqDiff, Int.reduceToNat, Nat.reduceBeqDiff, Nat.reduceBneDiff, decide_false, and_self, List.reduceReplicate, List.flatten_cons, List.flatten_nil, true_and, and_true, eq_self, decide_true, reduceIte, reduceCtorEq, List.any_toArray, Region.binds, Int.reduceBEq, Int.reduceBNe, Int.reduceLT, e]
    exact .refl _
  · have hbd := blen_digs16 a (by omega)
    refine CSpec_vc (E := ⟨T0, Sj⟩) (fn17 hP) HE hP.mix rfl (by first | rfl | (simp only [go_sem]; done)) (by first | rfl | (simp only [go_sem]; done)) (Nat.le_of_ble_eq_true rfl) ?_
    obtain ⟨k, hk⟩ : ∃ k, (digs 65536 a).length = k + 1 := by
      have : 0 < (digs 65536 a).length := by rw [digs_eq _ _ (by decide) (by omega)]; simp
      exact ⟨(digs 65536 a).length - 1, by omega⟩
    rw [hk]
    rw [hk, Nat.add_sub_cancel] at hbd
    generalize digs 65536 a = x at *
    have hkl : k < x.length := by omega
    have hkl2 : k ≤ x.length := by omega
    have hkk : k < k + 1 := by omega
    have hkk2 : k ≤ k + 1 := by omega
    have h1 := wi_nat k (by omega)
    have h2 : IntKind.i64.wrap (16 * (k : Int)) = ((16 * k : Nat) : Int) := by rw [IntKind.wrap_i64]; omega
    have h3 : (k + 1 == 0) = false := by simp
    have hd1 := hxd _ (getD_mem hkl)
    simp (maxSteps := 1000000) only [go_sem, Nat.reduceBEq, Nat.reduceAdd, Nat.reduceLT, Nat.reduceMul, Nat.reduceSub, Nat.reduceLeDiff, Nat.reduceEqDiff, Int.reduceToNat, Nat.reduceBeqDiff, Nat.reduceBneDiff, decide_false, and_self, List.reduceReplicate, List.flatten_cons, List.flatten_nil, true_and, and_true, eq_self, decide_true, reduceIte, reduceCtorEq, List.any_toArray, Region.binds, Int.reduceBEq, Int.reduceBNe, Int.reduceLT, h1, h2, h3, hkl, hkl2, hkk, hkk2, gU' hkl]
    refine trX_loop HE hP.mix [] (fun q : Nat × Nat => ⟨upd (upd (upd (fun _ => .junk) 2 (.int .i64 0)) 3 (.int .i64 (q.1 : Int))) 4 (.int .u32 (q.2 : Int)), fun _ => .unused, 25⟩)
      (fun q => q.2 < 65536 ∧ q.1 + blen q.2 = blen a) (fun q => q.2) (16 * k, x.getD k 0) 20 (by repeat (first | exact Has.nil | refine Has.upd rfl ?_)) (Kept.of rfl (by repeat (first | exact KT.nil | refine KT.upd rfl (by first | rfl | exact hr | exact hr2 | (simp only [go_sem]; done)) ?_)) (KM.p (by repeat (first | exact KMp.nil | refine KMp.upd rfl (by first | rfl | (simp only [go_sem]; done)) ?_)))) ⟨hd1, hbd.symm⟩ 25 (by kernel_rfl) ?_
    rintro ⟨c, d⟩ ⟨q1, q2⟩
    simp only [] at q1 q2
    by_cases hd : 0 < d
    · have f1 := wi_add1 c (by omega)
      have f2 : IntKind.u32.wrap ((d : Int).tdiv 2) = ((d / 2 : Nat) : Int) := by
        rw [show (d : Int).tdiv 2 = ((d / 2 : Nat) : Int) from rfl, IntKind.wrap_u32]; omega
      have f3 := blen_half hd
      simp (maxSteps := 1000000) only [go_sem, Nat.reduceBEq, Nat.reduceAdd, Nat.reduceLT, Nat.reduceMul, Nat.reduceSub, Nat.reduceLeDiff, Nat.reduceEqDiff, Int.reduceToNat, Nat.reduceBeqDiff, Nat.reduceBneDiff, decide_false, and_self, List.reduceReplicate, List.flatten_cons, List.flatten_nil, true_and, and_true, eq_self, decide_true, reduceIte, reduceCtorEq, List.any_toArray, Region.binds, Int.reduceBEq, Int.reduceBNe, Int.reduceLT, hd, f1, f2]
      exact ⟨by decide, (c + 1, d / 2), Kept.of rfl (by repeat (first | exact KT.nil | refine KT.upd rfl (by first | rfl | exact hr | exact hr2 | (simp only [go_sem]; done)) ?_)) (KM.p (by repeat (first | exact KMp.nil | refine KMp.upd rfl (by first | rfl | (simp only [go_sem]; done)) ?_))), ⟨by simp only []; omega, by simp only []; omega⟩, by simp only []; omega⟩
    · have hd0 : d = 0 := by omega
      have e2 : blen 0 = 0 := by decide
      rw [hd0, e2, Nat.add_zero] at q2
      simp (maxSteps := 1000000) only [go_sem, Nat.reduceBEq, Nat.reduceAdd, Nat.reduceLT, Nat.reduceMul, Nat.reduceSub, Nat.reduceLeDiff, Nat.reduceEqDiff, Int.reduceToNat, Nat.reduceBeqDiff, Nat.reduceBneDiff, decide_false, and_self, List.reduceReplicate, List.flatten_cons, List.flatten_nil, true_and, and_true, eq_self, decide_true, reduceIte, reduceCtorEq, List.any_toArray, Region.binds, Int.reduceBEq, Int.reduceBNe, Int.reduceLT, hd]
      rw [q2]; exact .refl _
def rBitsS : List AV → Option (Prop × AV) := onR1 fun a => (blen a ≤ 68719476736, .int .i64 (blen a : Nat))
theorem rBitsS_ok (hP : PrgOk P) (args p r) : rBitsS args = some (p, r) → p → CSpec P 17 args r := onR1_ok (fun a h => by exact rBits_spec hP a h) args p r
attribute [go_sem] rBitsS

theorem rCmp_spec (hP : PrgOk P) (a b : Nat) (ha : blen a ≤ 68719476736) (hb : blen b ≤ 68719476736) : CSpec P 34 [(.imm (digs 65536 (a)).length (List.map (fun d : Nat => AV.int .u32 (d : Int)) (digs 65536 (a)))), (.imm (digs 65536 (b)).length (List.map (fun d : Nat => AV.int .u32 (d : Int)) (digs 65536 (b))))] (.int .i64 (cmpI a b)) := by
  have HE := Sj_ok hP
  have hxd : ∀ d ∈ digs 65536 a, d < 65536 := digs_lt 65536 a (by decide)
  have hyd : ∀ d ∈ digs 65536 b, d < 65536 := digs_lt 65536 b (by decide)
  have hx := dOf_digs 65536 a (by decide)
  have hy := dOf_digs 65536 b (by decide)
  have hlx := rlen_blen a
  have hly := rlen_blen b
  have hlt := digs_len_lt 65536 a b (by decide)
  have hgt := digs_len_lt 65536 b a (by decide)
  refine CSpec_vc (E := ⟨T0, Sj⟩) (fn34 hP) HE hP.mix rfl (by first | rfl | (simp only [go_sem]; done)) (by first | rfl | (simp only [go_sem]; done)) (Nat.le_of_ble_eq_true rfl) ?_
  generalize digs 65536 a = x at *
  generalize digs 65536 b = y at *
  simp (maxSteps := 1000000) only [go_sem, Nat.reduceBEq, Nat.reduceAdd, Nat.reduceLT, Nat.reduceMul, Nat.reduceSub, Nat.reduceLeDiff, Nat.reduceEqDiff, Int.reduceToNat, Nat.reduceBeqDiff, Nat.reduceBneDiff, decide_false, and_self, List.reduceReplicate, List.flatten_cons, List.flatten_nil, true_and, and_true, eq_self, decide_true, reduceIte, reduceCtorEq, List.any_toArray, Region.binds, Int.reduceBEq, Int.reduceBNe, Int.reduceLT]
  refine if_split (fun h => ?_) (fun h => ?_)
  · simp (maxSteps := 1000000) only [go_sem, Nat.reduceBEq, Nat.reduceAdd, Nat.reduceLT, Nat.reduceMul, Nat.reduceSub, Nat.reduceLeDiff, Nat.reduceEqDiff, Int.reduceToNat, Nat.reduceBeqDiff, Nat.reduceBneDiff, decide_false, and_self, List.reduceReplicate, List.flatten_cons, List.flatten_nil, true_and, and_true, eq_self, decide_true, reduceIte, reduceCtorEq, List.any_toArray, Region.binds, Int.reduceBEq, Int.reduceBNe, Int.reduceLT]
    refine if_split (fun h => ?_) (fun h' => ?_)
    · simp (maxSteps := 1000000) only [go_sem, Nat.reduceBEq, Nat.reduceAdd, Nat.reduceLT, Nat.reduceMul, Nat.reduceSub, Nat.reduceLeDiff, Nat.reduceEqDiff, Int.reduceToNat, Nat.reduceBeqDiff, Nat.reduceBneDiff, decide_false, and_self, List.reduceReplicate, List.flatten_cons, List.flatten_nil, true_and, and_true, eq_self, decide_true, reduceIte, reduceCtorEq, List.any_toArray, Region.binds, Int.reduceBEq, Int.reduceBNe, Int.reduceLT]
      rw [cmpI_lt (hlt (of_decide_eq_true h))]; exact .refl _
    · simp (maxSteps := 1000000) only [go_sem, Nat.reduceBEq, Nat.reduceAdd, Nat.reduceLT, Nat.reduceMul, Nat.reduceSub, Nat.reduceLeDiff, Nat.reduceEqDiff, Int.reduceToNat, Nat.reduceBeqDiff, Nat.reduceBneDiff, decide_false, and_self, List.reduceReplicate, List.flatten_cons, List.flatten_nil, true_and, and_true, eq_self, decide_true, reduceIte, reduceCtorEq, List.any_toArray, Region.binds, Int.reduceBEq, Int.reduceBNe, Int.reduceLT]
      have h' := of_decide_eq_false h'
      have h : x.length ≠ y.length := by simpa using h
      rw [cmpI_gt (hgt (by omega))]; exact .refl _
  · have hxy : y.length = x.length := by simpa using Eq.symm (by simpa using h)
    have hw := wi_pred' x.length (by omega)
    simp (maxSteps := 1000000) only [go_sem, Nat.reduceBEq, Nat.reduceAdd, Nat.reduceLT, Nat.reduceMul, Nat.reduceSub, Nat.reduceLeDiff, Nat.reduceEqDiff, Int.reduceToNat, Nat.reduceBeqDiff, Nat.reduceBneDiff, decide_false, and_self, List.reduceReplicate, List.flatten_cons, List.flatten_nil, true_and, and_true, eq_self, decide_true, reduceIte, reduceCtorEq, List.any_toArray, Region.binds, Int.reduceBEq, Int.reduceBNe, Int.reduceLT, hw]
    refine trX_loop HE hP.mix [] (fun k : Nat => ⟨upd (upd (upd (upd (fun _ => .junk) 0 (.imm x.length (List.map (fun d : Nat => AV.int .u32 (d : Int)) (x)))) 1 (.imm y.length (List.map (fun d : Nat => AV.int .u32 (d : Int)) (y)))) 4 (.int .i64 0)) 5 (.int .i64 ((k : Int) - 1)), fun _ => .unused, 41⟩) (fun k => k ≤ x.length ∧ x.drop k = y.drop k) (fun k => k) x.length 2
      (by repeat (first | exact Has.nil | refine Has.upd rfl ?_)) (Kept.of rfl (by repeat (first | exact KT.nil | refine KT.upd rfl (by first | rfl | exact hr | exact hr2 | (simp only [go_sem]; done)) ?_)) (KM.p (by repeat (first | exact KMp.nil | refine KMp.upd rfl (by first | rfl | (simp only [go_sem]; done)) ?_)))) ⟨Nat.le_refl _, by rw [List.drop_length, ← hxy, List.drop_length]⟩ 41 (by kernel_rfl) ?_
    intro k ⟨hk, he⟩
    cases k with
    | zero =>
      have h0 : ((0 : Int) ≤ ((0 : Nat) : Int) - 1) = False := by simp
      simp (maxSteps := 1000000) only [go_sem, Nat.reduceBEq, Nat.reduceAdd, Nat.reduceLT, Nat.reduceMul, Nat.reduceSub, Nat.reduceLeDiff, Nat.reduceEqDiff, Int.reduceToNat, Nat.reduceBeqDiff, Nat.reduceBneDiff, decide_false, and_self, List.reduceReplicate, List.flatten_cons, List.flatten_nil, true_and, and_true, eq_self, decide_true, reduceIte, reduceCtorEq, List.any_toArray, Region.binds, Int.reduceBEq, Int.reduceBNe, Int.reduceLT, h0]
      have : a = b := by rw [← hx, ← hy]; simp at he; rw [he]
      rw [this, cmpI_eq]; exact .refl _
    | succ k =>
      have k1 : k < x.length := by omega
      have k2 : k < y.length := by omega
      have k3 : k ≤ x.length := by omega
      have k4 : k ≤ y.length := by omega
      simp (maxSteps := 1000000) only [go_sem, Nat.reduceBEq, Nat.reduceAdd, Nat.reduceLT, Nat.reduceMul, Nat.reduceSub, Nat.reduceLeDiff, Nat.reduceEqDiff, Int.reduceToNat, Nat.reduceBeqDiff, Nat.reduceBneDiff, decide_false, and_self, List.reduceReplicate, List.flatten_cons, List.flatten_nil, true_and, and_true, eq_self, decide_true, reduceIte, reduceCtorEq, List.any_toArray, Region.binds, Int.reduceBEq, Int.reduceBNe, Int.reduceLT, k1, k2, k3, k4, gU' k1, gU' k2]
      refine if_split (fun h => ?_) (fun h => ?_)
      · simp (maxSteps := 1000000) only [go_sem, Nat.reduceBEq, Nat.reduceAdd, Nat.reduceLT, Nat.reduceMul, Nat.reduceSub, Nat.reduceLeDiff, Nat.reduceEqDiff, Int.reduceToNat, Nat.reduceBeqDiff, Nat.reduceBneDiff, decide_false, and_self, List.reduceReplicate, List.flatten_cons, List.flatten_nil, true_and, and_true, eq_self, decide_true, reduceIte, reduceCtorEq, List.any_toArray, Region.binds, Int.reduceBEq, Int.reduceBNe, Int.reduceLT]
        have := dOf_cmp 65536 x y hxd k k1 k2 he (of_decide_eq_true h)
        rw [cmpI_lt (by omega)]; exact .refl _
      · simp (maxSteps := 1000000) only [go_sem, Nat.reduceBEq, Nat.reduceAdd, Nat.reduceLT, Nat.reduceMul, Nat.reduceSub, Nat.reduceLeDiff, Nat.reduceEqDiff, Int.reduceToNat, Nat.reduceBeqDiff, Nat.reduceBneDiff, decide_false, and_self, List.reduceReplicate, List.flatten_cons, List.flatten_nil, true_and, and_true, eq_self, decide_true, reduceIte, reduceCtorEq, List.any_toArray, Region.binds, Int.reduceBEq, Int.reduceBNe, Int.reduceLT, k1, k2, k3, k4, gU' k1, gU' k2]
        refine if_split (fun h' => ?_) (fun h' => ?_)
        · simp (maxSteps := 1000000) only [go_sem, Nat.reduceBEq, Nat.reduceAdd, Nat.reduceLT, Nat.reduceMul, Nat.reduceSub, Nat.reduceLeDiff, Nat.reduceEqDiff, Int.reduceToNat, Nat.reduceBeqDiff, Nat.reduceBneDiff, decide_false, and_self, List.reduceReplicate, List.flatten_cons, List.flatten_nil, true_and, and_true, eq_self, decide_true, reduceIte, reduceCtorEq, List.any_toArray, Region.binds, Int.reduceBEq, Int.reduceBNe, Int.reduceLT]
          have := dOf_cmp 65536 y x hyd k k2 k1 he.symm (of_decide_eq_true h')
          rw [cmpI_gt (by omega)]; exact .refl _
        · have hw := wi_pred' k (by omega)
          simp (maxSteps := 1000000) only [go_sem, Nat.reduceBEq, Nat.reduceAdd, Nat.reduceLT, Nat.reduceMul, Nat.reduceSub, Nat.reduceLeDiff, Nat.reduceEqDiff, Int.reduceToNat, Nat.reduceBeqDiff, Nat.reduceBneDiff, decide_false, and_self, List.reduceReplicate, List.flatten_cons, List.flatten_nil, true_and, and_true, eq_self, decide_true, reduceIte, reduceCtorEq, List.any_toArray, Region.binds, Int.reduceBEq, Int.reduceBNe, Int.reduceLT, hw]
          refine ⟨k, Kept.of rfl (by repeat (first | exact KT.nil | refine KT.upd rfl (by first | rfl | exact hr | exact hr2 | (simp only [go_sem]; done)) ?_)) (KM.p (by repeat (first | exact KMp.nil | refine KMp.upd rfl (by first | rfl | (simp only [go_sem]; done)) ?_))), ⟨by omega, ?_⟩, by omega⟩
          have e1 := List.drop_eq_getElem_cons k1
          have e2 := List.drop_eq_getElem_cons k2
          have h := of_decide_eq_false h
          have h' := of_decide_eq_false h'
          rw [getD_get k1, getD_get k2] at h
          rw [getD_get k1, getD_get k2] at h'
          rw [e1, e2, he, show x[k] = y[k] by omega]
def rCmpS : List AV → Option (Prop × AV) := onR2 fun a b => (blen a ≤ 68719476736 ∧ blen b ≤ 68719476736, .int .i64 (cmpI a b))
theorem rCmpS_ok (hP : PrgOk P) (args p r) : rCmpS args = some (p, r) → p → CSpec P 34 args r := onR2_ok (fun a b h => by exact rCmp_spec hP a b h.1 h.2) args p r
attribute [go_sem] rCmpS
end Go.Proofs.Ytlgimmafejbmgaa.AM
