/- The document's numbers: the greatest divisor, the text. -/
import Derived.Test.YtlgimmafejbmgaaRe
namespace Go.Proofs.Ytlgimmafejbmgaa.AM
set_option linter.all false
set_option autoImplicit true
set_option relaxedAutoImplicit true
open Go Go.Proofs
set_option maxRecDepth 100000
set_option maxHeartbeats 8000000
set_option linter.unusedSimpArgs false
variable {P : Program}

noncomputable def Sn : Nat → List AV → Option (Prop × AV) := addS Sm 28 rDivS
theorem Sn_ok (hP : PrgOk P) : EnvOk P ⟨T0, Sn⟩ := (Sm_ok hP).add (rDivS_ok hP)
attribute [go_sem] Sn

theorem rlen_pos {a : Nat} : 0 < (digs 65536 a).length ↔ 0 < a := by
  constructor
  · intro h
    rcases Nat.eq_zero_or_pos a with e | e
    · rw [e, digs_zero] at h; simp at h
    · exact e
  · intro h
    rcases Nat.eq_zero_or_pos (digs 65536 a).length with e | e
    · have := dOf_digs 65536 a (by decide)
      rw [List.length_eq_zero_iff.1 e] at this
      simp [dOf] at this; omega
    · exact e
theorem rlen_pos_eq {a : Nat} : decide (0 < (digs 65536 a).length) = decide (0 < a) := decide_eq_decide.2 rlen_pos
theorem rGcd_spec (hP : PrgOk P) (a b : Nat) (ha : blen a ≤ 34359738368) (hb : blen b ≤ 34359738368) : CSpec P 33 [(.imm (digs 65536 (a)).length (List.map (fun d : Nat => AV.int .u32 (d : Int)) (digs 65536 (a)))), (.imm (digs 65536 (b)).length (List.map (fun d : Nat => AV.int .u32 (d : Int)) (digs 65536 (b))))] (.imm (digs 65536 (Nat.gcd a b)).length (List.map (fun d : Nat => AV.int .u32 (d : Int)) (digs 65536 (Nat.gcd a b)))) := by
  have HE := Sn_ok hP
  refine CSpec_vc (E := ⟨T0, Sn⟩) (fn33 hP) HE hP.mix rfl (by first | rfl | (simp only [go_sem]; done)) (by first | rfl | (simp only [go_sem]; done)) (Nat.le_of_ble_eq_true rfl) ?_
  simp (maxSteps := 1000000) only [go_sem, Nat.reduceBEq, Nat.reduceAdd, Nat.reduceLT, Nat.reduceMul, Nat.reduceSub, Nat.reduceLeDiff, Nat.reduceEqDiff, Int.reduceToNat, Nat.reduceBeqDiff, Nat.reduceBneDiff, decide_false, and_self, List.reduceReplicate, List.flatten_cons, List.flatten_nil, true_and, and_true, eq_self, decide_true, reduceIte, reduceCtorEq, List.any_toArray, Region.binds, Int.reduceBEq, Int.reduceBNe, Int.reduceLT]
  refine trX_loop HE hP.mix [] (fun q : Nat × Nat => ⟨upd (upd (fun _ => .junk) 0 (.imm (digs 65536 (q.1)).length (List.map (fun d : Nat => AV.int .u32 (d : Int)) (digs 65536 (q.1))))) 1 (.imm (digs 65536 (q.2)).length (List.map (fun d : Nat => AV.int .u32 (d : Int)) (digs 65536 (q.2)))), fun _ => .unused, 19⟩)
    (fun q => blen q.1 ≤ 34359738368 ∧ blen q.2 ≤ 34359738368 ∧ Nat.gcd q.1 q.2 = Nat.gcd a b) (fun q => q.2) (a, b) 10
    (by repeat (first | exact Has.nil | refine Has.upd rfl ?_)) (Kept.of rfl (by repeat (first | exact KT.nil | refine KT.upd rfl (by first | rfl | exact hr | exact hr2 | (simp only [go_sem]; done)) ?_)) (KM.p (by repeat (first | exact KMp.nil | refine KMp.upd rfl (by first | rfl | (simp only [go_sem]; done)) ?_)))) ⟨ha, hb, rfl⟩ 19 (by kernel_rfl) ?_
  rintro ⟨x, y⟩ ⟨h1, h2, h3⟩
  simp only [] at h1 h2 h3
  have h1' : blen x ≤ 68719476736 := Nat.le_trans h1 (by decide)
  by_cases hy : 0 < y
  · have hl : 0 < (digs 65536 y).length := rlen_pos.2 hy
    have hml := Nat.mod_lt x hy
    simp (maxSteps := 1000000) only [go_sem, Nat.reduceBEq, Nat.reduceAdd, Nat.reduceLT, Nat.reduceMul, Nat.reduceSub, Nat.reduceLeDiff, Nat.reduceEqDiff, Int.reduceToNat, Nat.reduceBeqDiff, Nat.reduceBneDiff, decide_false, and_self, List.reduceReplicate, List.flatten_cons, List.flatten_nil, true_and, and_true, eq_self, decide_true, reduceIte, reduceCtorEq, List.any_toArray, Region.binds, Int.reduceBEq, Int.reduceBNe, Int.reduceLT, hl, h1', h2, hy]
    exact ⟨(y, x % y), Kept.of rfl (by repeat (first | exact KT.nil | refine KT.upd rfl (by first | rfl | exact hr | exact hr2 | (simp only [go_sem]; done)) ?_)) (KM.p (by repeat (first | exact KMp.nil | refine KMp.upd rfl (by first | rfl | (simp only [go_sem]; done)) ?_))), ⟨h2, blen_le_of (Nat.le_of_lt hml) h2, by simp only []; rw [← gcd_step]; exact h3⟩, by simp only []; exact hml⟩
  · have hl : ¬ 0 < (digs 65536 y).length := fun h => hy (rlen_pos.1 h)
    have hy0 : y = 0 := by omega
    simp (maxSteps := 1000000) only [go_sem, Nat.reduceBEq, Nat.reduceAdd, Nat.reduceLT, Nat.reduceMul, Nat.reduceSub, Nat.reduceLeDiff, Nat.reduceEqDiff, Int.reduceToNat, Nat.reduceBeqDiff, Nat.reduceBneDiff, decide_false, and_self, List.reduceReplicate, List.flatten_cons, List.flatten_nil, true_and, and_true, eq_self, decide_true, reduceIte, reduceCtorEq, List.any_toArray, Region.binds, Int.reduceBEq, Int.reduceBNe, Int.reduceLT, hl]
    rw [hy0, Nat.gcd_zero_right] at h3
    rw [h3]; exact .refl _
def rGcdS : List AV → Option (Prop × AV) := onR2 fun a b => (blen a ≤ 34359738368 ∧ blen b ≤ 34359738368, (.imm (digs 65536 (Nat.gcd a b)).length (List.map (fun d : Nat => AV.int .u32 (d : Int)) (digs 65536 (Nat.gcd a b)))))
theorem rGcdS_ok (hP : PrgOk P) (args p r) : rGcdS args = some (p, r) → p → CSpec P 33 args r := onR2_ok (fun a b h => by exact rGcd_spec hP a b h.1 h.2) args p r
attribute [go_sem] rGcdS

theorem bytesS_app (x y : List AV) : bytesS x ++ bytesS y = bytesS (x ++ y) := by
  unfold bytesS
  rw [List.map_append]
  apply ByteArray.ext
  simp
theorem bytesS_size (x : List AV) : (bytesS x).size = x.length := by
  unfold bytesS
  rw [← ByteArray.size_data]
  simp
theorem bytesS_nil : (⟨#[]⟩ : ByteArray) = bytesS [] := rfl
abbrev bS (l : List Nat) : ByteArray := bytesS (l.map fun d : Nat => AV.int .u8 (d : Int))
theorem bS_app (x y : List Nat) : bytesS (x.map fun d : Nat => AV.int .u8 (d : Int)) ++ bytesS (y.map fun d : Nat => AV.int .u8 (d : Int)) = bytesS ((x ++ y).map fun d : Nat => AV.int .u8 (d : Int)) := by rw [bytesS_app, List.map_append]
theorem rText_spec (hP : PrgOk P) (a : Nat) (ha : blen a ≤ 68719476736) : CSpec P 40 [(.imm (digs 65536 (a)).length (List.map (fun d : Nat => AV.int .u32 (d : Int)) (digs 65536 (a))))] (.str (decS a)) := by
  have HE := Sn_ok hP
  rcases Nat.eq_zero_or_pos a with rfl | h0
  · have e : digs 65536 0 = [] := digs_zero _
    refine CSpec_vc (E := ⟨T0, Sn⟩) (fn40 hP) HE hP.mix rfl (by first | rfl | (simp only [go_sem]; done)) (by first | rfl | (simp only [go_sem]; done)) (Nat.le_of_ble_eq_true rfl) ?_
    simp (maxSteps := 1000000) only [go_sem, Nat.reduceBEq, Nat.reduceAdd, Nat.reduceLT, Nat.reduceMul, Nat.reduceSub, Nat.reduceLeDiff, Nat.reduceEqDiff, Int.reduceToNat, Nat.reduceBeqDiff, Nat.reduceBneDiff, decide_false, and_self, List.reduceReplicate, List.flatten_cons, List.flatten_nil, true_and, and_true, eq_self, decide_true, reduceIte, reduceCtorEq, List.any_toArray, Region.binds, Int.reduceBEq, Int.reduceBNe, Int.reduceLT, e]
    exact .refl _
  · have hl : ((digs 65536 a).length == 0) = false := by
      have := rlen_pos.2 h0
      exact beq_eq_false_iff_ne.2 (by omega)
    refine CSpec_vc (E := ⟨T0, Sn⟩) (fn40 hP) HE hP.mix rfl (by first | rfl | (simp only [go_sem]; done)) (by first | rfl | (simp only [go_sem]; done)) (Nat.le_of_ble_eq_true rfl) ?_
    simp (maxSteps := 1000000) only [go_sem, Nat.reduceBEq, Nat.reduceAdd, Nat.reduceLT, Nat.reduceMul, Nat.reduceSub, Nat.reduceLeDiff, Nat.reduceEqDiff, Int.reduceToNat, Nat.reduceBeqDiff, Nat.reduceBneDiff, decide_false, and_self, List.reduceReplicate, List.flatten_cons, List.flatten_nil, true_and, and_true, eq_self, decide_true, reduceIte, reduceCtorEq, List.any_toArray, Region.binds, Int.reduceBEq, Int.reduceBNe, Int.reduceLT, hl]
    refine trX_loop HE hP.mix [] (fun q : Nat × List Nat => ⟨upd (upd (fun _ => .junk) 0 (.imm (digs 65536 (q.1)).length (List.map (fun d : Nat => AV.int .u32 (d : Int)) (digs 65536 (q.1))))) 3 (.str (bS q.2.reverse)), fun _ => .unused, 51⟩)
      (fun q => byt q.2 ∧ a = dv q.2 + 10 ^ q.2.length * q.1 ∧ (q.1 = 0 → Canon (q.2.map (· - 48)))) (fun q => q.1) (a, []) 60
      (by repeat (first | exact Has.nil | refine Has.upd rfl ?_)) (Kept.of rfl (by repeat (first | exact KT.nil | refine KT.upd rfl (by first | rfl | exact hr | exact hr2 | (simp only [go_sem]; done)) ?_)) (KM.p (by repeat (first | exact KMp.nil | refine KMp.upd rfl (by first | rfl | (simp only [go_sem]; done)) ?_)))) ⟨by simp [byt], by simp [dv, dOf], fun e => by have e : a = 0 := e; omega⟩ 51 (by kernel_rfl) ?_
    rintro ⟨w, o⟩ ⟨h1, h2, h3⟩
    simp only [] at h1 h2 h3
    by_cases hw : 0 < w
    · have hlw : 0 < (digs 65536 w).length := rlen_pos.2 hw
      have hwa : w ≤ a := by
        rw [h2]
        exact Nat.le_trans (Nat.le_mul_of_pos_left _ (Nat.pow_pos (by decide))) (Nat.le_add_left _ _)
      have hwl : blen w ≤ 68719476736 := blen_le_of hwa ha
      have hlr := rlen_blen (w % 10000)
      have hmd : w % 10000 < 10000 := Nat.mod_lt _ (by decide)
      have hbl : blen (w % 10000) ≤ 14 := (blen_le_iff _ 14).2 (by omega)
      have hl2 : (digs 65536 (w % 10000)).length ≤ 1099511627776 := by omega
      have hsm : (w % 10000 < 18446744073709551616) = True := eq_true (by omega)
      have hbt : (blen 10000 ≤ 34359738368) = True := eq_true (by decide)
      have hbi : (10000 : Int).toNat = 10000 := rfl
      simp (maxSteps := 1000000) only [go_sem, Nat.reduceBEq, Nat.reduceAdd, Nat.reduceLT, Nat.reduceMul, Nat.reduceSub, Nat.reduceLeDiff, Nat.reduceEqDiff, Int.reduceToNat, Nat.reduceBeqDiff, Nat.reduceBneDiff, decide_false, and_self, List.reduceReplicate, List.flatten_cons, List.flatten_nil, true_and, and_true, eq_self, decide_true, reduceIte, reduceCtorEq, List.any_toArray, Region.binds, Int.reduceBEq, Int.reduceBNe, Int.reduceLT, hlw, hwl, hl2, hsm, hbt, hbi]
      obtain ⟨W2, hW2⟩ : ∃ W2, w / 10000 = W2 := ⟨_, rfl⟩
      obtain ⟨v0, hv0⟩ : ∃ v0, w % 10000 = v0 := ⟨_, rfl⟩
      have hwv : w = v0 + 10000 * W2 := by omega
      simp only [hW2, hv0]
      refine ⟨by decide, ?_⟩
      refine trX_loop HE hP.mix [] (fun q : Nat × Nat × List Nat => ⟨upd (upd (upd (upd (fun _ => .junk) 3 (.str (bS q.2.2.reverse))) 4 (.imm (digs 65536 (W2)).length (List.map (fun d : Nat => AV.int .u32 (d : Int)) (digs 65536 (W2))))) 6 (.int .u64 (q.2.1 : Int))) 8 (.int .i64 (q.1 : Int)), fun _ => .unused, 51⟩)
        (fun q => q.1 ≤ 4 ∧ byt q.2.2 ∧ q.2.1 < 10 ^ (4 - q.1) ∧ a = dv q.2.2 + 10 ^ q.2.2.length * (q.2.1 + 10 ^ (4 - q.1) * W2) ∧ (W2 = 0 → q.2.1 = 0 → Canon (q.2.2.map (· - 48)))) (fun q => 4 - q.1) (0, v0, o) 60
        (by repeat (first | exact Has.nil | refine Has.upd rfl ?_)) (Kept.of rfl (by repeat (first | exact KT.nil | refine KT.upd rfl (by first | rfl | exact hr | exact hr2 | (simp only [go_sem]; done)) ?_)) (KM.p (by repeat (first | exact KMp.nil | refine KMp.upd rfl (by first | rfl | (simp only [go_sem]; done)) ?_)))) ⟨Nat.zero_le _, h1, by simp only []; omega, by simp only []; rw [h2, hwv], fun e1 e2 => by have e2 : v0 = 0 := e2; omega⟩ 51 (by kernel_rfl) ?_
      rintro ⟨k, v, o'⟩ ⟨s1, s2, s3, s4, s5⟩
      simp only [] at s1 s2 s3 s4 s5
      have hm : (v : Int).tmod 10 = ((v % 10 : Nat) : Int) := rfl
      have hvb : v < 10000 := Nat.lt_of_lt_of_le s3 (Nat.pow_le_pow_right (by decide) (show 4 - k ≤ 4 by omega))
      have hdv : IntKind.u64.wrap ((v : Int).tdiv 10) = ((v / 10 : Nat) : Int) := wu_div v 10 (by omega)
      have hu8 := u8_dig v
      have hwi := wi_add1 k (by omega)
      have hR : decide (0 < (digs 65536 W2).length) = decide (0 < W2) := rlen_pos_eq
      by_cases hk : k < 4
      · by_cases hgo : 0 < W2 ∨ 0 < v
        · have hkb : o'.length + 1 ≤ 1099511627776 := by
            have h0 : 1 ≤ v + 10 ^ (4 - k) * W2 := by
              rcases hgo with h | h
              · exact Nat.le_trans (Nat.mul_pos (Nat.pow_pos (by decide)) h) (Nat.le_add_left _ _)
              · omega
            have h1 : 10 ^ o'.length * 1 ≤ 10 ^ o'.length * (v + 10 ^ (4 - k) * W2) := Nat.mul_le_mul_left _ h0
            have h2 : 2 ^ o'.length ≤ 10 ^ o'.length := Nat.pow_le_pow_left (by decide) _
            have h3 := blen_lt a
            have h4 : o'.length < blen a := (Nat.pow_lt_pow_iff_right (a := 2) (by decide)).1 (by omega)
            omega
          have hpw : 10 ^ (4 - k) = 10 * 10 ^ (4 - (k + 1)) := by rw [show 4 - k = 4 - (k + 1) + 1 by omega, Nat.pow_succ, Nat.mul_comm]
          have hst : byt (o' ++ [48 + v % 10]) ∧ v / 10 < 10 ^ (4 - (k + 1)) ∧ a = dv (o' ++ [48 + v % 10]) + 10 ^ (o' ++ [48 + v % 10]).length * (v / 10 + 10 ^ (4 - (k + 1)) * W2) ∧ (W2 = 0 → v / 10 = 0 → Canon ((o' ++ [48 + v % 10]).map (· - 48))) := by
            refine ⟨byt_snoc s2 v, by omega, ?_, fun e1 e2 => snoc_canon _ _ ?_⟩
            · rw [dv_snoc, List.length_append, List.length_singleton, Nat.pow_succ]
              rw [hpw, Nat.mul_assoc] at s4
              exact dig_step s4
            · rcases hgo with h | h <;> omega
          obtain ⟨z1, z2, z3, z4⟩ := hst
          have hsz : 1 + o'.length ≤ 9223372036854775807 := by omega
          have hap : bytesS [.int .u8 ((48 + v % 10 : Nat) : Int)] ++ bS o'.reverse = bS (o' ++ [48 + v % 10]).reverse := by
            rw [List.reverse_append]; exact bS_app [48 + v % 10] o'.reverse
          by_cases hW : 0 < W2
          · simp (maxSteps := 1000000) only [go_sem, Nat.reduceBEq, Nat.reduceAdd, Nat.reduceLT, Nat.reduceMul, Nat.reduceSub, Nat.reduceLeDiff, Nat.reduceEqDiff, Int.reduceToNat, Nat.reduceBeqDiff, Nat.reduceBneDiff, decide_false, and_self, List.reduceReplicate, List.flatten_cons, List.flatten_nil, true_and, and_true, eq_self, decide_true, reduceIte, reduceCtorEq, List.any_toArray, Region.binds, Int.reduceBEq, Int.reduceBNe, Int.reduceLT, hk, hR, hW, hm, hdv, hu8, hwi, hap, bytesS_size]
            exact ⟨by decide, rfl, by rw [List.length_reverse]; exact hsz, by decide, (k + 1, v / 10, o' ++ [48 + v % 10]), Kept.of rfl (by repeat (first | exact KT.nil | refine KT.upd rfl (by first | rfl | exact hr | exact hr2 | (simp only [go_sem]; done)) ?_)) (KM.p (by repeat (first | exact KMp.nil | refine KMp.upd rfl (by first | rfl | (simp only [go_sem]; done)) ?_))), ⟨by simp only []; omega, z1, z2, z3, z4⟩, by simp only []; omega⟩
          · have hv : 0 < v := by omega
            simp (maxSteps := 1000000) only [go_sem, Nat.reduceBEq, Nat.reduceAdd, Nat.reduceLT, Nat.reduceMul, Nat.reduceSub, Nat.reduceLeDiff, Nat.reduceEqDiff, Int.reduceToNat, Nat.reduceBeqDiff, Nat.reduceBneDiff, decide_false, and_self, List.reduceReplicate, List.flatten_cons, List.flatten_nil, true_and, and_true, eq_self, decide_true, reduceIte, reduceCtorEq, List.any_toArray, Region.binds, Int.reduceBEq, Int.reduceBNe, Int.reduceLT, hk, hR, hW, hv, hm, hdv, hu8, hwi, hap, bytesS_size]
            exact ⟨by decide, rfl, by rw [List.length_reverse]; exact hsz, by decide, (k + 1, v / 10, o' ++ [48 + v % 10]), Kept.of rfl (by repeat (first | exact KT.nil | refine KT.upd rfl (by first | rfl | exact hr | exact hr2 | (simp only [go_sem]; done)) ?_)) (KM.p (by repeat (first | exact KMp.nil | refine KMp.upd rfl (by first | rfl | (simp only [go_sem]; done)) ?_))), ⟨by simp only []; omega, z1, z2, z3, z4⟩, by simp only []; omega⟩
        · have hW : ¬ 0 < W2 := fun h => hgo (.inl h)
          have hv : ¬ 0 < v := fun h => hgo (.inr h)
          simp (maxSteps := 1000000) only [go_sem, Nat.reduceBEq, Nat.reduceAdd, Nat.reduceLT, Nat.reduceMul, Nat.reduceSub, Nat.reduceLeDiff, Nat.reduceEqDiff, Int.reduceToNat, Nat.reduceBeqDiff, Nat.reduceBneDiff, decide_false, and_self, List.reduceReplicate, List.flatten_cons, List.flatten_nil, true_and, and_true, eq_self, decide_true, reduceIte, reduceCtorEq, List.any_toArray, Region.binds, Int.reduceBEq, Int.reduceBNe, Int.reduceLT, hk, hR, hW, hv]
          have hW0 : W2 = 0 := by omega
          have hv0 : v = 0 := by omega
          exact ⟨(W2, o'), Kept.of rfl (by repeat (first | exact KT.nil | refine KT.upd rfl (by first | rfl | exact hr | exact hr2 | (simp only [go_sem]; done)) ?_)) (KM.p (by repeat (first | exact KMp.nil | refine KMp.upd rfl (by first | rfl | (simp only [go_sem]; done)) ?_))), ⟨s2, by simp only []; rw [s4, hW0, hv0, Nat.mul_zero, Nat.add_zero], fun e => s5 e hv0⟩, by simp only []; omega⟩
      · have hv0 : v = 0 := by
          rw [show 4 - k = 0 by omega] at s3; omega
        simp (maxSteps := 1000000) only [go_sem, Nat.reduceBEq, Nat.reduceAdd, Nat.reduceLT, Nat.reduceMul, Nat.reduceSub, Nat.reduceLeDiff, Nat.reduceEqDiff, Int.reduceToNat, Nat.reduceBeqDiff, Nat.reduceBneDiff, decide_false, and_self, List.reduceReplicate, List.flatten_cons, List.flatten_nil, true_and, and_true, eq_self, decide_true, reduceIte, reduceCtorEq, List.any_toArray, Region.binds, Int.reduceBEq, Int.reduceBNe, Int.reduceLT, hk]
        exact ⟨(W2, o'), Kept.of rfl (by repeat (first | exact KT.nil | refine KT.upd rfl (by first | rfl | exact hr | exact hr2 | (simp only [go_sem]; done)) ?_)) (KM.p (by repeat (first | exact KMp.nil | refine KMp.upd rfl (by first | rfl | (simp only [go_sem]; done)) ?_))), ⟨s2, by simp only []; rw [s4, hv0, show 4 - k = 0 by omega, Nat.pow_zero, Nat.one_mul, Nat.zero_add], fun e => s5 e hv0⟩, by simp only []; omega⟩
    · have hlw : ¬ 0 < (digs 65536 w).length := fun h => hw (rlen_pos.1 h)
      have hw0 : w = 0 := by omega
      rw [hw0, Nat.mul_zero, Nat.add_zero] at h2
      have hdl := text_end h1 h2 (h3 hw0) h0
      simp (maxSteps := 1000000) only [go_sem, Nat.reduceBEq, Nat.reduceAdd, Nat.reduceLT, Nat.reduceMul, Nat.reduceSub, Nat.reduceLeDiff, Nat.reduceEqDiff, Int.reduceToNat, Nat.reduceBeqDiff, Nat.reduceBneDiff, decide_false, and_self, List.reduceReplicate, List.flatten_cons, List.flatten_nil, true_and, and_true, eq_self, decide_true, reduceIte, reduceCtorEq, List.any_toArray, Region.binds, Int.reduceBEq, Int.reduceBNe, Int.reduceLT, hlw]
      unfold decS
      rw [hdl]; exact .refl _
def rTextS : List AV → Option (Prop × AV) := onR1 fun a => (blen a ≤ 68719476736, .str (decS a))
theorem rTextS_ok (hP : PrgOk P) (args p r) : rTextS args = some (p, r) → p → CSpec P 40 args r := onR1_ok (fun a h => by exact rText_spec hP a h) args p r
attribute [go_sem] rTextS
end Go.Proofs.Ytlgimmafejbmgaa.AM
