/- The document's numbers: texts that are numbers. -/
import Derived.Test.YtlgimmafejbmgaaRf
namespace Go.Proofs.Ytlgimmafejbmgaa.AM
set_option linter.all false
set_option autoImplicit true
set_option relaxedAutoImplicit true
open Go Go.Proofs
set_option maxRecDepth 100000
set_option maxHeartbeats 8000000
set_option linter.unusedSimpArgs false
variable {P : Program}

instance okD_dec (l : List Nat) : Decidable (okD l) := by unfold okD; infer_instance
theorem rDigits_spec (hP : PrgOk P) (s : ByteArray) (hsz : (bl s).length ≤ 1099511627776) : CSpec P 37 [.str s] (.bool (decide (okD (bl s)))) := by
  have HE := Sn_ok hP
  refine CSpec_vc (E := ⟨T0, Sn⟩) (fn37 hP) HE hP.mix rfl (by first | rfl | (simp only [go_sem]; done)) (by first | rfl | (simp only [go_sem]; done)) (Nat.le_of_ble_eq_true rfl) ?_
  obtain ⟨l, hl⟩ : ∃ l, bl s = l := ⟨_, rfl⟩
  rw [hl] at hsz ⊢
  by_cases h1 : l = []
  · have h1' : (l.length == 0) = true := by rw [h1]; rfl
    have hno : decide (okD l) = false := decide_eq_false fun h => h.1 h1
    simp (maxSteps := 1000000) only [go_sem, Nat.reduceBEq, Nat.reduceAdd, Nat.reduceLT, Nat.reduceMul, Nat.reduceSub, Nat.reduceLeDiff, Nat.reduceEqDiff, Int.reduceToNat, Nat.reduceBeqDiff, Nat.reduceBneDiff, decide_false, and_self, List.reduceReplicate, List.flatten_cons, List.flatten_nil, true_and, and_true, eq_self, decide_true, reduceIte, reduceCtorEq, List.any_toArray, Region.binds, Int.reduceBEq, Int.reduceBNe, Int.reduceLT, size_bl, get_bl, hl, h1']
    rw [hno]; exact .refl _
  · have h1' : (l.length == 0) = false := beq_eq_false_iff_ne.2 fun h => h1 (List.length_eq_zero_iff.1 h)
    by_cases h2 : 1 < l.length
    · rcases (by cases (l.getD 0 0 == 48) <;> simp : (l.getD 0 0 == 48) = true ∨ (l.getD 0 0 == 48) = false) with h3 | h3
      · have hno : decide (okD l) = false := decide_eq_false fun h => h.2.1 ⟨h2, by simpa using h3⟩
        simp (maxSteps := 1000000) only [go_sem, Nat.reduceBEq, Nat.reduceAdd, Nat.reduceLT, Nat.reduceMul, Nat.reduceSub, Nat.reduceLeDiff, Nat.reduceEqDiff, Int.reduceToNat, Nat.reduceBeqDiff, Nat.reduceBneDiff, decide_false, and_self, List.reduceReplicate, List.flatten_cons, List.flatten_nil, true_and, and_true, eq_self, decide_true, reduceIte, reduceCtorEq, List.any_toArray, Region.binds, Int.reduceBEq, Int.reduceBNe, Int.reduceLT, size_bl, get_bl, hl, h1', h2, h3]
        rw [hno]
        exact ⟨by omega, .refl _⟩
      · have h0 : ¬ (1 < l.length ∧ l.getD 0 0 = 48) := fun h => by simp at h3; exact h3 (by simpa using h.2)
        simp (maxSteps := 1000000) only [go_sem, Nat.reduceBEq, Nat.reduceAdd, Nat.reduceLT, Nat.reduceMul, Nat.reduceSub, Nat.reduceLeDiff, Nat.reduceEqDiff, Int.reduceToNat, Nat.reduceBeqDiff, Nat.reduceBneDiff, decide_false, and_self, List.reduceReplicate, List.flatten_cons, List.flatten_nil, true_and, and_true, eq_self, decide_true, reduceIte, reduceCtorEq, List.any_toArray, Region.binds, Int.reduceBEq, Int.reduceBNe, Int.reduceLT, size_bl, get_bl, hl, h1', h2, h3]
        refine ⟨by omega, ?_⟩
        refine trX_loop HE hP.mix [] (fun k : Nat => ⟨upd (upd (fun _ => .junk) 0 (.str s)) 3 (.int .i64 (k : Int)), fun _ => .unused, 33⟩)
          (fun k => k ≤ l.length ∧ ∀ c ∈ l.take k, 48 ≤ c ∧ c ≤ 57) (fun k => l.length - k) 0 10
          (by repeat (first | exact Has.nil | refine Has.upd rfl ?_)) (Kept.of rfl (by repeat (first | exact KT.nil | refine KT.upd rfl (by first | rfl | exact hr | exact hr2 | (simp only [go_sem]; done)) ?_)) (KM.p (by repeat (first | exact KMp.nil | refine KMp.upd rfl (by first | rfl | (simp only [go_sem]; done)) ?_)))) ⟨Nat.zero_le _, by simp⟩ 33 (by kernel_rfl) ?_
        rintro k ⟨k1, k2⟩
        by_cases hk : k < l.length
        · have hw := wi_add1 k (by omega)
          have hb := bl_lt s
          rw [hl] at hb
          have hkb := hb _ (getD_mem hk)
          by_cases ha : l.getD k 0 < 48
          · have hno : decide (okD l) = false := decide_eq_false fun h => by have := h.2.2 _ (getD_mem hk); omega
            have ha' : decide (((l.getD k 0 : Nat) : Int) < 48) = true := decide_eq_true (by omega)
            simp (maxSteps := 1000000) only [go_sem, Nat.reduceBEq, Nat.reduceAdd, Nat.reduceLT, Nat.reduceMul, Nat.reduceSub, Nat.reduceLeDiff, Nat.reduceEqDiff, Int.reduceToNat, Nat.reduceBeqDiff, Nat.reduceBneDiff, decide_false, and_self, List.reduceReplicate, List.flatten_cons, List.flatten_nil, true_and, and_true, eq_self, decide_true, reduceIte, reduceCtorEq, List.any_toArray, Region.binds, Int.reduceBEq, Int.reduceBNe, Int.reduceLT, size_bl, get_bl, hl, hk, ha, ha', Int.toNat_natCast]
            rw [hno]; exact .refl _
          · have ha' : decide (((l.getD k 0 : Nat) : Int) < 48) = false := decide_eq_false (by omega)
            by_cases hc : 57 < l.getD k 0
            · have hno : decide (okD l) = false := decide_eq_false fun h => by have := h.2.2 _ (getD_mem hk); omega
              simp (maxSteps := 1000000) only [go_sem, Nat.reduceBEq, Nat.reduceAdd, Nat.reduceLT, Nat.reduceMul, Nat.reduceSub, Nat.reduceLeDiff, Nat.reduceEqDiff, Int.reduceToNat, Nat.reduceBeqDiff, Nat.reduceBneDiff, decide_false, and_self, List.reduceReplicate, List.flatten_cons, List.flatten_nil, true_and, and_true, eq_self, decide_true, reduceIte, reduceCtorEq, List.any_toArray, Region.binds, Int.reduceBEq, Int.reduceBNe, Int.reduceLT, size_bl, get_bl, hl, hk, ha, ha', Int.toNat_natCast, hc]
              rw [hno]; exact .refl _
            · simp (maxSteps := 1000000) only [go_sem, Nat.reduceBEq, Nat.reduceAdd, Nat.reduceLT, Nat.reduceMul, Nat.reduceSub, Nat.reduceLeDiff, Nat.reduceEqDiff, Int.reduceToNat, Nat.reduceBeqDiff, Nat.reduceBneDiff, decide_false, and_self, List.reduceReplicate, List.flatten_cons, List.flatten_nil, true_and, and_true, eq_self, decide_true, reduceIte, reduceCtorEq, List.any_toArray, Region.binds, Int.reduceBEq, Int.reduceBNe, Int.reduceLT, size_bl, get_bl, hl, hk, ha, ha', Int.toNat_natCast, hc, hw]
              exact ⟨k + 1, Kept.of rfl (by repeat (first | exact KT.nil | refine KT.upd rfl (by first | rfl | exact hr | exact hr2 | (simp only [go_sem]; done)) ?_)) (KM.p (by repeat (first | exact KMp.nil | refine KMp.upd rfl (by first | rfl | (simp only [go_sem]; done)) ?_))), ⟨by omega, fun c hcm => by
                rw [take_snoc hk] at hcm
                rcases List.mem_append.1 hcm with hcm | hcm
                · exact k2 c hcm
                · rw [List.mem_singleton.1 hcm]; omega⟩, by omega⟩
        · have hyes : decide (okD l) = true := decide_eq_true ⟨h1, h0, by rwa [List.take_of_length_le (by omega)] at k2⟩
          simp (maxSteps := 1000000) only [go_sem, Nat.reduceBEq, Nat.reduceAdd, Nat.reduceLT, Nat.reduceMul, Nat.reduceSub, Nat.reduceLeDiff, Nat.reduceEqDiff, Int.reduceToNat, Nat.reduceBeqDiff, Nat.reduceBneDiff, decide_false, and_self, List.reduceReplicate, List.flatten_cons, List.flatten_nil, true_and, and_true, eq_self, decide_true, reduceIte, reduceCtorEq, List.any_toArray, Region.binds, Int.reduceBEq, Int.reduceBNe, Int.reduceLT, size_bl, get_bl, hl, hk]
          rw [hyes]; exact .refl _
    · have h0 : ¬ (1 < l.length ∧ l.getD 0 0 = 48) := fun h => h2 h.1
      simp (maxSteps := 1000000) only [go_sem, Nat.reduceBEq, Nat.reduceAdd, Nat.reduceLT, Nat.reduceMul, Nat.reduceSub, Nat.reduceLeDiff, Nat.reduceEqDiff, Int.reduceToNat, Nat.reduceBeqDiff, Nat.reduceBneDiff, decide_false, and_self, List.reduceReplicate, List.flatten_cons, List.flatten_nil, true_and, and_true, eq_self, decide_true, reduceIte, reduceCtorEq, List.any_toArray, Region.binds, Int.reduceBEq, Int.reduceBNe, Int.reduceLT, size_bl, get_bl, hl, h1', h2]
      refine trX_loop HE hP.mix [] (fun k : Nat => ⟨upd (upd (fun _ => .junk) 0 (.str s)) 3 (.int .i64 (k : Int)), fun _ => .unused, 33⟩)
        (fun k => k ≤ l.length ∧ ∀ c ∈ l.take k, 48 ≤ c ∧ c ≤ 57) (fun k => l.length - k) 0 10
        (by repeat (first | exact Has.nil | refine Has.upd rfl ?_)) (Kept.of rfl (by repeat (first | exact KT.nil | refine KT.upd rfl (by first | rfl | exact hr | exact hr2 | (simp only [go_sem]; done)) ?_)) (KM.p (by repeat (first | exact KMp.nil | refine KMp.upd rfl (by first | rfl | (simp only [go_sem]; done)) ?_)))) ⟨Nat.zero_le _, by simp⟩ 33 (by kernel_rfl) ?_
      rintro k ⟨k1, k2⟩
      by_cases hk : k < l.length
      · have hw := wi_add1 k (by omega)
        have hb := bl_lt s
        rw [hl] at hb
        have hkb := hb _ (getD_mem hk)
        by_cases ha : l.getD k 0 < 48
        · have hno : decide (okD l) = false := decide_eq_false fun h => by have := h.2.2 _ (getD_mem hk); omega
          have ha' : decide (((l.getD k 0 : Nat) : Int) < 48) = true := decide_eq_true (by omega)
          simp (maxSteps := 1000000) only [go_sem, Nat.reduceBEq, Nat.reduceAdd, Nat.reduceLT, Nat.reduceMul, Nat.reduceSub, Nat.reduceLeDiff, Nat.reduceEqDiff, Int.reduceToNat, Nat.reduceBeqDiff, Nat.reduceBneDiff, decide_false, and_self, List.reduceReplicate, List.flatten_cons, List.flatten_nil, true_and, and_true, eq_self, decide_true, reduceIte, reduceCtorEq, List.any_toArray, Region.binds, Int.reduceBEq, Int.reduceBNe, Int.reduceLT, size_bl, get_bl, hl, hk, ha, ha', Int.toNat_natCast]
          rw [hno]; exact .refl _
        · have ha' : decide (((l.getD k 0 : Nat) : Int) < 48) = false := decide_eq_false (by omega)
          by_cases hc : 57 < l.getD k 0
          · have hno : decide (okD l) = false := decide_eq_false fun h => by have := h.2.2 _ (getD_mem hk); omega
            simp (maxSteps := 1000000) only [go_sem, Nat.reduceBEq, Nat.reduceAdd, Nat.reduceLT, Nat.reduceMul, Nat.reduceSub, Nat.reduceLeDiff, Nat.reduceEqDiff, Int.reduceToNat, Nat.reduceBeqDiff, Nat.reduceBneDiff, decide_false, and_self, List.reduceReplicate, List.flatten_cons, List.flatten_nil, true_and, and_true, eq_self, decide_true, reduceIte, reduceCtorEq, List.any_toArray, Region.binds, Int.reduceBEq, Int.reduceBNe, Int.reduceLT, size_bl, get_bl, hl, hk, ha, ha', Int.toNat_natCast, hc]
            rw [hno]; exact .refl _
          · simp (maxSteps := 1000000) only [go_sem, Nat.reduceBEq, Nat.reduceAdd, Nat.reduceLT, Nat.reduceMul, Nat.reduceSub, Nat.reduceLeDiff, Nat.reduceEqDiff, Int.reduceToNat, Nat.reduceBeqDiff, Nat.reduceBneDiff, decide_false, and_self, List.reduceReplicate, List.flatten_cons, List.flatten_nil, true_and, and_true, eq_self, decide_true, reduceIte, reduceCtorEq, List.any_toArray, Region.binds, Int.reduceBEq, Int.reduceBNe, Int.reduceLT, size_bl, get_bl, hl, hk, ha, ha', Int.toNat_natCast, hc, hw]
            exact ⟨k + 1, Kept.of rfl (by repeat (first | exact KT.nil | refine KT.upd rfl (by first | rfl | exact hr | exact hr2 | (simp only [go_sem]; done)) ?_)) (KM.p (by repeat (first | exact KMp.nil | refine KMp.upd rfl (by first | rfl | (simp only [go_sem]; done)) ?_))), ⟨by omega, fun c hcm => by
              rw [take_snoc hk] at hcm
              rcases List.mem_append.1 hcm with hcm | hcm
              · exact k2 c hcm
              · rw [List.mem_singleton.1 hcm]; omega⟩, by omega⟩
      · have hyes : decide (okD l) = true := decide_eq_true ⟨h1, h0, by rwa [List.take_of_length_le (by omega)] at k2⟩
        simp (maxSteps := 1000000) only [go_sem, Nat.reduceBEq, Nat.reduceAdd, Nat.reduceLT, Nat.reduceMul, Nat.reduceSub, Nat.reduceLeDiff, Nat.reduceEqDiff, Int.reduceToNat, Nat.reduceBeqDiff, Nat.reduceBneDiff, decide_false, and_self, List.reduceReplicate, List.flatten_cons, List.flatten_nil, true_and, and_true, eq_self, decide_true, reduceIte, reduceCtorEq, List.any_toArray, Region.binds, Int.reduceBEq, Int.reduceBNe, Int.reduceLT, size_bl, get_bl, hl, hk]
        rw [hyes]; exact .refl _
def DigitsS : List AV → Option (Prop × AV)
  | [.str s] => some ((bl s).length ≤ 1099511627776, .bool (decide (okD (bl s))))
  | _ => none
theorem DigitsS_ok (hP : PrgOk P) (args p r) (h : DigitsS args = some (p, r)) (hp : p) : CSpec P 37 args r := by
  unfold DigitsS at h
  split at h
  · simp only [Option.some.injEq, Prod.mk.injEq] at h
    obtain ⟨rfl, rfl⟩ := h
    exact rDigits_spec hP _ hp
  · simp at h
attribute [go_sem] DigitsS
noncomputable def So : Nat → List AV → Option (Prop × AV) := addS (addS (addS Sn 33 rGcdS) 40 rTextS) 37 DigitsS
theorem So_ok (hP : PrgOk P) : EnvOk P ⟨T0, So⟩ := (((Sn_ok hP).add (rGcdS_ok hP)).add (rTextS_ok hP)).add (DigitsS_ok hP)
attribute [go_sem] So

theorem valL_blen4 {l : List Nat} (h : ∀ c ∈ l, c ≤ 57) : blen (valL l) ≤ 4 * l.length := by
  have h1 := valL_lt (l := l) h
  have h4 : 10 ^ l.length ≤ 16 ^ l.length := Nat.pow_le_pow_left (by decide) _
  have h5 : (16 : Nat) ^ l.length = 2 ^ (4 * l.length) := by rw [show (16 : Nat) = 2 ^ 4 from rfl, ← Nat.pow_mul]
  rw [blen_le_iff, ← h5]; exact Nat.lt_of_lt_of_le h1 h4
theorem rParse_spec (hP : PrgOk P) (s : ByteArray) (hsz : (bl s).length ≤ 8589934592) (hd : ∀ c ∈ bl s, 48 ≤ c ∧ c ≤ 57) : CSpec P 38 [.str s] (.imm (digs 65536 (valL (bl s))).length (List.map (fun d : Nat => AV.int .u32 (d : Int)) (digs 65536 (valL (bl s))))) := by
  have HE := So_ok hP
  have h10 : blen 10 ≤ 68719476736 := by decide
  have h10i : (10 : Int).toNat = 10 := rfl
  refine CSpec_vc (E := ⟨T0, So⟩) (fn38 hP) HE hP.mix rfl (by first | rfl | (simp only [go_sem]; done)) (by first | rfl | (simp only [go_sem]; done)) (Nat.le_of_ble_eq_true rfl) ?_
  obtain ⟨l, hl⟩ : ∃ l, bl s = l := ⟨_, rfl⟩
  rw [hl] at hsz hd ⊢
  simp (maxSteps := 1000000) only [go_sem, Nat.reduceBEq, Nat.reduceAdd, Nat.reduceLT, Nat.reduceMul, Nat.reduceSub, Nat.reduceLeDiff, Nat.reduceEqDiff, Int.reduceToNat, Nat.reduceBeqDiff, Nat.reduceBneDiff, decide_false, and_self, List.reduceReplicate, List.flatten_cons, List.flatten_nil, true_and, and_true, eq_self, decide_true, reduceIte, reduceCtorEq, List.any_toArray, Region.binds, Int.reduceBEq, Int.reduceBNe, Int.reduceLT, size_bl, get_bl, hl]
  refine trX_loop HE hP.mix [] (fun k : Nat × Option Nat => ⟨upd (upd (upd (fun _ => .junk) 0 (.str s)) 3 (rv k.2)) 4 (.int .i64 (k.1 : Int)), fun _ => .unused, 22⟩)
    (fun k => k.1 ≤ l.length ∧ ru k.2 = valL (l.take k.1)) (fun k => l.length - k.1) (0, none) 10
    (by repeat (first | exact Has.nil | refine Has.upd rfl ?_)) (Kept.of rfl (by repeat (first | exact KT.nil | refine KT.upd rfl (by first | rfl | exact hr | exact hr2 | (simp only [go_sem]; done)) ?_)) (KM.p (by repeat (first | exact KMp.nil | refine KMp.upd rfl (by first | rfl | (simp only [go_sem]; done)) ?_)))) ⟨Nat.zero_le _, rfl⟩ 22 (by kernel_rfl) ?_
  rintro ⟨k, r⟩ ⟨k1, k2⟩
  simp only [] at k1 k2
  by_cases hk : k < l.length
  · have hw := wi_add1 k (by omega)
    have hkb := hd _ (getD_mem hk)
    have hvb : blen (valL (l.take k)) ≤ 34359738368 := by
      have := valL_blen4 (l := l.take k) (fun c hc => (hd c (List.mem_of_mem_take hc)).2)
      rw [List.length_take, Nat.min_eq_left k1] at this
      omega
    have hst := valL_take_succ hk
    obtain ⟨d, hdd⟩ : ∃ d, l.getD k 0 - 48 = d := ⟨_, rfl⟩
    have f1 : IntKind.u8.wrap (((l.getD k 0 : Nat) : Int) - 48) = (d : Int) := by rw [IntKind.wrap_u8]; omega
    have f2 : IntKind.u64.wrap (d : Int) = (d : Int) := by rw [IntKind.wrap_u64]; omega
    have f3 : ((0 : Int) ≤ (d : Int)) = True := eq_true (by omega)
    have f4 : ((d : Int) < 18446744073709551616) = True := eq_true (by omega)
    cases r with
    | none =>
      simp only [rv]
      simp (maxSteps := 1000000) only [go_sem, Nat.reduceBEq, Nat.reduceAdd, Nat.reduceLT, Nat.reduceMul, Nat.reduceSub, Nat.reduceLeDiff, Nat.reduceEqDiff, Int.reduceToNat, Nat.reduceBeqDiff, Nat.reduceBneDiff, decide_false, and_self, List.reduceReplicate, List.flatten_cons, List.flatten_nil, true_and, and_true, eq_self, decide_true, reduceIte, reduceCtorEq, List.any_toArray, Region.binds, Int.reduceBEq, Int.reduceBNe, Int.reduceLT, size_bl, get_bl, hl, hk, Int.toNat_natCast, f1, f2, f3, f4, h10, h10i, hw]
      have hdb : blen d ≤ 68719476736 := Nat.le_trans (blen_17 (by omega)) (by decide)
      refine ⟨by decide, by decide, ⟨by decide, hdb⟩, (k + 1, some (d)), Kept.of rfl (by repeat (first | exact KT.nil | refine KT.upd rfl (by first | rfl | exact hr | exact hr2 | (simp only [go_sem]; done)) ?_)) (KM.p (by repeat (first | exact KMp.nil | refine KMp.upd rfl (by first | rfl | (simp only [go_sem]; done)) ?_))), ⟨by simp only []; omega, ?_⟩, by simp only []; omega⟩
      simp only [ru] at k2 ⊢
      rw [hst, hdd, ← k2]; omega
    | some r =>
      have k2 : r = valL (l.take k) := k2
      have hvb : blen r ≤ 34359738368 := by rw [k2]; exact hvb
      simp only [rv]
      simp (maxSteps := 1000000) only [go_sem, Nat.reduceBEq, Nat.reduceAdd, Nat.reduceLT, Nat.reduceMul, Nat.reduceSub, Nat.reduceLeDiff, Nat.reduceEqDiff, Int.reduceToNat, Nat.reduceBeqDiff, Nat.reduceBneDiff, decide_false, and_self, List.reduceReplicate, List.flatten_cons, List.flatten_nil, true_and, and_true, eq_self, decide_true, reduceIte, reduceCtorEq, List.any_toArray, Region.binds, Int.reduceBEq, Int.reduceBNe, Int.reduceLT, size_bl, get_bl, hl, hk, Int.toNat_natCast, f1, f2, f3, f4, h10, h10i, hw]
      have hdb : blen d ≤ 68719476736 := Nat.le_trans (blen_17 (by omega)) (by decide)
      refine ⟨by decide, Nat.le_trans hvb (by decide), ⟨Nat.le_trans (blen_mul_le hvb (show blen 10 ≤ 4 by decide)) (by decide), hdb⟩, (k + 1, some (r * 10 + d)), Kept.of rfl (by repeat (first | exact KT.nil | refine KT.upd rfl (by first | rfl | exact hr | exact hr2 | (simp only [go_sem]; done)) ?_)) (KM.p (by repeat (first | exact KMp.nil | refine KMp.upd rfl (by first | rfl | (simp only [go_sem]; done)) ?_))), ⟨by simp only []; omega, ?_⟩, by simp only []; omega⟩
      simp only [ru] at k2 ⊢
      rw [hst, hdd, ← k2]; omega
  · have htk : l.take k = l := List.take_of_length_le (by omega)
    rw [htk] at k2
    cases r with
    | none =>
      simp only [rv]
      simp (maxSteps := 1000000) only [go_sem, Nat.reduceBEq, Nat.reduceAdd, Nat.reduceLT, Nat.reduceMul, Nat.reduceSub, Nat.reduceLeDiff, Nat.reduceEqDiff, Int.reduceToNat, Nat.reduceBeqDiff, Nat.reduceBneDiff, decide_false, and_self, List.reduceReplicate, List.flatten_cons, List.flatten_nil, true_and, and_true, eq_self, decide_true, reduceIte, reduceCtorEq, List.any_toArray, Region.binds, Int.reduceBEq, Int.reduceBNe, Int.reduceLT, size_bl, get_bl, hl, hk]
      rw [← k2]
      have e : digs 65536 0 = [] := digs_zero _
      simp only [ru, e]
      exact CvL.conv (.nilR .nil)
    | some r =>
      simp only [rv]
      simp (maxSteps := 1000000) only [go_sem, Nat.reduceBEq, Nat.reduceAdd, Nat.reduceLT, Nat.reduceMul, Nat.reduceSub, Nat.reduceLeDiff, Nat.reduceEqDiff, Int.reduceToNat, Nat.reduceBeqDiff, Nat.reduceBneDiff, decide_false, and_self, List.reduceReplicate, List.flatten_cons, List.flatten_nil, true_and, and_true, eq_self, decide_true, reduceIte, reduceCtorEq, List.any_toArray, Region.binds, Int.reduceBEq, Int.reduceBNe, Int.reduceLT, size_bl, get_bl, hl, hk]
      rw [← k2]
      exact .refl _
def rParseS : List AV → Option (Prop × AV)
  | [.str s] => some ((bl s).length ≤ 8589934592 ∧ ∀ c ∈ bl s, 48 ≤ c ∧ c ≤ 57, (.imm (digs 65536 (valL (bl s))).length (List.map (fun d : Nat => AV.int .u32 (d : Int)) (digs 65536 (valL (bl s))))))
  | _ => none
theorem rParseS_ok (hP : PrgOk P) (args p r) (h : rParseS args = some (p, r)) (hp : p) : CSpec P 38 args r := by
  unfold rParseS at h
  split at h
  · simp only [Option.some.injEq, Prod.mk.injEq] at h
    obtain ⟨rfl, rfl⟩ := h
    exact rParse_spec hP _ hp.1 hp.2
  · simp at h
attribute [go_sem] rParseS
end Go.Proofs.Ytlgimmafejbmgaa.AM
