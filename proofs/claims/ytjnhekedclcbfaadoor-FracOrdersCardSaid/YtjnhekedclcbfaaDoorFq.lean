/- The statements of layer 3 that stand alone. -/
import Derived.Test.YtjnhekedclcbfaaDoorB9
namespace Go.Proofs.YtjnhekedclcbfaaDoor.AM
set_option linter.all false
set_option autoImplicit true
set_option relaxedAutoImplicit true
open Go Go.Proofs
set_option maxRecDepth 100000
set_option maxHeartbeats 8000000
set_option linter.unusedSimpArgs false
variable {P : Program}

theorem cmpQ_z (a b : Rat) : (cmpQ a b == 0) = decide (a = b) := by
  unfold cmpQ
  by_cases h1 : a < b
  · rw [if_pos h1, decide_eq_false (by grind)]; rfl
  · rw [if_neg h1]
    by_cases h2 : b < a
    · rw [if_pos h2, decide_eq_false (by grind)]; rfl
    · rw [if_neg h2, decide_eq_true (by grind)]; rfl
theorem cmpQ_cases (a b : Rat) : (a < b ∧ cmpQ a b = -1) ∨ (a = b ∧ cmpQ a b = 0) ∨ (b < a ∧ cmpQ a b = 1) := by
  unfold cmpQ
  by_cases h1 : a < b
  · exact .inl ⟨h1, if_pos h1⟩
  · rw [if_neg h1]
    by_cases h2 : b < a
    · exact .inr (.inr ⟨h2, if_pos h2⟩)
    · exact .inr (.inl ⟨by grind, if_neg h2⟩)
theorem cmpQ_lt {a b : Rat} (h : a < b) : cmpQ a b = -1 := if_pos h
theorem cmpQ_gt {a b : Rat} (h : b < a) : cmpQ a b = 1 := by unfold cmpQ; rw [if_neg (by grind), if_pos h]
theorem cmpQ_self (a : Rat) : cmpQ a a = 0 := by unfold cmpQ; rw [if_neg (by grind), if_neg (by grind)]
theorem cmpQ_swap (a b : Rat) : IntKind.i64.wrap (0 - cmpQ b a) = cmpQ a b := by
  rcases cmpQ_cases a b with ⟨h, e⟩ | ⟨h, e⟩ | ⟨h, e⟩
  · rw [e, cmpQ_gt h]; rfl
  · rw [h, cmpQ_self]; rfl
  · rw [e, cmpQ_lt h]; rfl
theorem cmpQ_add (a b c : Rat) : cmpQ (qadd a c) (qadd b c) = cmpQ a b := by
  rw [qadd_eq, qadd_eq]
  rcases cmpQ_cases a b with ⟨h, e⟩ | ⟨h, e⟩ | ⟨h, e⟩
  · rw [e]; exact cmpQ_lt (by grind)
  · rw [h, cmpQ_self, cmpQ_self]
  · rw [e]; exact cmpQ_gt (by grind)
theorem cmpQ_mulc (a b c : Rat) : IntKind.i64.wrap (cmpQ c 0 * cmpQ a b) = cmpQ (qmul a c) (qmul b c) := by
  rw [qmul_eq, qmul_eq]
  rcases cmpQ_cases c 0 with ⟨h, e⟩ | ⟨h, e⟩ | ⟨h, e⟩
  · rcases cmpQ_cases a b with ⟨h', e'⟩ | ⟨h', e'⟩ | ⟨h', e'⟩
    · have := Rat.mul_pos (show 0 < b - a by grind) (show 0 < -c by grind)
      rw [e, e', cmpQ_gt (by grind)]; rfl
    · rw [h', cmpQ_self, cmpQ_self, Int.mul_zero]; rfl
    · have := Rat.mul_pos (show 0 < a - b by grind) (show 0 < -c by grind)
      rw [e, e', cmpQ_lt (by grind)]; rfl
  · rw [h, cmpQ_self, Rat.mul_zero, Rat.mul_zero, cmpQ_self, Int.zero_mul]; rfl
  · rcases cmpQ_cases a b with ⟨h', e'⟩ | ⟨h', e'⟩ | ⟨h', e'⟩
    · have := Rat.mul_pos (show 0 < b - a by grind) (show 0 < c by grind)
      rw [e, e', cmpQ_lt (by grind)]; rfl
    · rw [h', cmpQ_self, cmpQ_self, Int.mul_zero]; rfl
    · have := Rat.mul_pos (show 0 < a - b by grind) (show 0 < c by grind)
      rw [e, e', cmpQ_gt (by grind)]; rfl
theorem cmpQ_trans {a b c : Rat} (h1 : cmpQ a b ≤ 0) (h2 : cmpQ b c ≤ 0) : (0 < cmpQ a c) = False := by
  refine eq_false ?_
  rcases cmpQ_cases a b with ⟨h, e⟩ | ⟨h, e⟩ | ⟨h, e⟩
  · rcases cmpQ_cases b c with ⟨h', e'⟩ | ⟨h', e'⟩ | ⟨h', e'⟩
    · rw [cmpQ_lt (by grind)]; decide
    · rw [← h', e]; decide
    · rw [e'] at h2; exact absurd h2 (by decide)
  · rw [h]; omega
  · rw [e] at h1; exact absurd h1 (by decide)
theorem flo_le (q : Rat) : (cmpQ ((flo q : Int) : Rat) q ≤ 0) = True := by
  refine eq_true ?_
  rw [cmpQ_mk]
  show cmpZ (flo q * q.den) (q.num * 1) ≤ 0
  have h : flo q * q.den ≤ q.num := Int.ediv_mul_le _ (by have := q.den_pos; omega)
  unfold cmpZ; rw [Int.mul_one]
  split
  · decide
  · rw [if_neg (by omega)]; decide
theorem flo_lt (q : Rat) : (cmpQ q ((flo q + 1 : Int) : Rat) < 0) = True := by
  refine eq_true ?_
  rw [cmpQ_mk]
  show cmpZ (q.num * 1) ((flo q + 1) * q.den) < 0
  have h : q.num < (flo q + 1) * q.den := Int.lt_ediv_add_one_mul_self _ (by have := q.den_pos; omega)
  unfold cmpZ; rw [Int.mul_one, if_pos h]; decide
theorem same_spec (hP : PrgOk P) (a b : Rat) (ha : fl a ≤ FB) (hb : fl b ≤ FB) : CSpec P 26 [(.agg [.opq (.frac (a)), .pad, .pad, .pad, .pad]), (.agg [.opq (.frac (b)), .pad, .pad, .pad, .pad])] (.bool (decide (a = b))) := by
  have HE := Jt0_all hP TF hP.tF
  refine CSpec_vc (E := ⟨TF, Jt0⟩) (fn26 hP) HE hP.mix rfl (by first | rfl | (simp only [go_sem]; done)) (by first | rfl | (simp only [go_sem]; done)) (Nat.le_of_ble_eq_true rfl) ?_
  by_cases h : a = b
  · have h' := decide_eq_true h
    simp (maxSteps := 1000000) only [go_sem, ha, hb, cmpQ_z, qtS_eq, h']
    (repeat' (first | exact Conv.refl _ | refine And.intro ?_ ?_)) <;> first | omega | decide
  · have h' := decide_eq_false h
    simp (maxSteps := 1000000) only [go_sem, ha, hb, cmpQ_z, qtS_eq, h']
    (repeat' (first | exact Conv.refl _ | refine And.intro ?_ ?_)) <;> first | omega | decide
noncomputable def sameS : List AV → Option (Prop × AV) := onF2 fun a b => (fl a ≤ FB ∧ fl b ≤ FB, .bool (decide (a = b)))
theorem sameS_ok (hP : PrgOk P) (args p r) : sameS args = some (p, r) → p → CSpec P 26 args r := onF2_ok (fun a b h => by exact same_spec hP a b h.1 h.2) args p r
attribute [go_sem] sameS
noncomputable def Kt0 : Nat → List AV → Option (Prop × AV) := addS (addS Jt0 22 all3S) 26 sameS
theorem Kt0_all (hP : PrgOk P) (T) (hT : TyOk P T) : EnvOk P ⟨T, Kt0⟩ := (((Jt0_all hP T hT).add (all3S_ok hP)).add (sameS_ok hP))
theorem Kt0_at (f a) : Kt0 f a = (addS (addS Jt0 22 all3S) 26 sameS) f a := rfl
attribute [go_sem] Kt0_at
theorem FracField_spec (hP : PrgOk P) (s t u : ByteArray) : CSpec P 5 [.str s, .str t, .str u] (.bool true) := by
  have HE := Kt0_all hP TF hP.tF
  refine CSpec_vc (E := ⟨TF, Kt0⟩) (fn5 hP) HE hP.mix rfl (by first | rfl | (simp only [go_sem]; done)) (by first | rfl | (simp only [go_sem]; done)) (Nat.le_of_ble_eq_true rfl) ?_
  by_cases h1 : 2048 < s.size
  · simp (maxSteps := 1000000) only [go_sem, h1]
    (repeat' (first | exact Conv.refl _ | refine And.intro ?_ ?_)) <;> first | omega | decide
  by_cases h2 : 2048 < t.size
  · simp (maxSteps := 1000000) only [go_sem, h1, h2]
    (repeat' (first | exact Conv.refl _ | refine And.intro ?_ ?_)) <;> first | omega | decide
  by_cases h3 : 2048 < u.size
  · simp (maxSteps := 1000000) only [go_sem, h1, h2, h3]
    (repeat' (first | exact Conv.refl _ | refine And.intro ?_ ?_)) <;> first | omega | decide
  have hbA : (bl s).length ≤ 549755813888 := by have := size_bl s; omega
  obtain ⟨A, hAA⟩ : ∃ q, (parF (bl s)).1 = q := ⟨_, rfl⟩
  have fA : fl A ≤ 1024 := by rw [← hAA]; exact parF_fl _
  have gA : fl A ≤ FB := Nat.le_trans fA (by decide)
  have iA : blen A.den ≤ 34359738368 := Nat.le_trans (fl_den fA) (by decide)
  have kA : wl A.num ≤ 68719476736 := Nat.le_trans (fl_num fA) (by decide)
  have hbB : (bl t).length ≤ 549755813888 := by have := size_bl t; omega
  obtain ⟨B, hAB⟩ : ∃ q, (parF (bl t)).1 = q := ⟨_, rfl⟩
  have fB : fl B ≤ 1024 := by rw [← hAB]; exact parF_fl _
  have gB : fl B ≤ FB := Nat.le_trans fB (by decide)
  have iB : blen B.den ≤ 34359738368 := Nat.le_trans (fl_den fB) (by decide)
  have kB : wl B.num ≤ 68719476736 := Nat.le_trans (fl_num fB) (by decide)
  have hbC : (bl u).length ≤ 549755813888 := by have := size_bl u; omega
  obtain ⟨C, hAC⟩ : ∃ q, (parF (bl u)).1 = q := ⟨_, rfl⟩
  have fC : fl C ≤ 1024 := by rw [← hAC]; exact parF_fl _
  have gC : fl C ≤ FB := Nat.le_trans fC (by decide)
  have iC : blen C.den ≤ 34359738368 := Nat.le_trans (fl_den fC) (by decide)
  have kC : wl C.num ≤ 68719476736 := Nat.le_trans (fl_num fC) (by decide)
  by_cases e : (parF (bl s)).2 = 0 ∧ (parF (bl t)).2 = 0 ∧ (parF (bl u)).2 = 0
  · obtain ⟨e1, e2, e3⟩ := e
    have a1 := Nat.le_trans (fl_qadd fA fB) (show _ ≤ FB by decide)
    have a2 := Nat.le_trans (fl_qadd fB fA) (show _ ≤ FB by decide)
    have a3 := Nat.le_trans (fl_qmul fA fB) (show _ ≤ FB by decide)
    have a4 := Nat.le_trans (fl_qmul fB fA) (show _ ≤ FB by decide)
    have a5 := Nat.le_trans (fl_qadd (fl_qadd fA fB) fC) (show _ ≤ FB by decide)
    have a6 := Nat.le_trans (fl_qadd fA (fl_qadd fB fC)) (show _ ≤ FB by decide)
    have a7 := Nat.le_trans (fl_qadd fB fC) (show _ ≤ FB by decide)
    have a8 := Nat.le_trans (fl_qmul (fl_qmul fA fB) fC) (show _ ≤ FB by decide)
    have a9 := Nat.le_trans (fl_qmul fA (fl_qmul fB fC)) (show _ ≤ FB by decide)
    have a10 := Nat.le_trans (fl_qmul fB fC) (show _ ≤ FB by decide)
    have a11 := Nat.le_trans (fl_qmul fA fC) (show _ ≤ FB by decide)
    have a12 := Nat.le_trans (fl_qmul (fl_qadd fA fB) fC) (show _ ≤ FB by decide)
    have a13 := Nat.le_trans (fl_qadd (fl_qmul fA fC) (fl_qmul fB fC)) (show _ ≤ FB by decide)
    have a14 := Nat.le_trans (fl_qsub fA fB) (show _ ≤ FB by decide)
    have a15 := Nat.le_trans (fl_qadd (fl_qsub fA fB) fB) (show _ ≤ FB by decide)
    have a16 := Nat.le_trans (fl_qdiv fA fB) (show _ ≤ FB by decide)
    have a17 := Nat.le_trans (fl_qmul (fl_qdiv fA fB) fB) (show _ ≤ FB by decide)
    have q1 : (qadd A B = qadd B A) = True := eq_true (by rw [qadd_eq, qadd_eq]; grind)
    have q2 : (qmul A B = qmul B A) = True := eq_true (by rw [qmul_eq, qmul_eq]; grind)
    have q3 : (qadd (qadd A B) C = qadd A (qadd B C)) = True := eq_true (by simp only [qadd_eq]; grind)
    have q4 : (qmul (qmul A B) C = qmul A (qmul B C)) = True := eq_true (by simp only [qmul_eq]; grind)
    have q5 : (qmul (qadd A B) C = qadd (qmul A C) (qmul B C)) = True := eq_true (by simp only [qmul_eq, qadd_eq]; grind)
    have q6 : (qadd (qsub A B) B = A) = True := eq_true (by simp only [qsub_eq, qadd_eq]; grind)
    by_cases h0 : B = 0
    · have c0 : (cmpQ B 0 == 0) = true := by rw [cmpQ_z]; exact decide_eq_true h0
      subst h0
      simp (maxSteps := 1000000) only [go_sem, h1, h2, h3, hbA, hbB, hbC, hAA, hAB, hAC, e1, e2, e3, gA, gB, gC, kB, a1, a2, a3, a4, a5, a6, a7, a8, a9, a10, a11, a12, a13, a14, a15, q1, q2, q3, q4, q5, q6, c0]
      (repeat' (first | exact Conv.refl _ | refine And.intro ?_ ?_)) <;> first | omega | decide
    · have c0 : (cmpQ B 0 != 0) = true := by
        have := cmpQ_z B 0
        rw [decide_eq_false h0] at this
        unfold bne; rw [this]; rfl
      have q7 : (qmul (qdiv A B) B = A) = True := eq_true (by rw [qmul_eq, qdiv_eq]; exact Rat.div_mul_cancel h0)
      simp (maxSteps := 1000000) only [go_sem, h1, h2, h3, hbA, hbB, hbC, hAA, hAB, hAC, e1, e2, e3, gA, gB, gC, kB, a1, a2, a3, a4, a5, a6, a7, a8, a9, a10, a11, a12, a13, a14, a15, a16, a17, q1, q2, q3, q4, q5, q6, q7, h0, c0]
      (repeat' (first | exact Conv.refl _ | refine And.intro ?_ ?_)) <;> first | omega | decide
  · simp (maxSteps := 1000000) only [go_sem, h1, h2, h3, hbA, hbB, hbC, hAA, hAB, hAC, e]
    (repeat' (first | exact Conv.refl _ | refine And.intro ?_ ?_)) <;> first | omega | decide
theorem FracOrders_spec (hP : PrgOk P) (s t u : ByteArray) : CSpec P 4 [.str s, .str t, .str u] (.bool true) := by
  have HE := Kt0_all hP TF hP.tF
  refine CSpec_vc (E := ⟨TF, Kt0⟩) (fn4 hP) HE hP.mix rfl (by first | rfl | (simp only [go_sem]; done)) (by first | rfl | (simp only [go_sem]; done)) (Nat.le_of_ble_eq_true rfl) ?_
  by_cases h1 : 2048 < s.size
  · simp (maxSteps := 1000000) only [go_sem, h1]
    (repeat' (first | exact Conv.refl _ | refine And.intro ?_ ?_)) <;> first | omega | decide
  by_cases h2 : 2048 < t.size
  · simp (maxSteps := 1000000) only [go_sem, h1, h2]
    (repeat' (first | exact Conv.refl _ | refine And.intro ?_ ?_)) <;> first | omega | decide
  by_cases h3 : 2048 < u.size
  · simp (maxSteps := 1000000) only [go_sem, h1, h2, h3]
    (repeat' (first | exact Conv.refl _ | refine And.intro ?_ ?_)) <;> first | omega | decide
  have hbA : (bl s).length ≤ 549755813888 := by have := size_bl s; omega
  obtain ⟨A, hAA⟩ : ∃ q, (parF (bl s)).1 = q := ⟨_, rfl⟩
  have fA : fl A ≤ 1024 := by rw [← hAA]; exact parF_fl _
  have gA : fl A ≤ FB := Nat.le_trans fA (by decide)
  have iA : blen A.den ≤ 34359738368 := Nat.le_trans (fl_den fA) (by decide)
  have kA : wl A.num ≤ 68719476736 := Nat.le_trans (fl_num fA) (by decide)
  have hbB : (bl t).length ≤ 549755813888 := by have := size_bl t; omega
  obtain ⟨B, hAB⟩ : ∃ q, (parF (bl t)).1 = q := ⟨_, rfl⟩
  have fB : fl B ≤ 1024 := by rw [← hAB]; exact parF_fl _
  have gB : fl B ≤ FB := Nat.le_trans fB (by decide)
  have iB : blen B.den ≤ 34359738368 := Nat.le_trans (fl_den fB) (by decide)
  have kB : wl B.num ≤ 68719476736 := Nat.le_trans (fl_num fB) (by decide)
  have hbC : (bl u).length ≤ 549755813888 := by have := size_bl u; omega
  obtain ⟨C, hAC⟩ : ∃ q, (parF (bl u)).1 = q := ⟨_, rfl⟩
  have fC : fl C ≤ 1024 := by rw [← hAC]; exact parF_fl _
  have gC : fl C ≤ FB := Nat.le_trans fC (by decide)
  have iC : blen C.den ≤ 34359738368 := Nat.le_trans (fl_den fC) (by decide)
  have kC : wl C.num ≤ 68719476736 := Nat.le_trans (fl_num fC) (by decide)
  by_cases e : (parF (bl s)).2 = 0 ∧ (parF (bl t)).2 = 0 ∧ (parF (bl u)).2 = 0
  · obtain ⟨e1, e2, e3⟩ := e
    have a1 := Nat.le_trans (fl_qadd fA fC) (show _ ≤ FB by decide)
    have a2 := Nat.le_trans (fl_qadd fB fC) (show _ ≤ FB by decide)
    have a3 := Nat.le_trans (fl_qmul fA fC) (show _ ≤ FB by decide)
    have a4 := Nat.le_trans (fl_qmul fB fC) (show _ ≤ FB by decide)
    have f0 : fl 0 ≤ FB := fl_zero _
    have m1 := cmpQ_swap A B
    have m2 := cmpQ_z A B
    have m3 := cmpQ_add A B C
    have m4 := cmpQ_mulc A B C
    by_cases k1 : cmpQ A B ≤ 0
    · by_cases k2 : cmpQ B C ≤ 0
      · have k3 := cmpQ_trans k1 k2
        simp (maxSteps := 1000000) only [go_sem, h1, h2, h3, hbA, hbB, hbC, hAA, hAB, hAC, e1, e2, e3, gA, gB, gC, kA, kC, a1, a2, a3, a4, f0, m1, m2, m3, m4, k1, k2, k3, qtS_eq, bne_self_eq_false, beq_self_eq_true]
        (repeat' (first | exact Conv.refl _ | refine And.intro ?_ ?_)) <;> first | omega | decide
      · simp (maxSteps := 1000000) only [go_sem, h1, h2, h3, hbA, hbB, hbC, hAA, hAB, hAC, e1, e2, e3, gA, gB, gC, kA, kC, a1, a2, a3, a4, f0, m1, m2, m3, m4, k1, k2, qtS_eq, bne_self_eq_false, beq_self_eq_true]
        (repeat' (first | exact Conv.refl _ | refine And.intro ?_ ?_)) <;> first | omega | decide
    · simp (maxSteps := 1000000) only [go_sem, h1, h2, h3, hbA, hbB, hbC, hAA, hAB, hAC, e1, e2, e3, gA, gB, gC, kA, kC, a1, a2, a3, a4, f0, m1, m2, m3, m4, k1, qtS_eq, bne_self_eq_false, beq_self_eq_true]
      (repeat' (first | exact Conv.refl _ | refine And.intro ?_ ?_)) <;> first | omega | decide
  · simp (maxSteps := 1000000) only [go_sem, h1, h2, h3, hbA, hbB, hbC, hAA, hAB, hAC, e]
    (repeat' (first | exact Conv.refl _ | refine And.intro ?_ ?_)) <;> first | omega | decide
theorem FracBack_spec (hP : PrgOk P) (s : ByteArray) : CSpec P 3 [.str s] (.bool true) := by
  have HE := Jt0_all hP TF hP.tF
  refine CSpec_vc (E := ⟨TF, Jt0⟩) (fn3 hP) HE hP.mix rfl (by first | rfl | (simp only [go_sem]; done)) (by first | rfl | (simp only [go_sem]; done)) (Nat.le_of_ble_eq_true rfl) ?_
  by_cases h1 : 2048 < s.size
  · simp (maxSteps := 1000000) only [go_sem, h1]
    (repeat' (first | exact Conv.refl _ | refine And.intro ?_ ?_)) <;> first | omega | decide
  have hbA : (bl s).length ≤ 549755813888 := by have := size_bl s; omega
  obtain ⟨A, hAA⟩ : ∃ q, (parF (bl s)).1 = q := ⟨_, rfl⟩
  have fA : fl A ≤ 1024 := by rw [← hAA]; exact parF_fl _
  have gA : fl A ≤ FB := Nat.le_trans fA (by decide)
  have iA : blen A.den ≤ 34359738368 := Nat.le_trans (fl_den fA) (by decide)
  have kA : wl A.num ≤ 68719476736 := Nat.le_trans (fl_num fA) (by decide)
  by_cases e : (parF (bl s)).2 = 0
  · have tx := parF_text e
    rw [hAA] at tx
    have tx' : ((qtS A).toList == s.toList) = true := by rw [tx]; exact beq_self_eq_true _
    have e' : ((parF (bl s)).2 != 0) = false := by rw [e]; rfl
    have i2 : blen A.den ≤ 68719476736 := Nat.le_trans (fl_den fA) (by decide)
    have kn : blen A.num.natAbs ≤ 68719476736 := kA
    have kn2 : blen A.num.natAbs ≤ 34359738368 := Nat.le_trans (fl_num fA) (by decide)
    have bp : (0 < blen A.den) = True := eq_true (by have := mt (blen_zero_iff A.den).1 A.den_nz; omega)
    have gc := q_gcd A
    have b1 : blen 1 ≤ 68719476736 := by decide
    have d1 : ((decS 1).toList == (ByteArray.mk #[49]).toList) = true := by
      have h := decS_val (s := ByteArray.mk #[49]) (show okD [49] from ⟨by decide, by decide, by decide⟩)
      rw [show valL (bl (ByteArray.mk #[49])) = 1 by rfl] at h
      rw [h]; exact beq_self_eq_true _
    have wf := flo_wl (fl_num fA)
    have wf1 : wl (flo A) ≤ 68719476736 := Nat.le_trans wf (by decide)
    have wf2 : wl (flo A) ≤ 34359738368 := Nat.le_trans wf (by decide)
    have w1 : wl 1 ≤ 34359738368 := by decide
    have w1' : wl 1 ≤ 68719476736 := by decide
    have fo : fl ((flo A : Int) : Rat) ≤ FB := fl_int (Nat.le_trans wf (by decide)) (by decide)
    have fo1 : fl ((flo A + 1 : Int) : Rat) ≤ FB := fl_int (Nat.le_trans (wl_add wf (show wl 1 ≤ 1 by decide)) (by decide)) (by decide)
    simp (maxSteps := 1000000) only [go_sem, h1, hbA, hAA, e', gA, iA, i2, kA, kn, kn2, tx', bp, gc, b1, d1, wf1, wf2, w1, w1', fo, fo1, flo_le, flo_lt]
    (repeat' (first | exact Conv.refl _ | refine And.intro ?_ ?_)) <;> first | omega | decide
  · have e' : ((parF (bl s)).2 != 0) = true := by simpa using e
    rcases parF_err (bl s) with h | ⟨hz, h⟩
    · exact absurd h e
    · rw [hz] at hAA
      subst hAA
      have zt : ((qtS 0).toList == (ByteArray.mk #[48]).toList) = true := lit_text [48] rfl (by decide) (by decide) (by decide) (by decide) (by decide) (by decide +kernel)
      rcases h with h | h
      · simp (maxSteps := 1000000) only [go_sem, h1, hbA, hz, h, gA, zt]
        (repeat' (first | exact Conv.refl _ | refine And.intro ?_ ?_)) <;> first | omega | decide
      · simp (maxSteps := 1000000) only [go_sem, h1, hbA, hz, h, gA, zt]
        (repeat' (first | exact Conv.refl _ | refine And.intro ?_ ?_)) <;> first | omega | decide
end Go.Proofs.YtjnhekedclcbfaaDoor.AM
