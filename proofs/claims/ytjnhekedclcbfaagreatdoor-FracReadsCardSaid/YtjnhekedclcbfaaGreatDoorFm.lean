/- The statements of layer 3 that ask the document's answer. -/
import Derived.Test.YtjnhekedclcbfaaGreatDoorB10
namespace Go.Proofs.YtjnhekedclcbfaaGreatDoor.AM
set_option linter.all false
set_option autoImplicit true
set_option relaxedAutoImplicit true
open Go Go.Proofs
set_option maxRecDepth 100000
set_option maxHeartbeats 8000000
set_option linter.unusedSimpArgs false
variable {P : Program}

theorem zero_text : ((qtS 0).toList == (ByteArray.mk #[48]).toList) = true := lit_text [48] rfl (by decide) (by decide) (by decide) (by decide) (by decide) (by decide +kernel)
theorem nz_eq (q : Rat) : decide (q.num.natAbs = 0) = decide (q = 0) := decide_eq_decide.2 ⟨fun h => num_zero.1 (by omega), fun h => by rw [h]; rfl⟩
theorem one_int {q : Rat} (h : q.den = 1) : ((q.num : Int) : Rat) = q := Rat.ext rfl h.symm
theorem cmpZ_zero (q : Rat) : cmpZ q.num 0 = cmpQ q 0 := by
  rw [cmpQ_mk]
  show _ = cmpZ (q.num * 1) (0 * q.den)
  rw [Int.mul_one, Int.zero_mul]
theorem make_key {a b : Int} (hb : b ≠ 0) : qlow (sg (decide (a < 0) != decide (b < 0)) a.natAbs) b.natAbs = qdiv (a : Rat) (b : Rat) := by
  rw [qdiv_eq, int_div hb, qlow_eq]
  have := sg_xor2 a b 1 hb
  rw [Nat.mul_one, Int.natCast_one, Int.mul_one] at this
  rw [this]
theorem FracMakes_spec (hP : PrgOk P) (s t : ByteArray) : CSpec P 3 [.str s, .str t] (.bool true) := by
  have HE := Jt1_all hP TF hP.tF
  refine CSpec_vc (E := ⟨TF, Jt1⟩) (fn3 hP) HE hP.mix rfl (by first | rfl | (simp only [go_sem]; done)) (by first | rfl | (simp only [go_sem]; done)) (Nat.le_of_ble_eq_true rfl) ?_
  by_cases h1 : 2048 < s.size
  · simp (maxSteps := 1000000) only [go_sem, h1]
    (repeat' (first | exact Conv.refl _ | refine And.intro ?_ ?_)) <;> first | omega | decide
  by_cases h2 : 2048 < t.size
  · simp (maxSteps := 1000000) only [go_sem, h1, h2]
    (repeat' (first | exact Conv.refl _ | refine And.intro ?_ ?_)) <;> first | omega | decide
  have hbA : (bl s).length ≤ 4294967296 := by have := size_bl s; omega
  obtain ⟨A, hAA⟩ : ∃ q, (parF (bl s)).1 = q := ⟨_, rfl⟩
  have fA : fl A ≤ 1024 := by rw [← hAA]; exact parF_fl _
  have gA : fl A ≤ FB := Nat.le_trans fA (by decide)
  have iA : blen A.den ≤ 68719476736 := Nat.le_trans (fl_den fA) (by decide)
  have jA : wl A.num ≤ FB := Nat.le_trans (fl_num fA) (by decide)
  have kA : wl A.num ≤ 68719476736 := Nat.le_trans (fl_num fA) (by decide)
  have nA : blen A.num.natAbs ≤ 34359738368 := Nat.le_trans (fl_num fA) (by decide)
  have dA : blen A.den ≤ 34359738368 := Nat.le_trans (fl_den fA) (by decide)
  have hbB : (bl t).length ≤ 4294967296 := by have := size_bl t; omega
  obtain ⟨B, hAB⟩ : ∃ q, (parF (bl t)).1 = q := ⟨_, rfl⟩
  have fB : fl B ≤ 1024 := by rw [← hAB]; exact parF_fl _
  have gB : fl B ≤ FB := Nat.le_trans fB (by decide)
  have iB : blen B.den ≤ 68719476736 := Nat.le_trans (fl_den fB) (by decide)
  have jB : wl B.num ≤ FB := Nat.le_trans (fl_num fB) (by decide)
  have kB : wl B.num ≤ 68719476736 := Nat.le_trans (fl_num fB) (by decide)
  have nB : blen B.num.natAbs ≤ 34359738368 := Nat.le_trans (fl_num fB) (by decide)
  have dB : blen B.den ≤ 34359738368 := Nat.le_trans (fl_den fB) (by decide)
  by_cases d1 : A.den = 1
  · have d1' := decide_eq_true d1
    by_cases d2 : B.den = 1
    · have d2' := decide_eq_true d2
      have e1 := one_int d1
      have e2 := one_int d2
      have fi : fl ((A.num : Int) : Rat) ≤ FB := by rw [e1]; exact gA
      by_cases h0 : B = 0
      · have h0n : B.num = 0 := num_zero.2 h0
        have h0' : decide (B = 0) = true := decide_eq_true h0
        have f0 : fl 0 ≤ FB := fl_zero _
        have z0 : wl 0 ≤ FB := by decide
        have z1 : decide (Int.natAbs 0 = 0) = true := rfl
        simp (maxSteps := 1000000) only [go_sem, h1, h2, hbA, hbB, hAA, hAB, iA, iB, jA, jB, kA, kB, d1', d2', h0n, digs0, nz_eq, h0', zero_text, f0, z0, z1]
        (repeat' (first | exact Conv.refl _ | refine And.intro ?_ ?_)) <;> first | omega | decide
      · have h0n : B.num ≠ 0 := fun e => h0 (num_zero.1 e)
        have h0' : decide (B = 0) = false := decide_eq_false h0
        have key := make_key (a := A.num) h0n
        have fq : fl (qdiv ((A.num : Int) : Rat) ((B.num : Int) : Rat)) ≤ FB := by
          rw [e1, e2]; exact Nat.le_trans (fl_qdiv fA fB) (by decide)
        have p0 : 0 < B.num.natAbs := by omega
        simp (maxSteps := 1000000) only [go_sem, h1, h2, hbA, hbB, hAA, hAB, iA, iB, jA, jB, kA, kB, d1', d2', h0n, digs0, nz_eq, h0', key, fq, fi, gA, nA, nB, p0]
        simp (maxSteps := 1000000) only [go_sem, e1]
        (repeat' (first | exact Conv.refl _ | refine And.intro ?_ ?_)) <;> first | omega | decide
    · have d2' := decide_eq_false d2
      simp (maxSteps := 1000000) only [go_sem, h1, h2, hbA, hbB, hAA, hAB, iA, iB, d1', d2']
      (repeat' (first | exact Conv.refl _ | refine And.intro ?_ ?_)) <;> first | omega | decide
  · have d1' := decide_eq_false d1
    simp (maxSteps := 1000000) only [go_sem, h1, h2, hbA, hbB, hAA, hAB, iA, iB, d1']
    (repeat' (first | exact Conv.refl _ | refine And.intro ?_ ?_)) <;> first | omega | decide
theorem FracReckons_spec (hP : PrgOk P) (s t : ByteArray) : CSpec P 5 [.str s, .str t] (.bool true) := by
  have HE := Jt1_all hP TF hP.tF
  refine CSpec_vc (E := ⟨TF, Jt1⟩) (fn5 hP) HE hP.mix rfl (by first | rfl | (simp only [go_sem]; done)) (by first | rfl | (simp only [go_sem]; done)) (Nat.le_of_ble_eq_true rfl) ?_
  by_cases h1 : 2048 < s.size
  · simp (maxSteps := 1000000) only [go_sem, h1]
    (repeat' (first | exact Conv.refl _ | refine And.intro ?_ ?_)) <;> first | omega | decide
  by_cases h2 : 2048 < t.size
  · simp (maxSteps := 1000000) only [go_sem, h1, h2]
    (repeat' (first | exact Conv.refl _ | refine And.intro ?_ ?_)) <;> first | omega | decide
  have hbA : (bl s).length ≤ 4294967296 := by have := size_bl s; omega
  obtain ⟨A, hAA⟩ : ∃ q, (parF (bl s)).1 = q := ⟨_, rfl⟩
  have fA : fl A ≤ 1024 := by rw [← hAA]; exact parF_fl _
  have gA : fl A ≤ FB := Nat.le_trans fA (by decide)
  have iA : blen A.den ≤ 68719476736 := Nat.le_trans (fl_den fA) (by decide)
  have jA : wl A.num ≤ FB := Nat.le_trans (fl_num fA) (by decide)
  have kA : wl A.num ≤ 68719476736 := Nat.le_trans (fl_num fA) (by decide)
  have nA : blen A.num.natAbs ≤ 34359738368 := Nat.le_trans (fl_num fA) (by decide)
  have dA : blen A.den ≤ 34359738368 := Nat.le_trans (fl_den fA) (by decide)
  have hbB : (bl t).length ≤ 4294967296 := by have := size_bl t; omega
  obtain ⟨B, hAB⟩ : ∃ q, (parF (bl t)).1 = q := ⟨_, rfl⟩
  have fB : fl B ≤ 1024 := by rw [← hAB]; exact parF_fl _
  have gB : fl B ≤ FB := Nat.le_trans fB (by decide)
  have iB : blen B.den ≤ 68719476736 := Nat.le_trans (fl_den fB) (by decide)
  have jB : wl B.num ≤ FB := Nat.le_trans (fl_num fB) (by decide)
  have kB : wl B.num ≤ 68719476736 := Nat.le_trans (fl_num fB) (by decide)
  have nB : blen B.num.natAbs ≤ 34359738368 := Nat.le_trans (fl_num fB) (by decide)
  have dB : blen B.den ≤ 34359738368 := Nat.le_trans (fl_den fB) (by decide)
  have s1 : fl (qadd A B) ≤ FB := Nat.le_trans (fl_qadd fA fB) (by decide)
  have s2 : fl (qsub A B) ≤ FB := Nat.le_trans (fl_qsub fA fB) (by decide)
  have s3 : fl (qmul A B) ≤ FB := Nat.le_trans (fl_qmul fA fB) (by decide)
  have s4 : fl (qdiv A B) ≤ FB := Nat.le_trans (fl_qdiv fA fB) (by decide)
  have s5 : wl (flo A) ≤ 68719476736 := Nat.le_trans (flo_wl (fl_num fA)) (by decide)
  have s6 : blen (flo A).natAbs ≤ 34359738368 := Nat.le_trans (flo_wl (fl_num fA)) (by decide)
  have so := sg_of (flo A)
  by_cases h0 : B = 0
  · have f0 : fl 0 ≤ FB := fl_zero _
    subst h0
    simp (maxSteps := 1000000) only [go_sem, h1, h2, hbA, hbB, hAA, hAB, gA, gB, s1, s2, s3, s5, s6, so, bne_self_eq_false, digs0, nz_eq, zero_text, f0, beq_self_eq_true]
    (repeat' (first | exact Conv.refl _ | refine And.intro ?_ ?_)) <;> first | omega | decide
  · have h0' : decide (B = 0) = false := decide_eq_false h0
    simp (maxSteps := 1000000) only [go_sem, h1, h2, hbA, hbB, hAA, hAB, gA, gB, s1, s2, s3, s4, s5, s6, so, bne_self_eq_false, h0, digs0, nz_eq, h0', beq_self_eq_true]
    (repeat' (first | exact Conv.refl _ | refine And.intro ?_ ?_)) <;> first | omega | decide
theorem FracGreat_spec (hP : PrgOk P) (s t u : ByteArray) : CSpec P 6 [.str s, .str t, .str u] (.bool true) := by
  have HE := Jt1_all hP TF hP.tF
  refine CSpec_vc (E := ⟨TF, Jt1⟩) (fn6 hP) HE hP.mix rfl (by first | rfl | (simp only [go_sem]; done)) (by first | rfl | (simp only [go_sem]; done)) (Nat.le_of_ble_eq_true rfl) ?_
  by_cases h1 : 2048 < s.size
  · simp (maxSteps := 1000000) only [go_sem, h1]
    (repeat' (first | exact Conv.refl _ | refine And.intro ?_ ?_)) <;> first | omega | decide
  by_cases h2 : 2048 < t.size
  · simp (maxSteps := 1000000) only [go_sem, h1, h2]
    (repeat' (first | exact Conv.refl _ | refine And.intro ?_ ?_)) <;> first | omega | decide
  by_cases h3 : 2048 < u.size
  · simp (maxSteps := 1000000) only [go_sem, h1, h2, h3]
    (repeat' (first | exact Conv.refl _ | refine And.intro ?_ ?_)) <;> first | omega | decide
  have hbA : (bl s).length ≤ 4294967296 := by have := size_bl s; omega
  obtain ⟨A, hAA⟩ : ∃ q, (parF (bl s)).1 = q := ⟨_, rfl⟩
  have fA : fl A ≤ 1024 := by rw [← hAA]; exact parF_fl _
  have gA : fl A ≤ FB := Nat.le_trans fA (by decide)
  have iA : blen A.den ≤ 68719476736 := Nat.le_trans (fl_den fA) (by decide)
  have jA : wl A.num ≤ FB := Nat.le_trans (fl_num fA) (by decide)
  have kA : wl A.num ≤ 68719476736 := Nat.le_trans (fl_num fA) (by decide)
  have nA : blen A.num.natAbs ≤ 34359738368 := Nat.le_trans (fl_num fA) (by decide)
  have dA : blen A.den ≤ 34359738368 := Nat.le_trans (fl_den fA) (by decide)
  have hbB : (bl t).length ≤ 4294967296 := by have := size_bl t; omega
  obtain ⟨B, hAB⟩ : ∃ q, (parF (bl t)).1 = q := ⟨_, rfl⟩
  have fB : fl B ≤ 1024 := by rw [← hAB]; exact parF_fl _
  have gB : fl B ≤ FB := Nat.le_trans fB (by decide)
  have iB : blen B.den ≤ 68719476736 := Nat.le_trans (fl_den fB) (by decide)
  have jB : wl B.num ≤ FB := Nat.le_trans (fl_num fB) (by decide)
  have kB : wl B.num ≤ 68719476736 := Nat.le_trans (fl_num fB) (by decide)
  have nB : blen B.num.natAbs ≤ 34359738368 := Nat.le_trans (fl_num fB) (by decide)
  have dB : blen B.den ≤ 34359738368 := Nat.le_trans (fl_den fB) (by decide)
  have hbC : (bl u).length ≤ 4294967296 := by have := size_bl u; omega
  obtain ⟨C, hAC⟩ : ∃ q, (parF (bl u)).1 = q := ⟨_, rfl⟩
  have fC : fl C ≤ 1024 := by rw [← hAC]; exact parF_fl _
  have gC : fl C ≤ FB := Nat.le_trans fC (by decide)
  have iC : blen C.den ≤ 68719476736 := Nat.le_trans (fl_den fC) (by decide)
  have jC : wl C.num ≤ FB := Nat.le_trans (fl_num fC) (by decide)
  have kC : wl C.num ≤ 68719476736 := Nat.le_trans (fl_num fC) (by decide)
  have nC : blen C.num.natAbs ≤ 34359738368 := Nat.le_trans (fl_num fC) (by decide)
  have dC : blen C.den ≤ 34359738368 := Nat.le_trans (fl_den fC) (by decide)
  have s1 : fl (qmul A B) ≤ FB := Nat.le_trans (fl_qmul fA fB) (by decide)
  have s2 : fl (qmul (qmul A B) C) ≤ FB := Nat.le_trans (fl_qmul (fl_qmul fA fB) fC) (by decide)
  have s3 : fl (qmul B B) ≤ FB := Nat.le_trans (fl_qmul fB fB) (by decide)
  have s4 : fl (qsub A (qmul B B)) ≤ FB := Nat.le_trans (fl_qsub fA (fl_qmul fB fB)) (by decide)
  have s5' := fl_qadd (fl_qmul (fl_qmul fA fB) fC) (fl_qsub fA (fl_qmul fB fB))
  obtain ⟨D, hD⟩ : ∃ D, qadd (qmul (qmul A B) C) (qsub A (qmul B B)) = D := ⟨_, rfl⟩
  rw [hD] at s5'
  have s5 : fl D ≤ FB := Nat.le_trans s5' (by decide)
  have s6 : wl (flo D) ≤ 68719476736 := Nat.le_trans (flo_wl (fl_num s5')) (by decide)
  have s7 : blen (flo D).natAbs ≤ 34359738368 := Nat.le_trans (flo_wl (fl_num s5')) (by decide)
  have s8 : wl D.num ≤ 68719476736 := Nat.le_trans (fl_num s5') (by decide)
  have s9 : wl 0 ≤ 68719476736 := by decide
  have so := sg_of (flo D)
  simp (maxSteps := 1000000) only [go_sem, h1, h2, h3, hbA, hbB, hbC, hAA, hAB, hAC, gA, gB, gC, s1, s2, s3, s4, s5, s6, s7, s8, s9, hD, so, beq_self_eq_true, cmpZ_zero]
  (repeat' (first | exact Conv.refl _ | refine And.intro ?_ ?_)) <;> first | omega | decide
end Go.Proofs.YtjnhekedclcbfaaGreatDoor.AM
