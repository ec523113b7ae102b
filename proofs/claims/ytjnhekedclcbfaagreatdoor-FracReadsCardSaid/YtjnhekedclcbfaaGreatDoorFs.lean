/- The statement of layer 3 on texts. -/
import Derived.Test.YtjnhekedclcbfaaGreatDoorFm
import Derived.Test.YtjnhekedclcbfaaGreatDoorFn
namespace Go.Proofs.YtjnhekedclcbfaaGreatDoor.AM
set_option linter.all false
set_option autoImplicit true
set_option relaxedAutoImplicit true
open Go Go.Proofs
set_option maxRecDepth 100000
set_option maxHeartbeats 8000000
set_option linter.unusedSimpArgs false
variable {P : Program}

noncomputable def Jt2 : Nat → List AV → Option (Prop × AV) := addS Jt1 18 rLitS
theorem Jt2_all (hP : PrgOk P) (T) (hT : TyOk P T) : EnvOk P ⟨T, Jt2⟩ := ((Jt1_all hP T hT).add (rLitS_ok hP))
theorem Jt2_at (f a) : Jt2 f a = (addS Jt1 18 rLitS) f a := rfl
attribute [go_sem] Jt2_at
theorem FracReads_spec (hP : PrgOk P) (s : ByteArray) (n : Int) (hn : -9223372036854775808 ≤ n ∧ n ≤ 9223372036854775807) : CSpec P 4 [.str s, .int .i64 n] (.bool true) := by
  have HE := Jt2_all hP TF hP.tF
  refine CSpec_vc (E := ⟨TF, Jt2⟩) (fn4 hP) HE hP.mix rfl (by first | rfl | (simp only [go_sem]; done)) (by first | rfl | (simp only [go_sem]; done)) (Nat.le_of_ble_eq_true rfl) ?_
  by_cases h1 : 2048 < s.size
  · simp (maxSteps := 1000000) only [go_sem, h1]
    (repeat' (first | exact Conv.refl _ | refine And.intro ?_ ?_)) <;> first | omega | decide
  have hb1 : (bl s).length ≤ 4294967296 := by have := size_bl s; omega
  have hb2 : (bl s).length ≤ 549755813888 := by omega
  obtain ⟨A, hA⟩ : ∃ q, (parF (bl s)).1 = q := ⟨_, rfl⟩
  have fA : fl A ≤ 1024 := by rw [← hA]; exact parF_fl _
  obtain ⟨L, hL⟩ : ∃ q, litF (bl s) = q := ⟨_, rfl⟩
  have gL : fl L.1 ≤ FB := by rw [← hL]; exact Nat.le_trans (litF_fl _) (by decide)
  have gA : fl A ≤ FB := Nat.le_trans fA (by decide)
  have gN : fl (qneg A) ≤ FB := fl_qneg gA
  have k1 : wl A.num ≤ 68719476736 := Nat.le_trans (fl_num fA) (by decide)
  have k2 : blen A.den ≤ 34359738368 := Nat.le_trans (fl_den fA) (by decide)
  have k3 : blen A.den ≤ 68719476736 := Nat.le_trans (fl_den fA) (by decide)
  have k4 : blen A.num.natAbs ≤ 34359738368 := Nat.le_trans (fl_num fA) (by decide)
  have n1 := hn.1
  have n2 := hn.2
  have gI : fl ((n : Int) : Rat) ≤ FB := fl_int (Nat.le_trans (show wl n ≤ 64 from (blen_le_iff _ _).2 (by omega)) (by decide)) (by decide)
  have so := sg_of A.num
  simp (maxSteps := 1000000) only [go_sem, h1, hb1, hb2, hA, hL, gL, gA, gN, k1, k2, k3, k4, n1, n2, gI, so, beq_self_eq_true]
  (repeat' (first | exact Conv.refl _ | refine And.intro ?_ ?_)) <;> first | omega | decide
end Go.Proofs.YtjnhekedclcbfaaGreatDoor.AM
