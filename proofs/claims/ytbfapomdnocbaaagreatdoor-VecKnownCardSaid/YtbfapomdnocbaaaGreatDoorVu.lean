/- The laws of vectors: the examples. -/
import Derived.Test.YtbfapomdnocbaaaGreatDoorB10
namespace Go.Proofs.YtbfapomdnocbaaaGreatDoor.AM
set_option linter.all false
set_option autoImplicit true
set_option relaxedAutoImplicit true
open Go Go.Proofs
set_option maxRecDepth 100000
set_option maxHeartbeats 8000000
set_option linter.unusedSimpArgs false
variable {P : Program}
theorem VecKnown_spec (hP : PrgOk P) : CSpec P 11 [] (.bool true) := by
 have HE := Zt4_all hP TF hP.tF
 obtain ⟨Z, hZ⟩ : ∃ q : Rat, q = 0 := ⟨_, rfl⟩
 obtain ⟨H, hH⟩ : ∃ q : Rat, q = mkRat 1 2 := ⟨_, rfl⟩
 obtain ⟨T, hT⟩ : ∃ q : Rat, q = mkRat (-1) 3 := ⟨_, rfl⟩
 have p1 : bl ⟨#[49, 47, 50]⟩ = [49, 47, 50] := rfl
 have p2 : bl ⟨#[48]⟩ = [48] := rfl
 have p3 : bl ⟨#[45, 49, 47, 51]⟩ = [45, 49, 47, 51] := rfl
 have p4 : bl ⟨#[120]⟩ = [120] := rfl
 have p5 : bl ⟨#[49, 47, 48]⟩ = [49, 47, 48] := rfl
 have p6 : bl ⟨#[53]⟩ = [53] := rfl
 have p7 : bl ⟨#[]⟩ = [] := rfl
 have e1 : parF [49, 47, 50] = (H, 0) := parF_lit (by decide) (by decide) (by decide) (by rw [hH]; decide +kernel)
 have e2 : parF [48] = (Z, 0) := parF_lit (by decide) (by decide) (by decide) (by rw [hZ]; decide +kernel)
 have e3 : parF [45, 49, 47, 51] = (T, 0) := parF_lit (by decide) (by decide) (by decide) (by rw [hT]; decide +kernel)
 have e4 : parF [120] = (0, 12) := parF_1 (.inl (by decide))
 have e6 : (parF [53]).2 = 0 := by rw [parF_4 (by decide) (by decide) (by decide)]
 have e7 : parF [] = (0, 12) := parF_1 (.inl (by decide))
 have v1 : parV [49, 47, 50] [45, 49, 47, 51] [48] = ((H, T, Z), 0) := by unfold parV; rw [e1, e2, e3]; rfl
 have v2 : parV [120] [49, 47, 48] [48] = ((0, 0, 0), 12) := by unfold parV; rw [e4]; rfl
 have v3 : parV [53] [49, 47, 50] [] = ((0, 0, 0), 12) := by unfold parV; rw [if_pos e6, e1, e7]; rfl
 have ln : ∀ {l : List Nat}, l.length ≤ 8 → (l.length ≤ 140737488355328) = True := fun h => eq_true (by omega)
 have l1 := ln (l := [49, 47, 50]) (by decide)
 have l2 := ln (l := [48]) (by decide)
 have l3 := ln (l := [45, 49, 47, 51]) (by decide)
 have l4 := ln (l := [120]) (by decide)
 have l5 := ln (l := [49, 47, 48]) (by decide)
 have l6 := ln (l := [53]) (by decide)
 have l7 := ln (l := []) (by decide)
 obtain ⟨D1, hD1⟩ : ∃ q : Rat, q = 3 := ⟨_, rfl⟩
 obtain ⟨D2, hD2⟩ : ∃ q : Rat, q = -2 := ⟨_, rfl⟩
 have hD : dirA (H, T, Z) = (D1, D2, Z) := by rw [hH, hT, hZ, hD1, hD2]; decide +kernel
 have t1 : ((qtS D1).toList == (ByteArray.mk #[51]).toList) = true := lit_text [51] rfl (by decide) (by decide) (by decide) (by decide) (by decide) (by rw [hD1]; decide +kernel)
 have t2 : ((qtS D2).toList == (ByteArray.mk #[45, 50]).toList) = true := lit_text [45, 50] rfl (by decide) (by decide) (by decide) (by decide) (by decide) (by rw [hD2]; decide +kernel)
 have t3 : ((qtS Z).toList == (ByteArray.mk #[48]).toList) = true := lit_text [48] rfl (by decide) (by decide) (by decide) (by decide) (by decide) (by rw [hZ]; decide +kernel)
 have t4 : ((qtS H).toList == (ByteArray.mk #[49, 47, 50]).toList) = true := lit_text [49, 47, 50] rfl (by decide) (by decide) (by decide) (by decide) (by decide) (by rw [hH]; decide +kernel)
 obtain ⟨M1, hM1⟩ : ∃ q : Rat, q = -1 := ⟨_, rfl⟩
 have hE : dirA (((0 : Int) : Rat), ((0 : Int) : Rat), ((-7 : Int) : Rat)) = (Z, Z, M1) := by rw [hZ, hM1]; decide +kernel
 have t5 : ((qtS M1).toList == (ByteArray.mk #[45, 49]).toList) = true := lit_text [45, 49] rfl (by decide) (by decide) (by decide) (by decide) (by decide) (by rw [hM1]; decide +kernel)
 have hF : dirA (0, 0, 0) = (Z, Z, Z) := by rw [hZ]; decide +kernel
 have hZV : decide (((Z, Z, Z) : V3) = v0) = true := decide_eq_true (by rw [hZ]; rfl)
 have hZ0 : decide (((0, 0, 0) : V3) = v0) = true := decide_eq_true rfl
 have r1 : rkN [(((1 : Int) : Rat), ((2 : Int) : Rat), ((3 : Int) : Rat)), (((2 : Int) : Rat), ((4 : Int) : Rat), ((6 : Int) : Rat))] = 1 := rkN_is (by unfold Rk; decide +kernel)
 have r2 : rkN [(((1 : Int) : Rat), ((2 : Int) : Rat), ((3 : Int) : Rat)), (((0 : Int) : Rat), ((0 : Int) : Rat), ((1 : Int) : Rat))] = 2 := rkN_is (by unfold Rk; decide +kernel)
 have r3 : rkN [] = 0 := rkN_is (by unfold Rk; decide +kernel)
 have r4 : rkN [(0, 0, 0)] = 0 := rkN_is (by unfold Rk; decide +kernel)
 have bi : ∀ n : Int, -8 ≤ n → n ≤ 8 → ((-9223372036854775808 : Int) ≤ n ∧ n ≤ 9223372036854775807) = True := fun n h h' => eq_true (by omega)
 have fi : ∀ (n : Int) (m : Nat), -8 ≤ n → n ≤ 8 → 64 ≤ m → (fl ((n : Int) : Rat) ≤ m) = True := fun n m h h' hm => eq_true (Nat.le_trans (fl_i64 (by omega) (by omega)) hm)
 obtain ⟨E1, hE1⟩ : ∃ q : Rat, q = 1 := ⟨_, rfl⟩
 have hdet : qdt (((1 : Int) : Rat), ((0 : Int) : Rat), ((0 : Int) : Rat)) (vcq (((0 : Int) : Rat), ((1 : Int) : Rat), ((0 : Int) : Rat)) (((0 : Int) : Rat), ((0 : Int) : Rat), ((1 : Int) : Rat))) = E1 := by rw [hE1]; unfold qdt vcq; simp only [qadd_eq, qmul_eq, qsub_eq]; decide +kernel
 have t6 : ((qtS E1).toList == (ByteArray.mk #[49]).toList) = true := lit_text [49] rfl (by decide) (by decide) (by decide) (by decide) (by decide) (by rw [hE1]; decide +kernel)
 obtain ⟨G1, hG1⟩ : ∃ q : Rat, q = mkRat 1 2 := ⟨_, rfl⟩
 obtain ⟨G2, hG2⟩ : ∃ q : Rat, q = 1 := ⟨_, rfl⟩
 obtain ⟨G3, hG3⟩ : ∃ q : Rat, q = mkRat 3 2 := ⟨_, rfl⟩
 have hm1 : qmul qhf (qadd 0 ((1 : Int) : Rat)) = G1 := by unfold qhf; rw [hG1, qmul_eq, qadd_eq, qdiv_eq]; decide +kernel
 have hm2 : qmul qhf (qadd 0 ((2 : Int) : Rat)) = G2 := by unfold qhf; rw [hG2, qmul_eq, qadd_eq, qdiv_eq]; decide +kernel
 have hm3 : qmul qhf (qadd 0 ((3 : Int) : Rat)) = G3 := by unfold qhf; rw [hG3, qmul_eq, qadd_eq, qdiv_eq]; decide +kernel
 have t7 : ((qtS G1).toList == (ByteArray.mk #[49, 47, 50]).toList) = true := lit_text [49, 47, 50] rfl (by decide) (by decide) (by decide) (by decide) (by decide) (by rw [hG1]; decide +kernel)
 have t8 : ((qtS G2).toList == (ByteArray.mk #[49]).toList) = true := lit_text [49] rfl (by decide) (by decide) (by decide) (by decide) (by decide) (by rw [hG2]; decide +kernel)
 have t9 : ((qtS G3).toList == (ByteArray.mk #[51, 47, 50]).toList) = true := lit_text [51, 47, 50] rfl (by decide) (by decide) (by decide) (by decide) (by decide) (by rw [hG3]; decide +kernel)
 have hc : cmpV (((0 : Int) : Rat), ((5 : Int) : Rat), ((5 : Int) : Rat)) (((1 : Int) : Rat), ((0 : Int) : Rat), ((0 : Int) : Rat)) = -1 := by decide +kernel
 have t0 : ((qtS 0).toList == (ByteArray.mk #[48]).toList) = true := lit_text [48] rfl (by decide) (by decide) (by decide) (by decide) (by decide) (by decide +kernel)
 have bi0 := bi (0) (by decide) (by decide)
 have fi0_0 := fi (0) 268435456 (by decide) (by decide) (by decide)
 have fi0_1 := fi (0) 65536 (by decide) (by decide) (by decide)
 have fi0_2 := fi (0) 8388608 (by decide) (by decide) (by decide)
 have fi0_3 := fi (0) FB (by decide) (by decide) (by decide)
 have bi1 := bi (1) (by decide) (by decide)
 have fi1_0 := fi (1) 268435456 (by decide) (by decide) (by decide)
 have fi1_1 := fi (1) 65536 (by decide) (by decide) (by decide)
 have fi1_2 := fi (1) 8388608 (by decide) (by decide) (by decide)
 have fi1_3 := fi (1) FB (by decide) (by decide) (by decide)
 have bi2 := bi (2) (by decide) (by decide)
 have fi2_0 := fi (2) 268435456 (by decide) (by decide) (by decide)
 have fi2_1 := fi (2) 65536 (by decide) (by decide) (by decide)
 have fi2_2 := fi (2) 8388608 (by decide) (by decide) (by decide)
 have fi2_3 := fi (2) FB (by decide) (by decide) (by decide)
 have bi3 := bi (3) (by decide) (by decide)
 have fi3_0 := fi (3) 268435456 (by decide) (by decide) (by decide)
 have fi3_1 := fi (3) 65536 (by decide) (by decide) (by decide)
 have fi3_2 := fi (3) 8388608 (by decide) (by decide) (by decide)
 have fi3_3 := fi (3) FB (by decide) (by decide) (by decide)
 have bi4 := bi (4) (by decide) (by decide)
 have fi4_0 := fi (4) 268435456 (by decide) (by decide) (by decide)
 have fi4_1 := fi (4) 65536 (by decide) (by decide) (by decide)
 have fi4_2 := fi (4) 8388608 (by decide) (by decide) (by decide)
 have fi4_3 := fi (4) FB (by decide) (by decide) (by decide)
 have bi5 := bi (5) (by decide) (by decide)
 have fi5_0 := fi (5) 268435456 (by decide) (by decide) (by decide)
 have fi5_1 := fi (5) 65536 (by decide) (by decide) (by decide)
 have fi5_2 := fi (5) 8388608 (by decide) (by decide) (by decide)
 have fi5_3 := fi (5) FB (by decide) (by decide) (by decide)
 have bi6 := bi (6) (by decide) (by decide)
 have fi6_0 := fi (6) 268435456 (by decide) (by decide) (by decide)
 have fi6_1 := fi (6) 65536 (by decide) (by decide) (by decide)
 have fi6_2 := fi (6) 8388608 (by decide) (by decide) (by decide)
 have fi6_3 := fi (6) FB (by decide) (by decide) (by decide)
 have bim7 := bi (-7) (by decide) (by decide)
 have fim7_0 := fi (-7) 268435456 (by decide) (by decide) (by decide)
 have fim7_1 := fi (-7) 65536 (by decide) (by decide) (by decide)
 have fim7_2 := fi (-7) 8388608 (by decide) (by decide) (by decide)
 have fim7_3 := fi (-7) FB (by decide) (by decide) (by decide)
 have f0_0 : fl 0 ≤ 268435456 := fl_zero _
 have f0_1 : fl 0 ≤ 65536 := fl_zero _
 have f0_2 : fl 0 ≤ 8388608 := fl_zero _
 have f0_3 : fl 0 ≤ FB := fl_zero _
 have vH_0 : fl H ≤ 268435456 := Nat.le_trans (by rw [hH]; decide +kernel : fl H ≤ 8) (by decide)
 have vH_3 : fl H ≤ FB := Nat.le_trans (by rw [hH]; decide +kernel : fl H ≤ 8) (by decide)
 have vT_0 : fl T ≤ 268435456 := Nat.le_trans (by rw [hT]; decide +kernel : fl T ≤ 8) (by decide)
 have vT_3 : fl T ≤ FB := Nat.le_trans (by rw [hT]; decide +kernel : fl T ≤ 8) (by decide)
 have vZ_0 : fl Z ≤ 268435456 := Nat.le_trans (by rw [hZ]; decide +kernel : fl Z ≤ 8) (by decide)
 have vZ_3 : fl Z ≤ FB := Nat.le_trans (by rw [hZ]; decide +kernel : fl Z ≤ 8) (by decide)
 have vD1_0 : fl D1 ≤ 268435456 := Nat.le_trans (by rw [hD1]; decide +kernel : fl D1 ≤ 8) (by decide)
 have vD1_3 : fl D1 ≤ FB := Nat.le_trans (by rw [hD1]; decide +kernel : fl D1 ≤ 8) (by decide)
 have vD2_0 : fl D2 ≤ 268435456 := Nat.le_trans (by rw [hD2]; decide +kernel : fl D2 ≤ 8) (by decide)
 have vD2_3 : fl D2 ≤ FB := Nat.le_trans (by rw [hD2]; decide +kernel : fl D2 ≤ 8) (by decide)
 have vM1_0 : fl M1 ≤ 268435456 := Nat.le_trans (by rw [hM1]; decide +kernel : fl M1 ≤ 8) (by decide)
 have vM1_3 : fl M1 ≤ FB := Nat.le_trans (by rw [hM1]; decide +kernel : fl M1 ≤ 8) (by decide)
 have vE1_0 : fl E1 ≤ 268435456 := Nat.le_trans (by rw [hE1]; decide +kernel : fl E1 ≤ 8) (by decide)
 have vE1_3 : fl E1 ≤ FB := Nat.le_trans (by rw [hE1]; decide +kernel : fl E1 ≤ 8) (by decide)
 have vG1_0 : fl G1 ≤ 268435456 := Nat.le_trans (by rw [hG1]; decide +kernel : fl G1 ≤ 8) (by decide)
 have vG1_3 : fl G1 ≤ FB := Nat.le_trans (by rw [hG1]; decide +kernel : fl G1 ≤ 8) (by decide)
 have vG2_0 : fl G2 ≤ 268435456 := Nat.le_trans (by rw [hG2]; decide +kernel : fl G2 ≤ 8) (by decide)
 have vG2_3 : fl G2 ≤ FB := Nat.le_trans (by rw [hG2]; decide +kernel : fl G2 ≤ 8) (by decide)
 have vG3_0 : fl G3 ≤ 268435456 := Nat.le_trans (by rw [hG3]; decide +kernel : fl G3 ≤ 8) (by decide)
 have vG3_3 : fl G3 ≤ FB := Nat.le_trans (by rw [hG3]; decide +kernel : fl G3 ≤ 8) (by decide)
 refine CSpec_go (E := ⟨TF, Zt4⟩) (fn11 hP) HE hP.mix ?_
 simp only [go_sem, p1, p2, p3, p4, p5, p6, p7, l1, l2, l3, l4, l5, l6, l7, v1, v2, v3, hD, t1, t2, t3, t4, t5, hE, hF, hZV, hZ0, r1, r2, r3, r4, hdet, t6, hm1, hm2, hm3, t7, t8, t9, hc, t0, bi0, fi0_0, fi0_1, fi0_2, fi0_3, bi1, fi1_0, fi1_1, fi1_2, fi1_3, bi2, fi2_0, fi2_1, fi2_2, fi2_3, bi3, fi3_0, fi3_1, fi3_2, fi3_3, bi4, fi4_0, fi4_1, fi4_2, fi4_3, bi5, fi5_0, fi5_1, fi5_2, fi5_3, bi6, fi6_0, fi6_1, fi6_2, fi6_3, bim7, fim7_0, fim7_1, fim7_2, fim7_3, f0_0, f0_1, f0_2, f0_3, vH_0, vH_3, vT_0, vT_3, vZ_0, vZ_3, vD1_0, vD1_3, vD2_0, vD2_3, vM1_0, vM1_3, vE1_0, vE1_3, vG1_0, vG1_3, vG2_0, vG2_3, vG3_0, vG3_3]
 exact .refl _
end Go.Proofs.YtbfapomdnocbaaaGreatDoor.AM
