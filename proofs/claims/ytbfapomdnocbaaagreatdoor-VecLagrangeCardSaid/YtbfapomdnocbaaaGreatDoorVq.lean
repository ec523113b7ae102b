/- The laws of vectors: Lagrange, determinants. -/
import Derived.Test.YtbfapomdnocbaaaGreatDoorVp
namespace Go.Proofs.YtbfapomdnocbaaaGreatDoor.AM
set_option linter.all false
set_option autoImplicit true
set_option relaxedAutoImplicit true
open Go Go.Proofs
set_option maxRecDepth 100000
set_option maxHeartbeats 8000000
set_option linter.unusedSimpArgs false
variable {P : Program}
theorem dt_cr1 (a b : V3) : vdt a (vcr a b) = 0 := by unfold vdt vcr; simp only []; grind
theorem dt_cr2 (a b : V3) : vdt b (vcr a b) = 0 := by unfold vdt vcr; simp only []; grind
theorem lagr (a b : V3) : vdt (vcr a b) (vcr a b) = vdt a a * vdt b b - vdt a b * vdt a b := by unfold vdt vcr; simp only []; grind
theorem rk_lt2 (a b : V3) : (decide (vcr a b = v0)) = decide (rkN [a, b] < 2) := by
 have h := rkN_ok [a, b]
 generalize rkN [a, b] = n at *
 have hc : vcr b a = v0 ↔ vcr a b = v0 := ⟨cr_swap0, cr_swap0⟩
 rcases h with ⟨rfl, h⟩ | ⟨rfl, _, h⟩ | ⟨rfl, ⟨x, hx, y, hy, h⟩, _⟩ | ⟨rfl, x, hx, y, hy, z, hz, h⟩
 · have : vcr a b = v0 := by rw [h a (by simp)]; exact cr_zl b
   rw [decide_eq_true this]; rfl
 · rw [decide_eq_true (h a (by simp) b (by simp))]; rfl
 · have : vcr a b ≠ v0 := fun e => by
    simp only [List.mem_cons, List.not_mem_nil, or_false] at hx hy
    rcases hx with rfl | rfl <;> rcases hy with rfl | rfl
    · exact h (cr_same _)
    · exact h e
    · exact h (hc.2 e)
    · exact h (cr_same _)
   rw [decide_eq_false this]; rfl
 · have : vcr a b ≠ v0 := fun e => by
    have e2 := det_cr h
    have hd : ∀ u v : V3, vdet u u v = 0 := fun u v => by unfold vdet vdt vcr; simp only []; grind
    simp only [List.mem_cons, List.not_mem_nil, or_false] at hy hz
    rcases hy with rfl | rfl <;> rcases hz with rfl | rfl
    · exact e2 (cr_same _)
    · exact e2 e
    · exact e2 (hc.2 e)
    · exact e2 (cr_same _)
   rw [decide_eq_false this]; rfl
theorem vec_ext {a b : V3} (h : a = b) : cmpV a b = 0 := by rw [h]; exact cmpV_self b
theorem VecLagrange_spec (hP : PrgOk P) (x y z x' y' z' : ByteArray) (hx : x.size ≤ maxS) (hy : y.size ≤ maxS) (hz : z.size ≤ maxS) (hx' : x'.size ≤ maxS) (hy' : y'.size ≤ maxS) (hz' : z'.size ≤ maxS) : CSpec P 7 [.agg [.str x, .str y, .str z], .agg [.str x', .str y', .str z']] (.bool true) := by
 have HE := Zt4_all hP TF hP.tF
 have lx := len_s hx
 have ly := len_s hy
 have lz := len_s hz
 have lx' := len_s hx'
 have ly' := len_s hy'
 have lz' := len_s hz'
 refine CSpec_go (E := ⟨TF, Zt4⟩) (fn7 hP) HE hP.mix ?_
 cases h1 : (okM x y z && (okM x' y' z' && okM x y z))
 · simp only [go_sem, lx, ly, lz, lx', ly', lz', h1]
   exact .refl _
 have fa := ptV_fl x y z
 have fb := ptV_fl x' y' z'
 obtain ⟨a, ha⟩ : ∃ a, ptV x y z = a := ⟨_, rfl⟩
 obtain ⟨b, hb⟩ : ∃ b, ptV x' y' z' = b := ⟨_, rfl⟩
 rw [ha] at fa
 rw [hb] at fb
 have le1 : ((0 : Int) ≤ 1) = True := eq_true (by decide)
 obtain ⟨⟨r1a, r2a, r3a⟩, ⟨d1a, d2a, d3a⟩, ⟨t1a, t2a, t3a⟩, ⟨x1a, x2a, x3a⟩, f1a, f2a, f3a⟩ := bv_of fa (show _ ≤ 65536 by decide)
 obtain ⟨⟨r1b, r2b, r3b⟩, ⟨d1b, d2b, d3b⟩, ⟨t1b, t2b, t3b⟩, ⟨x1b, x2b, x3b⟩, f1b, f2b, f3b⟩ := bv_of fb (show _ ≤ 65536 by decide)
 obtain ⟨C1, hC1⟩ : ∃ q, qsub (qmul a.2.1 b.2.2) (qmul a.2.2 b.2.1) = q := ⟨_, rfl⟩
 obtain ⟨C2, hC2⟩ : ∃ q, qsub (qmul a.2.2 b.1) (qmul a.1 b.2.2) = q := ⟨_, rfl⟩
 obtain ⟨C3, hC3⟩ : ∃ q, qsub (qmul a.1 b.2.1) (qmul a.2.1 b.1) = q := ⟨_, rfl⟩
 obtain ⟨D1, hD1⟩ : ∃ q, qsub (qmul b.2.1 a.2.2) (qmul b.2.2 a.2.1) = q := ⟨_, rfl⟩
 obtain ⟨D2, hD2⟩ : ∃ q, qsub (qmul b.2.2 a.1) (qmul b.1 a.2.2) = q := ⟨_, rfl⟩
 obtain ⟨D3, hD3⟩ : ∃ q, qsub (qmul b.1 a.2.1) (qmul b.2.1 a.1) = q := ⟨_, rfl⟩
 have hC : (C1, C2, C3) = vcr a b := by rw [← hC1, ← hC2, ← hC3, ← vcq_vcr]; rfl
 have hD : (D1, D2, D3) = vcr b a := by rw [← hD1, ← hD2, ← hD3, ← vcq_vcr]; rfl
 have fc : fV (C1, C2, C3) 4097 := by rw [hC, ← vcq_vcr]; exact vcq_fl fa fb
 have fd : fV (D1, D2, D3) 4097 := by rw [hD, ← vcq_vcr]; exact vcq_fl fb fa
 obtain ⟨⟨r1c, r2c, r3c⟩, ⟨d1c, d2c, d3c⟩, ⟨t1c, t2c, t3c⟩, ⟨x1c, x2c, x3c⟩, f1c, f2c, f3c⟩ := bv_of fc (show _ ≤ 65536 by decide)
 obtain ⟨⟨r1d, r2d, r3d⟩, ⟨d1d, d2d, d3d⟩, ⟨t1d, t2d, t3d⟩, ⟨x1d, x2d, x3d⟩, f1d, f2d, f3d⟩ := bv_of fd (show _ ≤ 65536 by decide)
 simp only [] at r1c r2c r3c r1d r2d r3d x1c x2c x3c x1d x2d x3d f1c f2c f3c f1d f2d f3d t1c t2c t3c
 have n1 := Nat.le_trans (fl_qneg fd.1) (show _ ≤ FB by decide)
 have n2 := Nat.le_trans (fl_qneg fd.2.1) (show _ ≤ FB by decide)
 have n3 := Nat.le_trans (fl_qneg fd.2.2) (show _ ≤ FB by decide)
 have e1 : cmpQ (qdt (a.1, a.2.1, a.2.2) (C1, C2, C3)) 0 = 0 := by rw [qdt_vdt, hC]; rw [show vdt (a.1, a.2.1, a.2.2) (vcr a b) = 0 from dt_cr1 a b]; exact cmpQ_self 0
 have e2 : cmpQ (qdt (b.1, b.2.1, b.2.2) (C1, C2, C3)) 0 = 0 := by rw [qdt_vdt, hC]; rw [show vdt (b.1, b.2.1, b.2.2) (vcr a b) = 0 from dt_cr2 a b]; exact cmpQ_self 0
 have e3 : cmpV (C1, C2, C3) (qneg D1, qneg D2, qneg D3) = 0 := vec_ext (by
  rw [hC, cr_swap, ← hD]
  unfold vsc
  simp only [qneg_eq]
  refine v3_ext ?_ ?_ ?_ <;> (simp only []; grind))
 have e4 : decide (((C1, C2, C3) : V3) = v0) = decide (rkN [(a.1, a.2.1, a.2.2), (b.1, b.2.1, b.2.2)] < 2) := by rw [hC]; exact rk_lt2 a b
 have e5 : cmpQ (qdt (C1, C2, C3) (C1, C2, C3)) (qsub (qmul (qdt (a.1, a.2.1, a.2.2) (a.1, a.2.1, a.2.2)) (qdt (b.1, b.2.1, b.2.2) (b.1, b.2.1, b.2.2))) (qmul (qdt (a.1, a.2.1, a.2.2) (b.1, b.2.1, b.2.2)) (qdt (a.1, a.2.1, a.2.2) (b.1, b.2.1, b.2.2)))) = 0 := by
  rw [qdt_vdt, qdt_vdt, qdt_vdt, qdt_vdt, hC, lagr, qsub_eq, qmul_eq, qmul_eq]
  exact cmpQ_self _
 have g1 := qdt_fl (a := a) (b := a) fa fa
 have g2 := qdt_fl (a := b) (b := b) fb fb
 have g3 := qdt_fl (a := a) (b := b) fa fb
 have g1' : fl (qdt (a.1, a.2.1, a.2.2) (a.1, a.2.1, a.2.2)) ≤ FB := Nat.le_trans g1 (by decide)
 have g2' : fl (qdt (b.1, b.2.1, b.2.2) (b.1, b.2.1, b.2.2)) ≤ FB := Nat.le_trans g2 (by decide)
 have g3' : fl (qdt (a.1, a.2.1, a.2.2) (b.1, b.2.1, b.2.2)) ≤ FB := Nat.le_trans g3 (by decide)
 have g4 : fl (qmul (qdt (a.1, a.2.1, a.2.2) (a.1, a.2.1, a.2.2)) (qdt (b.1, b.2.1, b.2.2) (b.1, b.2.1, b.2.2))) ≤ FB := Nat.le_trans (fl_qmul g1 g2) (by decide)
 have g5 : fl (qmul (qdt (a.1, a.2.1, a.2.2) (b.1, b.2.1, b.2.2)) (qdt (a.1, a.2.1, a.2.2) (b.1, b.2.1, b.2.2))) ≤ FB := Nat.le_trans (fl_qmul g3 g3) (by decide)
 have g6 : fl (qdt (C1, C2, C3) (C1, C2, C3)) ≤ FB := Nat.le_trans (qdt_fl fc fc) (by decide)
 have g7 : fl (qsub (qmul (qdt (a.1, a.2.1, a.2.2) (a.1, a.2.1, a.2.2)) (qdt (b.1, b.2.1, b.2.2) (b.1, b.2.1, b.2.2))) (qmul (qdt (a.1, a.2.1, a.2.2) (b.1, b.2.1, b.2.2)) (qdt (a.1, a.2.1, a.2.2) (b.1, b.2.1, b.2.2)))) ≤ FB := Nat.le_trans (fl_qsub (fl_qmul g1 g2) (fl_qmul g3 g3)) (by decide)
 have g8 : wl (qdt (a.1, a.2.1, a.2.2) (C1, C2, C3)).num ≤ 68719476736 := fl_num (Nat.le_trans (qdt_fl (a := a) fa fc) (by decide))
 have g9 : wl (qdt (b.1, b.2.1, b.2.2) (C1, C2, C3)).num ≤ 68719476736 := fl_num (Nat.le_trans (qdt_fl (a := b) fb fc) (by decide))
 simp only [go_sem, lx, ly, lz, lx', ly', lz', h1, ha, hb, le1, hC1, hC2, hC3, hD1, hD2, hD3, r1a, r2a, r3a, r1b, r2b, r3b, t1a, t2a, t3a, t1b, t2b, t3b, t1c, t2c, t3c, x1a, x2a, x3a, x1b, x2b, x3b, f1a, f2a, f3a, f1b, f2b, f3b, f1c, f2c, f3c, f1d, f2d, f3d, n1, n2, n3, e1, e2, e3, e4, e5, g1', g2', g3', g4, g5, g6, g7, g8, g9, decide_true, beq_self_eq_true]
 exact .refl _
end Go.Proofs.YtbfapomdnocbaaaGreatDoor.AM
