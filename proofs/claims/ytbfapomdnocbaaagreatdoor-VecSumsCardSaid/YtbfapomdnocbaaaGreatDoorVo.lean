/- The laws of vectors: words, texts, sums, products. -/
import Derived.Test.YtbfapomdnocbaaaGreatDoorB10
namespace Go.Proofs.YtbfapomdnocbaaaGreatDoor.AM
set_option linter.all false
set_option autoImplicit true
set_option relaxedAutoImplicit true
open Go Go.Proofs
set_option maxRecDepth 100000
set_option maxHeartbeats 8000000
set_option linter.unusedSimpArgs false
variable {P : Program}
theorem len_s {s : ByteArray} (h : s.size ≤ maxS) : (bl s).length ≤ 140737488355328 := by
 have := size_bl s
 unfold maxS at h
 omega
theorem VecSums_spec (hP : PrgOk P) (x y z x' y' z' : ByteArray) (hx : x.size ≤ maxS) (hy : y.size ≤ maxS) (hz : z.size ≤ maxS) (hx' : x'.size ≤ maxS) (hy' : y'.size ≤ maxS) (hz' : z'.size ≤ maxS) : CSpec P 10 [.agg [.str x, .str y, .str z], .agg [.str x', .str y', .str z']] (.bool true) := by
 have HE := Zt4_all hP TF hP.tF
 have lx := len_s hx
 have ly := len_s hy
 have lz := len_s hz
 have lx' := len_s hx'
 have ly' := len_s hy'
 have lz' := len_s hz'
 refine CSpec_go (E := ⟨TF, Zt4⟩) (fn10 hP) HE hP.mix ?_
 cases h1 : okM x y z
 · cases h2 : okM x' y' z'
   · simp only [go_sem, lx, ly, lz, lx', ly', lz', h1, h2]
     exact .refl _
   · simp only [go_sem, lx, ly, lz, lx', ly', lz', h1, h2]
     exact .refl _
 · cases h2 : okM x' y' z'
   · simp only [go_sem, lx, ly, lz, lx', ly', lz', h1, h2]
     exact .refl _
   · have fa := ptV_fl x y z
     have fb := ptV_fl x' y' z'
     obtain ⟨a, ha⟩ : ∃ a, ptV x y z = a := ⟨_, rfl⟩
     obtain ⟨b, hb⟩ : ∃ b, ptV x' y' z' = b := ⟨_, rfl⟩
     rw [ha] at fa
     rw [hb] at fb
     have n1 : (1 : Int).toNat = 1 := rfl
     have le1 : ((0 : Int) ≤ 1) = True := eq_true (by decide)
     obtain ⟨a1, a2, a3⟩ := fV_mono fa (show _ ≤ FB by decide)
     obtain ⟨b1, b2, b3⟩ := fV_mono fb (show _ ≤ FB by decide)
     obtain ⟨c1, c2, c3⟩ := fV_mono fa (show _ ≤ 268435456 by decide)
     obtain ⟨d1, d2, d3⟩ := fV_mono fb (show _ ≤ 268435456 by decide)
     have qa : ∀ {u v : Rat}, fl u ≤ 1024 → fl v ≤ 1024 → fl (qadd u v) ≤ FB := fun h h' => Nat.le_trans (fl_qadd h h') (by decide)
     have qs : ∀ {u v : Rat}, fl u ≤ 1024 → fl v ≤ 1024 → fl (qsub u v) ≤ FB := fun h h' => Nat.le_trans (fl_qsub h h') (by decide)
     have qm : ∀ {u v : Rat}, fl u ≤ 1024 → fl v ≤ 1024 → fl (qmul u v) ≤ FB := fun h h' => Nat.le_trans (fl_qmul h h') (by decide)
     have qn : ∀ {u : Rat}, fl u ≤ 1024 → fl (qneg u) ≤ FB := fun h => Nat.le_trans (fl_qneg h) (by decide)
     have qh : ∀ {u v : Rat}, fl u ≤ 1024 → fl v ≤ 1024 → fl (qmul qhf (qadd u v)) ≤ FB := fun h h' => Nat.le_trans (fl_qmul qhf_fl (fl_qadd h h')) (by decide)
     simp only [go_sem, lx, ly, lz, lx', ly', lz', h1, h2, ha, hb, n1, le1, a1, a2, a3, b1, b2, b3, c1, c2, c3, d1, d2, d3, qa fa.1 fb.1, qa fa.2.1 fb.2.1, qa fa.2.2 fb.2.2, qs fa.1 fb.1, qs fa.2.1 fb.2.1, qs fa.2.2 fb.2.2, qn fa.1, qn fa.2.1, qn fa.2.2, qh fa.1 fb.1, qh fa.2.1 fb.2.1, qh fa.2.2 fb.2.2, qm fb.2.1 fa.1, qm fb.2.1 fa.2.1, qm fb.2.1 fa.2.2, decide_true, beq_self_eq_true]
     exact .refl _
end Go.Proofs.YtbfapomdnocbaaaGreatDoor.AM
