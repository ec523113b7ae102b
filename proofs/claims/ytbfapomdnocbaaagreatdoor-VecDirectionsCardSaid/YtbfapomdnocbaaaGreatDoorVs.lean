/- The laws of vectors: directions. -/
import Derived.Test.YtbfapomdnocbaaaGreatDoorVp
namespace Go.Proofs.YtbfapomdnocbaaaGreatDoor.AM
set_option linter.all false
set_option autoImplicit true
set_option relaxedAutoImplicit true
open Go Go.Proofs
set_option maxRecDepth 100000
set_option maxHeartbeats 8000000
set_option linter.unusedSimpArgs false
variable {P : Program}
theorem cmpQ_i64 (a b : Rat) : -9223372036854775808 ≤ cmpQ a b ∧ cmpQ a b ≤ 9223372036854775807 := by
 unfold cmpQ; split
 · decide
 · split <;> decide
theorem VecDirections_spec (hP : PrgOk P) (x y z x' y' z' : ByteArray) (hx : x.size ≤ maxS) (hy : y.size ≤ maxS) (hz : z.size ≤ maxS) (hx' : x'.size ≤ maxS) (hy' : y'.size ≤ maxS) (hz' : z'.size ≤ maxS) : CSpec P 9 [.agg [.str x, .str y, .str z], .agg [.str x', .str y', .str z']] (.bool true) := by
 have HE := Zt4_all hP TF hP.tF
 have lx := len_s hx
 have ly := len_s hy
 have lz := len_s hz
 have lx' := len_s hx'
 have ly' := len_s hy'
 have lz' := len_s hz'
 refine CSpec_go (E := ⟨TF, Zt4⟩) (fn9 hP) HE hP.mix ?_
 cases h1 : (okM x y z && (okM x' y' z' && okM x y z))
 · simp only [go_sem, lx, ly, lz, lx', ly', lz', h1]
   exact .refl _
 have fa := ptV_fl x y z
 have fb := ptV_fl x' y' z'
 obtain ⟨a, ha⟩ : ∃ a, ptV x y z = a := ⟨_, rfl⟩
 obtain ⟨b, hb⟩ : ∃ b, ptV x' y' z' = b := ⟨_, rfl⟩
 rw [ha] at fa
 rw [hb] at fb
 have le1 : ((0 : Int) ≤ 1) = True := eq_true (by decide)
 obtain ⟨⟨r1a, r2a, r3a⟩, ⟨d1a, d2a, d3a⟩, ⟨t1a, t2a, t3a⟩, ⟨x1a, x2a, x3a⟩, f1a, f2a, f3a⟩ := bv_of fa (show _ ≤ 65536 by decide)
 obtain ⟨⟨r1b, r2b, r3b⟩, ⟨d1b, d2b, d3b⟩, ⟨t1b, t2b, t3b⟩, ⟨x1b, x2b, x3b⟩, f1b, f2b, f3b⟩ := bv_of fb (show _ ≤ 65536 by decide)
 have fk : fV (qmul b.1 a.1, qmul b.1 a.2.1, qmul b.1 a.2.2) 2048 := ⟨fl_qmul fb.1 fa.1, fl_qmul fb.1 fa.2.1, fl_qmul fb.1 fa.2.2⟩
 obtain ⟨⟨r1k, r2k, r3k⟩, ⟨d1k, d2k, d3k⟩, ⟨t1k, t2k, t3k⟩, ⟨x1k, x2k, x3k⟩, f1k, f2k, f3k⟩ := bv_of fk (show _ ≤ 65536 by decide)
 simp only [] at x1k x2k x3k
 obtain ⟨d, hd⟩ : ∃ d, dirA (a.1, a.2.1, a.2.2) = d := ⟨_, rfl⟩
 have hda : dirA a = d := hd
 have fd : fV d 4097 := by rw [← hda]; exact fV_mono (dir_fV fa) (by decide)
 obtain ⟨⟨r1d, r2d, r3d⟩, ⟨d1d, d2d, d3d⟩, ⟨t1d, t2d, t3d⟩, ⟨x1d, x2d, x3d⟩, f1d, f2d, f3d⟩ := bv_of fd (show _ ≤ 65536 by decide)
 obtain ⟨e, he⟩ : ∃ e, dirA (qmul b.1 a.1, qmul b.1 a.2.1, qmul b.1 a.2.2) = e := ⟨_, rfl⟩
 have fe : fV e 8193 := by rw [← he]; exact fV_mono (dir_fV fk) (by decide)
 obtain ⟨⟨r1e, r2e, r3e⟩, ⟨d1e, d2e, d3e⟩, ⟨t1e, t2e, t3e⟩, ⟨x1e, x2e, x3e⟩, f1e, f2e, f3e⟩ := bv_of fe (show _ ≤ 65536 by decide)
 have hd2 : dirA (d.1, d.2.1, d.2.2) = d := by
  rw [← hda]; exact dir_idem a
 obtain ⟨s1, s2⟩ := cmpQ_i64 b.1 0
 have f64 := fl_i64 s1 s2
 have f64' := Nat.le_trans f64 (show _ ≤ FB by decide)
 have w1 := Nat.le_trans (fl_qmul f64 fd.1) (show _ ≤ FB by decide)
 have w2 := Nat.le_trans (fl_qmul f64 fd.2.1) (show _ ≤ FB by decide)
 have w3 := Nat.le_trans (fl_qmul f64 fd.2.2) (show _ ≤ FB by decide)
 have e1 : cmpV (e.1, e.2.1, e.2.2) (qmul ((cmpQ b.1 0 : Int) : Rat) d.1, qmul ((cmpQ b.1 0 : Int) : Rat) d.2.1, qmul ((cmpQ b.1 0 : Int) : Rat) d.2.2) = 0 := by
  have : (e.1, e.2.1, e.2.2) = (qmul ((cmpQ b.1 0 : Int) : Rat) d.1, qmul ((cmpQ b.1 0 : Int) : Rat) d.2.1, qmul ((cmpQ b.1 0 : Int) : Rat) d.2.2) := by
   simp only [qmul_eq]
   have h := dir_any b.1 a
   rw [hda] at h
   have h' : e = vsc ((cmpQ b.1 0 : Int) : Rat) d := by
    rw [← h, ← he]; simp only [qmul_eq]; rfl
   exact h'
  rw [this]; exact cmpV_self _
 have e2 : cmpV (d.1, d.2.1, d.2.2) (d.1, d.2.1, d.2.2) = 0 := cmpV_self _
 have e3 : decide (((d.1, d.2.1, d.2.2) : V3) = v0) = decide (((a.1, a.2.1, a.2.2) : V3) = v0) := by
  have : (d = v0) = (a = v0) := propext (by rw [← hda]; exact dir_v0 a)
  show decide (d = v0) = decide (a = v0)
  simp only [this]
 have e4 : decide (((qsub (qmul a.2.1 d.2.2) (qmul a.2.2 d.2.1), qsub (qmul a.2.2 d.1) (qmul a.1 d.2.2), qsub (qmul a.1 d.2.1) (qmul a.2.1 d.1)) : V3) = v0) = true := decide_eq_true (by
  show vcq a d = v0
  rw [vcq_vcr, ← hda]; exact dir_cross a)
 have dd : ∀ {x : Rat}, ((dV a x : Int) : Rat).den = 1 := rfl
 have n1 : d.1.den = 1 := by rw [← hda]; rfl
 have n2 : d.2.1.den = 1 := by rw [← hda]; rfl
 have n3 : d.2.2.den = 1 := by rw [← hda]; rfl
 have dS : ((decS 1).toList == (ByteArray.mk #[49]).toList) = true := by
  have := decS_val (s := ⟨#[49]⟩) (show okD [49] by decide)
  rw [show valL (bl ⟨#[49]⟩) = 1 from rfl] at this
  rw [this]; exact beq_self_eq_true _
 have b1' : blen 1 ≤ 34359738368 := by decide
 have b2' : blen 1 ≤ 68719476736 := by decide
 have nb : wl b.1.num ≤ 68719476736 := Nat.le_trans (fl_num fb.1) (by decide)
 obtain ⟨g1, g2, g3⟩ := fV_mono (vcq_fl fa fd) (show _ ≤ FB by decide)
 have g1 : fl (qsub (qmul a.2.1 d.2.2) (qmul a.2.2 d.2.1)) ≤ FB := g1
 have g2 : fl (qsub (qmul a.2.2 d.1) (qmul a.1 d.2.2)) ≤ FB := g2
 have g3 : fl (qsub (qmul a.1 d.2.1) (qmul a.2.1 d.1)) ≤ FB := g3
 have g4 : wl (qdt (a.1, a.2.1, a.2.2) (d.1, d.2.1, d.2.2)).num ≤ 68719476736 := fl_num (Nat.le_trans (qdt_fl (a := a) (b := d) fa fd) (by decide))
 have g5 : decide ((1 : Int) ≤ 0) = false := rfl
 by_cases hz0 : a = v0
 · have z1 : decide (((a.1, a.2.1, a.2.2) : V3) = v0) = true := decide_eq_true hz0
   simp only [go_sem, lx, ly, lz, lx', ly', lz', h1, ha, hb, le1, x1a, x2a, x3a, f1a, f2a, f3a, f1b, x1k, x2k, x3k, hd, he, s1, s2, f64', w1, w2, w3, f1d, f2d, f3d, x1d, x2d, x3d, t1d, t2d, t3d, t1a, t2a, t3a, f1e, f2e, f3e, hd2, e1, e2, e3, e4, z1, n1, n2, n3, dS, b1', b2', nb, g1, g2, g3, g4, g5]
   exact .refl _
 · have z1 : decide (((a.1, a.2.1, a.2.2) : V3) = v0) = false := decide_eq_false hz0
   have z2 : cmpQ (qdt (a.1, a.2.1, a.2.2) (d.1, d.2.1, d.2.2)) 0 = 1 := by
    rw [qdt_vdt]
    have := dir_dot hz0
    rw [hda] at this
    exact cmpQ_gt this
   simp only [go_sem, lx, ly, lz, lx', ly', lz', h1, ha, hb, le1, x1a, x2a, x3a, f1a, f2a, f3a, f1b, x1k, x2k, x3k, hd, he, s1, s2, f64', w1, w2, w3, f1d, f2d, f3d, x1d, x2d, x3d, t1d, t2d, t3d, t1a, t2a, t3a, f1e, f2e, f3e, hd2, e1, e2, e3, e4, z1, z2, n1, n2, n3, dS, b1', b2', nb, g1, g2, g3, g4, g5]
   exact .refl _
end Go.Proofs.YtbfapomdnocbaaaGreatDoor.AM
