/- The laws of vectors: Lagrange, determinants. -/
import Derived.Test.YtbfapomdnocbaaaGreatDoorVp
namespace Go.Proofs.YtbfapomdnocbaaaGreatDoor.AM
set_option linter.all false
set_option autoImplicit true
set_option relaxedAutoImplicit true
open Go Go.Proofs
set_option maxRecDepth 100000
set_option maxHeartbeats 8000000
set_option linter.unusedSimpArgs false
variable {P : Program}
theorem rk_3 (a b c : V3) : (!decide (vdet a b c = 0)) = decide (rkN [a, b, c] = 3) := by
 have h := rkN_ok [a, b, c]
 generalize rkN [a, b, c] = n at *
 by_cases e : vdet a b c = 0
 · rw [decide_eq_true e]
   refine (decide_eq_false fun hn => ?_).symm
   subst hn
   rcases h with ⟨h, _⟩ | ⟨h, _⟩ | ⟨h, _⟩ | ⟨_, x, hx, y, hy, z, hz, h⟩
   · omega
   · omega
   · omega
   · simp only [List.mem_cons, List.not_mem_nil, or_false] at hx hy hz
     refine h ?_
     rcases hx with rfl | rfl | rfl <;> rcases hy with rfl | rfl | rfl <;> rcases hz with rfl | rfl | rfl <;> (unfold vdet vdt vcr at *; simp only [] at *; grind)
 · rw [decide_eq_false e]
   have h3 : Rk [a, b, c] 3 := .inr (.inr (.inr ⟨rfl, a, by simp, b, by simp, c, by simp, e⟩))
   exact (decide_eq_true (h.uniq h3)).symm
theorem qdet (a b c : V3) : qdt a (vcq b c) = vdet a b c := by rw [qdt_vdt, vcq_vcr]; rfl
theorem VecDets_spec (hP : PrgOk P) (x y z x' y' z' x2 y2 z2 : ByteArray) (hx : x.size ≤ maxS) (hy : y.size ≤ maxS) (hz : z.size ≤ maxS) (hx' : x'.size ≤ maxS) (hy' : y'.size ≤ maxS) (hz' : z'.size ≤ maxS) (hx2 : x2.size ≤ maxS) (hy2 : y2.size ≤ maxS) (hz2 : z2.size ≤ maxS) : CSpec P 8 [.agg [.str x, .str y, .str z], .agg [.str x', .str y', .str z'], .agg [.str x2, .str y2, .str z2]] (.bool true) := by
 have HE := Zt4_all hP TF hP.tF
 have lx := len_s hx
 have ly := len_s hy
 have lz := len_s hz
 have lx' := len_s hx'
 have ly' := len_s hy'
 have lz' := len_s hz'
 have lx2 := len_s hx2
 have ly2 := len_s hy2
 have lz2 := len_s hz2
 refine CSpec_go (E := ⟨TF, Zt4⟩) (fn8 hP) HE hP.mix ?_
 cases h1 : (okM x y z && (okM x' y' z' && okM x2 y2 z2))
 · simp only [go_sem, lx, ly, lz, lx', ly', lz', lx2, ly2, lz2, h1]
   exact .refl _
 have fa := ptV_fl x y z
 have fb := ptV_fl x' y' z'
 have fc := ptV_fl x2 y2 z2
 obtain ⟨a, ha⟩ : ∃ a, ptV x y z = a := ⟨_, rfl⟩
 obtain ⟨b, hb⟩ : ∃ b, ptV x' y' z' = b := ⟨_, rfl⟩
 obtain ⟨c, hc⟩ : ∃ c, ptV x2 y2 z2 = c := ⟨_, rfl⟩
 rw [ha] at fa
 rw [hb] at fb
 rw [hc] at fc
 have le1 : ((0 : Int) ≤ 1) = True := eq_true (by decide)
 have le2 : ((0 : Int) ≤ 2) = True := eq_true (by decide)
 obtain ⟨⟨r1a, r2a, r3a⟩, ⟨d1a, d2a, d3a⟩, ⟨t1a, t2a, t3a⟩, ⟨x1a, x2a, x3a⟩, f1a, f2a, f3a⟩ := bv_of fa (show _ ≤ 65536 by decide)
 obtain ⟨⟨r1b, r2b, r3b⟩, ⟨d1b, d2b, d3b⟩, ⟨t1b, t2b, t3b⟩, ⟨x1b, x2b, x3b⟩, f1b, f2b, f3b⟩ := bv_of fb (show _ ≤ 65536 by decide)
 obtain ⟨⟨r1c, r2c, r3c⟩, ⟨d1c, d2c, d3c⟩, ⟨t1c, t2c, t3c⟩, ⟨x1c, x2c, x3c⟩, f1c, f2c, f3c⟩ := bv_of fc (show _ ≤ 65536 by decide)
 have fs : fV (qadd a.1 b.1, qadd a.2.1 b.2.1, qadd a.2.2 b.2.2) 2049 := ⟨fl_qadd fa.1 fb.1, fl_qadd fa.2.1 fb.2.1, fl_qadd fa.2.2 fb.2.2⟩
 have fk : fV (qmul c.1 a.1, qmul c.1 a.2.1, qmul c.1 a.2.2) 2048 := ⟨fl_qmul fc.1 fa.1, fl_qmul fc.1 fa.2.1, fl_qmul fc.1 fa.2.2⟩
 obtain ⟨⟨r1s, r2s, r3s⟩, ⟨d1s, d2s, d3s⟩, ⟨t1s, t2s, t3s⟩, ⟨x1s, x2s, x3s⟩, f1s, f2s, f3s⟩ := bv_of fs (show _ ≤ 65536 by decide)
 obtain ⟨⟨r1k, r2k, r3k⟩, ⟨d1k, d2k, d3k⟩, ⟨t1k, t2k, t3k⟩, ⟨x1k, x2k, x3k⟩, f1k, f2k, f3k⟩ := bv_of fk (show _ ≤ 65536 by decide)
 simp only [] at d1s d2s d3s d1k d2k d3k
 have dl : ∀ {u v w : V3}, fV u 2049 → fV v 1024 → fV w 1024 → fl (qdt u (vcq v w)) ≤ 65536 := fun hu hv hw => Nat.le_trans (qdt_fl hu (vcq_fl hv hw)) (by decide)
 have ua := fV_mono fa (show _ ≤ 2049 by decide)
 have ub := fV_mono fb (show _ ≤ 2049 by decide)
 have uk := fV_mono fk (show _ ≤ 2049 by decide)
 have g1 := Nat.le_trans (dl (u := (a.1, a.2.1, a.2.2)) (v := (b.1, b.2.1, b.2.2)) (w := (c.1, c.2.1, c.2.2)) ua fb fc) (show _ ≤ FB by decide)
 have g2 := Nat.le_trans (dl (u := (b.1, b.2.1, b.2.2)) (v := (a.1, a.2.1, a.2.2)) (w := (c.1, c.2.1, c.2.2)) ub fa fc) (show _ ≤ FB by decide)
 have g3 := Nat.le_trans (dl (u := (a.1, a.2.1, a.2.2)) (v := (c.1, c.2.1, c.2.2)) (w := (b.1, b.2.1, b.2.2)) ua fc fb) (show _ ≤ FB by decide)
 have g4 := Nat.le_trans (dl (u := (b.1, b.2.1, b.2.2)) (v := (c.1, c.2.1, c.2.2)) (w := (a.1, a.2.1, a.2.2)) ub fc fa) (show _ ≤ FB by decide)
 have g5 := Nat.le_trans (dl (u := (qadd a.1 b.1, qadd a.2.1 b.2.1, qadd a.2.2 b.2.2)) (v := (b.1, b.2.1, b.2.2)) (w := (c.1, c.2.1, c.2.2)) fs fb fc) (show _ ≤ FB by decide)
 have g6 := Nat.le_trans (dl (u := (qmul c.1 a.1, qmul c.1 a.2.1, qmul c.1 a.2.2)) (v := (b.1, b.2.1, b.2.2)) (w := (c.1, c.2.1, c.2.2)) uk fb fc) (show _ ≤ FB by decide)
 have g7 : fl (qneg (qdt (a.1, a.2.1, a.2.2) (vcq (b.1, b.2.1, b.2.2) (c.1, c.2.1, c.2.2)))) ≤ FB := fl_qneg g1
 have g8 : fl (qmul c.1 (qdt (a.1, a.2.1, a.2.2) (vcq (b.1, b.2.1, b.2.2) (c.1, c.2.1, c.2.2)))) ≤ FB := Nat.le_trans (fl_qmul fc.1 (dl (u := (a.1, a.2.1, a.2.2)) (v := (b.1, b.2.1, b.2.2)) (w := (c.1, c.2.1, c.2.2)) ua fb fc)) (by decide)
 have g9 : wl (qdt (a.1, a.2.1, a.2.2) (vcq (b.1, b.2.1, b.2.2) (c.1, c.2.1, c.2.2))).num ≤ 68719476736 := fl_num (Nat.le_trans g1 (by decide))
 have ce : ∀ {u v : Rat}, u = v → (cmpQ u v == 0) = true := fun h => by rw [h, cmpQ_self]; rfl
 have e1 : (cmpQ (qdt (b.1, b.2.1, b.2.2) (vcq (a.1, a.2.1, a.2.2) (c.1, c.2.1, c.2.2))) (qneg (qdt (a.1, a.2.1, a.2.2) (vcq (b.1, b.2.1, b.2.2) (c.1, c.2.1, c.2.2)))) == 0) = true := ce (by rw [qdet, qdet, qneg_eq]; unfold vdet vdt vcr; simp only []; grind)
 have e2 : (cmpQ (qdt (a.1, a.2.1, a.2.2) (vcq (c.1, c.2.1, c.2.2) (b.1, b.2.1, b.2.2))) (qneg (qdt (a.1, a.2.1, a.2.2) (vcq (b.1, b.2.1, b.2.2) (c.1, c.2.1, c.2.2)))) == 0) = true := ce (by rw [qdet, qdet, qneg_eq]; unfold vdet vdt vcr; simp only []; grind)
 have e3 : (cmpQ (qdt (b.1, b.2.1, b.2.2) (vcq (c.1, c.2.1, c.2.2) (a.1, a.2.1, a.2.2))) (qdt (a.1, a.2.1, a.2.2) (vcq (b.1, b.2.1, b.2.2) (c.1, c.2.1, c.2.2))) == 0) = true := ce (by rw [qdet, qdet]; unfold vdet vdt vcr; simp only []; grind)
 have e4 : (cmpQ (qdt (qadd a.1 b.1, qadd a.2.1 b.2.1, qadd a.2.2 b.2.2) (vcq (b.1, b.2.1, b.2.2) (c.1, c.2.1, c.2.2))) (qdt (a.1, a.2.1, a.2.2) (vcq (b.1, b.2.1, b.2.2) (c.1, c.2.1, c.2.2))) == 0) = true := ce (by rw [qdet, qdet]; simp only [qadd_eq]; unfold vdet vdt vcr; simp only []; grind)
 have e5 : (cmpQ (qdt (qmul c.1 a.1, qmul c.1 a.2.1, qmul c.1 a.2.2) (vcq (b.1, b.2.1, b.2.2) (c.1, c.2.1, c.2.2))) (qmul c.1 (qdt (a.1, a.2.1, a.2.2) (vcq (b.1, b.2.1, b.2.2) (c.1, c.2.1, c.2.2)))) == 0) = true := ce (by rw [qdet, qdet]; simp only [qmul_eq]; unfold vdet vdt vcr; simp only []; grind)
 have e6 : ((cmpQ (qdt (a.1, a.2.1, a.2.2) (vcq (b.1, b.2.1, b.2.2) (c.1, c.2.1, c.2.2))) 0 != 0) == (rkN [(a.1, a.2.1, a.2.2), (b.1, b.2.1, b.2.2), (c.1, c.2.1, c.2.2)] == 3)) = true := by
  rw [bne, cmpQ_z, qdet]
  have := rk_3 a b c
  rw [show (rkN [(a.1, a.2.1, a.2.2), (b.1, b.2.1, b.2.2), (c.1, c.2.1, c.2.2)] == 3) = decide (rkN [(a.1, a.2.1, a.2.2), (b.1, b.2.1, b.2.2), (c.1, c.2.1, c.2.2)] = 3) from rfl, show decide (rkN [(a.1, a.2.1, a.2.2), (b.1, b.2.1, b.2.2), (c.1, c.2.1, c.2.2)] = 3) = (!decide (vdet (a.1, a.2.1, a.2.2) (b.1, b.2.1, b.2.2) (c.1, c.2.1, c.2.2) = 0)) from this.symm]
  simp
 simp only [go_sem, lx, ly, lz, lx', ly', lz', lx2, ly2, lz2, h1, ha, hb, hc, le1, le2, r1a, r2a, r3a, r1b, r2b, r3b, r1c, r2c, r3c, d1a, d2a, d3a, d1b, d2b, d3b, d1c, d2c, d3c, d1s, d2s, d3s, d1k, d2k, d3k, f1a, f2a, f3a, f1b, f2b, f3b, f1c, f2c, f3c, g1, g2, g3, g4, g5, g6, g7, g8, g9, e1, e2, e3, e4, e5, e6]
 exact .refl _
end Go.Proofs.YtbfapomdnocbaaaGreatDoor.AM
