/- The laws of vectors: products. -/
import Derived.Test.YtbfapomdnocbaaaGreatDoorVo
namespace Go.Proofs.YtbfapomdnocbaaaGreatDoor.AM
set_option linter.all false
set_option autoImplicit true
set_option relaxedAutoImplicit true
open Go Go.Proofs
set_option maxRecDepth 100000
set_option maxHeartbeats 8000000
set_option linter.unusedSimpArgs false
variable {P : Program}
structure BV (a : V3) : Prop where
 r : fV a 65536
 d : fV a 8388608
 t : fV a 67108864
 x : fV a 268435456
 f : fV a FB
theorem bv_of {a : V3} {n : Nat} (h : fV a n) (hn : n ≤ 65536) : BV a := ⟨fV_mono h hn, fV_mono h (by omega), fV_mono h (by omega), fV_mono h (by omega), fV_mono h (Nat.le_trans hn (by decide))⟩
theorem qdt_fl {a b : V3} {n m : Nat} (ha : fV a n) (hb : fV b m) : fl (qdt a b) ≤ n + m + (n + m) + 1 + (n + m) + 1 := fl_qadd (fl_qadd (fl_qmul ha.1 hb.1) (fl_qmul ha.2.1 hb.2.1)) (fl_qmul ha.2.2 hb.2.2)
theorem vcq_1 (a1 a2 a3 b1 b2 b3) : (vcq (a1, a2, a3) (b1, b2, b3)).1 = qsub (qmul a2 b3) (qmul a3 b2) := rfl
theorem vcq_2 (a1 a2 a3 b1 b2 b3) : (vcq (a1, a2, a3) (b1, b2, b3)).2.1 = qsub (qmul a3 b1) (qmul a1 b3) := rfl
theorem vcq_3 (a1 a2 a3 b1 b2 b3) : (vcq (a1, a2, a3) (b1, b2, b3)).2.2 = qsub (qmul a1 b2) (qmul a2 b1) := rfl
theorem VecProducts_spec (hP : PrgOk P) (x y z x' y' z' x2 y2 z2 : ByteArray) (hx : x.size ≤ maxS) (hy : y.size ≤ maxS) (hz : z.size ≤ maxS) (hx' : x'.size ≤ maxS) (hy' : y'.size ≤ maxS) (hz' : z'.size ≤ maxS) (hx2 : x2.size ≤ maxS) (hy2 : y2.size ≤ maxS) (hz2 : z2.size ≤ maxS) : CSpec P 6 [.agg [.str x, .str y, .str z], .agg [.str x', .str y', .str z'], .agg [.str x2, .str y2, .str z2]] (.bool true) := by
 have HE := Zt4_all hP TF hP.tF
 have lx := len_s hx
 have ly := len_s hy
 have lz := len_s hz
 have lx' := len_s hx'
 have ly' := len_s hy'
 have lz' := len_s hz'
 have lx2 := len_s hx2
 have ly2 := len_s hy2
 have lz2 := len_s hz2
 refine CSpec_go (E := ⟨TF, Zt4⟩) (fn6 hP) HE hP.mix ?_
 cases h1 : okM x y z
 · simp only [go_sem, lx, ly, lz, lx', ly', lz', lx2, ly2, lz2, h1]
   exact .refl _
 cases h2 : okM x' y' z'
 · simp only [go_sem, lx, ly, lz, lx', ly', lz', lx2, ly2, lz2, h1, h2]
   exact .refl _
 cases h3 : okM x2 y2 z2
 · simp only [go_sem, lx, ly, lz, lx', ly', lz', lx2, ly2, lz2, h1, h2, h3]
   exact .refl _
 have fa := ptV_fl x y z
 have fb := ptV_fl x' y' z'
 have fc := ptV_fl x2 y2 z2
 obtain ⟨a, ha⟩ : ∃ a, ptV x y z = a := ⟨_, rfl⟩
 obtain ⟨b, hb⟩ : ∃ b, ptV x' y' z' = b := ⟨_, rfl⟩
 obtain ⟨c, hc⟩ : ∃ c, ptV x2 y2 z2 = c := ⟨_, rfl⟩
 rw [ha] at fa
 rw [hb] at fb
 rw [hc] at fc
 have le1 : ((0 : Int) ≤ 1) = True := eq_true (by decide)
 have le2 : ((0 : Int) ≤ 2) = True := eq_true (by decide)
 obtain ⟨⟨r1a, r2a, r3a⟩, ⟨d1a, d2a, d3a⟩, ⟨t1a, t2a, t3a⟩, ⟨x1a, x2a, x3a⟩, f1a, f2a, f3a⟩ := bv_of fa (show _ ≤ 65536 by decide)
 obtain ⟨⟨r1b, r2b, r3b⟩, ⟨d1b, d2b, d3b⟩, ⟨t1b, t2b, t3b⟩, ⟨x1b, x2b, x3b⟩, f1b, f2b, f3b⟩ := bv_of fb (show _ ≤ 65536 by decide)
 obtain ⟨⟨r1c, r2c, r3c⟩, ⟨d1c, d2c, d3c⟩, ⟨t1c, t2c, t3c⟩, ⟨x1c, x2c, x3c⟩, f1c, f2c, f3c⟩ := bv_of fc (show _ ≤ 65536 by decide)
 have fs : fV (qadd a.1 b.1, qadd a.2.1 b.2.1, qadd a.2.2 b.2.2) 2049 := ⟨fl_qadd fa.1 fb.1, fl_qadd fa.2.1 fb.2.1, fl_qadd fa.2.2 fb.2.2⟩
 obtain ⟨⟨r1s, r2s, r3s⟩, ⟨d1s, d2s, d3s⟩, ⟨t1s, t2s, t3s⟩, ⟨x1s, x2s, x3s⟩, f1s, f2s, f3s⟩ := bv_of fs (show _ ≤ 65536 by decide)
 simp only [] at r1s r2s r3s
 have g1 : fl (qdt (a.1, a.2.1, a.2.2) (b.1, b.2.1, b.2.2)) ≤ FB := Nat.le_trans (qdt_fl (a := a) (b := b) fa fb) (by decide)
 have g2 : fl (qdt (a.1, a.2.1, a.2.2) (vcq (b.1, b.2.1, b.2.2) (c.1, c.2.1, c.2.2))) ≤ FB := Nat.le_trans (qdt_fl (a := a) fa (vcq_fl (a := b) (b := c) fb fc)) (by decide)
 obtain ⟨g3, g4, g5⟩ := fV_mono (vcq_fl fa fb) (show _ ≤ FB by decide)
 have g3 : fl (qsub (qmul a.2.1 b.2.2) (qmul a.2.2 b.2.1)) ≤ FB := g3
 have g4 : fl (qsub (qmul a.2.2 b.1) (qmul a.1 b.2.2)) ≤ FB := g4
 have g5 : fl (qsub (qmul a.1 b.2.1) (qmul a.2.1 b.1)) ≤ FB := g5
 have g6 := fV_mono (dir_fV fa) (show _ ≤ FB by decide)
 obtain ⟨g6, g7, g8⟩ := g6
 simp only [go_sem, lx, ly, lz, lx', ly', lz', lx2, ly2, lz2, h1, h2, h3, ha, hb, hc, le1, le2, r1a, r2a, r3a, r1b, r2b, r3b, r1c, r2c, r3c, d1a, d2a, d3a, d1b, d2b, d3b, d1c, d2c, d3c, t1a, t2a, t3a, t1b, t2b, t3b, x1a, x2a, x3a, x1b, x2b, x3b, f1a, f2a, f3a, f1b, f2b, f3b, r1s, r2s, r3s, g1, g2, g3, g4, g5, g6, g7, g8, vcq_1, vcq_2, vcq_3, decide_true, beq_self_eq_true]
 have le3 : ((0 : Int) ≤ 3) = True := eq_true (by decide)
 have le4 : ((0 : Int) ≤ 4) = True := eq_true (by decide)
 have w1 : IntKind.i64.wrap (0 + 1) = 1 := rfl
 have w2 : IntKind.i64.wrap (1 + 1) = 2 := rfl
 have w3 : IntKind.i64.wrap (2 + 1) = 3 := rfl
 have w4 : IntKind.i64.wrap (3 + 1) = 4 := rfl
 have w5 : IntKind.i64.wrap (4 + 1) = 5 := rfl
 have ns : ∀ n : Int, (n != n) = false := fun n => by simp
 refine trX_once HE hP.mix 116 400 (by kernel_rfl) ?_
 simp only [go_sem, w1, le1, le2, le3, le4, ns, r1a, r2a, r3a, r1b, r2b, r3b, r1c, r2c, r3c, r1s, r2s, r3s]
 refine goX_once HE hP.mix 116 500 (by kernel_rfl) ?_
 simp only [go_sem, w2, le1, le2, le3, le4, ns, r1a, r2a, r3a, r1b, r2b, r3b, r1c, r2c, r3c, r1s, r2s, r3s]
 refine goX_once HE hP.mix 116 600 (by kernel_rfl) ?_
 simp only [go_sem, w3, le1, le2, le3, le4, ns, r1a, r2a, r3a, r1b, r2b, r3b, r1c, r2c, r3c, r1s, r2s, r3s]
 refine goX_once HE hP.mix 116 700 (by kernel_rfl) ?_
 simp only [go_sem, w4, le1, le2, le3, le4, ns, r1a, r2a, r3a, r1b, r2b, r3b, r1c, r2c, r3c, r1s, r2s, r3s]
 refine goX_once HE hP.mix 116 800 (by kernel_rfl) ?_
 simp only [go_sem, w5, le1, le2, le3, le4, ns, r1a, r2a, r3a, r1b, r2b, r3b, r1c, r2c, r3c, r1s, r2s, r3s]
 refine goX_once HE hP.mix 116 900 (by kernel_rfl) ?_
 simp only [go_sem]
 exact .refl _
end Go.Proofs.YtbfapomdnocbaaaGreatDoor.AM
