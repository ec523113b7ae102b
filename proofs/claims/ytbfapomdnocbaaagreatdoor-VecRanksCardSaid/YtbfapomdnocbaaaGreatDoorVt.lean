/- The laws of vectors: ranks. -/
import Derived.Test.YtbfapomdnocbaaaGreatDoorVq
namespace Go.Proofs.YtbfapomdnocbaaaGreatDoor.AM
set_option linter.all false
set_option autoImplicit true
set_option relaxedAutoImplicit true
open Go Go.Proofs
set_option maxRecDepth 100000
set_option maxHeartbeats 8000000
set_option linter.unusedSimpArgs false
variable {P : Program}
inductive Spn (L : List V3) : V3 → Prop
 | mem {a} (h : a ∈ L) : Spn L a
 | add {a b} (h : Spn L a) (h' : Spn L b) : Spn L (vad a b)
 | sc (k : Rat) {a} (h : Spn L a) : Spn L (vsc k a)
theorem Spn.zero {L : List V3} (h : ∀ a ∈ L, a = v0) {u : V3} (hu : Spn L u) : u = v0 := by
 induction hu with
 | mem h1 => exact h _ h1
 | add _ _ i1 i2 => rw [i1, i2]; unfold vad v0; refine v3_ext ?_ ?_ ?_ <;> (simp only []; grind)
 | sc k _ i => rw [i]; exact sc_v0 k
theorem cr_add (a b c : V3) : vcr (vad a b) c = vad (vcr a c) (vcr b c) := by unfold vad vcr; refine v3_ext ?_ ?_ ?_ <;> (simp only []; grind)
theorem ad_v0 : vad v0 v0 = v0 := by unfold vad v0; refine v3_ext ?_ ?_ ?_ <;> (simp only []; grind)
theorem Spn.cr1 {L : List V3} {v : V3} (h : ∀ a ∈ L, vcr a v = v0) {u : V3} (hu : Spn L u) : vcr u v = v0 := by
 induction hu with
 | mem h1 => exact h _ h1
 | add _ _ i1 i2 => rw [cr_add, i1, i2, ad_v0]
 | sc k _ i => rw [cr_sc, i]; exact sc_v0 k
theorem Spn.cr {L : List V3} (h : ∀ a ∈ L, ∀ b ∈ L, vcr a b = v0) {u v : V3} (hu : Spn L u) (hv : Spn L v) : vcr u v = v0 := by
 refine Spn.cr1 (fun a ha => ?_) hu
 exact cr_swap0 (Spn.cr1 (fun b hb => h b hb a ha) hv)
theorem Spn.dt {L : List V3} {v : V3} (h : ∀ a ∈ L, vdt a v = 0) {u : V3} (hu : Spn L u) : vdt u v = 0 := by
 induction hu with
 | mem h1 => exact h _ h1
 | @add a b _ _ i1 i2 =>
   have : vdt (vad a b) v = vdt a v + vdt b v := by unfold vad vdt; simp only []; grind
   rw [this, i1, i2, Rat.add_zero]
 | @sc k a _ i =>
   rw [dt_swap, dt_sc, dt_swap, i, Rat.mul_zero]
theorem det_rot (a b c : V3) : vdet a b c = vdet b c a := by unfold vdet vdt vcr; simp only []; grind
theorem Spn.det {L : List V3} (h : ∀ a ∈ L, ∀ b ∈ L, ∀ c ∈ L, vdet a b c = 0) {u v w : V3} (hu : Spn L u) (hv : Spn L v) (hw : Spn L w) : vdet u v w = 0 := by
 refine Spn.dt (fun a ha => ?_) hu
 show vdet a v w = 0
 rw [det_rot]
 refine Spn.dt (fun b hb => ?_) hv
 show vdet b w a = 0
 rw [det_rot]
 refine Spn.dt (fun c hc => ?_) hw
 exact h c hc a ha b hb
theorem rk_le3 {l : List V3} {n : Nat} (h : Rk l n) : n ≤ 3 := by
 rcases h with ⟨h, _⟩ | ⟨h, _⟩ | ⟨h, _⟩ | ⟨h, _⟩ <;> omega
theorem rk_mono {L M : List V3} (h : ∀ m ∈ M, Spn L m) : rkN M ≤ rkN L := by
 have hL := rkN_ok L
 have hM := rkN_ok M
 generalize rkN L = n at *
 generalize rkN M = m at *
 rcases hL with ⟨rfl, k⟩ | ⟨rfl, _, k⟩ | ⟨rfl, _, k⟩ | ⟨rfl, _⟩
 · rw [hM.uniq (.inl ⟨rfl, fun a ha => Spn.zero k (h a ha)⟩)]; exact Nat.le_refl 0
 · rcases hM with ⟨rfl, _⟩ | ⟨rfl, _⟩ | ⟨rfl, ⟨a, ha, b, hb, e⟩, _⟩ | ⟨rfl, a, ha, b, hb, c, hc, e⟩
   · decide
   · decide
   · exact absurd (Spn.cr k (h a ha) (h b hb)) e
   · exact absurd (Spn.cr k (h b hb) (h c hc)) (det_cr e)
 · rcases hM with ⟨rfl, _⟩ | ⟨rfl, _⟩ | ⟨rfl, _⟩ | ⟨rfl, a, ha, b, hb, c, hc, e⟩
   · decide
   · decide
   · decide
   · exact absurd (Spn.det k (h a ha) (h b hb) (h c hc)) e
 · exact rk_le3 hM
theorem rk_more (k : Rat) (a b c : V3) : rkN [a, b, c, vsc k a, vad b c, v0] = rkN [a, b, c] := by
 have m0 : Spn [a, b, c] a := .mem (by simp)
 have m1 : Spn [a, b, c] b := .mem (by simp)
 have m2 : Spn [a, b, c] c := .mem (by simp)
 refine Nat.le_antisymm (rk_mono fun m hm => ?_) (rk_mono fun m hm => .mem ?_)
 · simp only [List.mem_cons, List.not_mem_nil, or_false] at hm
   rcases hm with rfl | rfl | rfl | rfl | rfl | rfl
   · exact m0
   · exact m1
   · exact m2
   · exact .sc k m0
   · exact .add m1 m2
   · rw [← vsc_z a]; exact .sc 0 m0
 · simp only [List.mem_cons, List.not_mem_nil, or_false] at hm ⊢
   rcases hm with rfl | rfl | rfl <;> simp
theorem rk_other {k : Rat} (hk : k ≠ 0) (a b c : V3) : rkN [vsc k c, vad a b, b] = rkN [a, b, c] := by
 refine Nat.le_antisymm (rk_mono fun m hm => ?_) (rk_mono fun m hm => ?_)
 · have m0 : Spn [a, b, c] a := .mem (by simp)
   have m1 : Spn [a, b, c] b := .mem (by simp)
   have m2 : Spn [a, b, c] c := .mem (by simp)
   simp only [List.mem_cons, List.not_mem_nil, or_false] at hm
   rcases hm with rfl | rfl | rfl
   · exact .sc k m2
   · exact .add m0 m1
   · exact m1
 · have m0 : Spn [vsc k c, vad a b, b] (vsc k c) := .mem (by simp)
   have m1 : Spn [vsc k c, vad a b, b] (vad a b) := .mem (by simp)
   have m2 : Spn [vsc k c, vad a b, b] b := .mem (by simp)
   simp only [List.mem_cons, List.not_mem_nil, or_false] at hm
   rcases hm with rfl | rfl | rfl
   · have e : vad (vad m b) (vsc (-1) b) = m := by unfold vad vsc; refine v3_ext ?_ ?_ ?_ <;> (simp only []; grind)
     have h := Spn.add m1 (.sc (-1) m2)
     rw [e] at h; exact h
   · exact m2
   · have e : vsc k⁻¹ (vsc k m) = m := by rw [sc_sc, Rat.mul_comm, Rat.mul_inv_cancel k hk, vsc_one]
     have h := Spn.sc k⁻¹ m0
     rw [e] at h; exact h
theorem rk_first (a b c : V3) : rkN [a, b] ≤ rkN [a, b, c] := rk_mono fun m hm => .mem (by
 simp only [List.mem_cons, List.not_mem_nil, or_false] at hm ⊢
 rcases hm with rfl | rfl <;> simp)
theorem rk_plus (a b c : V3) : rkN [a, b, c] ≤ rkN [a, b] + 1 := by
 have h3 := rk_3 a b c
 have h2 := rkN_ok [a, b]
 have h := rkN_ok [a, b, c]
 have hle := rk_le3 h
 generalize rkN [a, b] = n at *
 generalize rkN [a, b, c] = m at *
 rcases h2 with ⟨rfl, k⟩ | ⟨rfl, _, k⟩ | ⟨rfl, _⟩ | ⟨rfl, _⟩
 · have ea := k a (by simp)
   have eb := k b (by simp)
   subst ea eb
   rcases h with ⟨rfl, _⟩ | ⟨rfl, _⟩ | ⟨rfl, ⟨x, hx, y, hy, e⟩, _⟩ | ⟨rfl, _⟩
   · decide
   · decide
   · exfalso
     simp only [List.mem_cons, List.not_mem_nil, or_false] at hx hy
     rcases hx with rfl | rfl | rfl <;> rcases hy with rfl | rfl | rfl <;> first | exact e (cr_zl _) | exact e (cr_same _) | exact e (cr_swap0 (cr_zl _))
   · have : vdet v0 v0 c = 0 := by unfold vdet; exact dt_zl _
     rw [decide_eq_true this] at h3
     simp at h3
 · have : vdet a b c = 0 := by
    rw [det_rot, det_rot]
    show vdt c (vcr a b) = 0
    rw [k a (by simp) b (by simp), dt_swap]; exact dt_zl c
   rw [decide_eq_true this] at h3
   simp at h3
   omega
 · omega
 · omega
theorem VecRanks_spec (hP : PrgOk P) (x y z x' y' z' x2 y2 z2 : ByteArray) (hx : x.size ≤ maxS) (hy : y.size ≤ maxS) (hz : z.size ≤ maxS) (hx' : x'.size ≤ maxS) (hy' : y'.size ≤ maxS) (hz' : z'.size ≤ maxS) (hx2 : x2.size ≤ maxS) (hy2 : y2.size ≤ maxS) (hz2 : z2.size ≤ maxS) : CSpec P 4 [.agg [.str x, .str y, .str z], .agg [.str x', .str y', .str z'], .agg [.str x2, .str y2, .str z2]] (.bool true) := by
 have HE := Zt4_all hP TF hP.tF
 have lx := len_s hx
 have ly := len_s hy
 have lz := len_s hz
 have lx' := len_s hx'
 have ly' := len_s hy'
 have lz' := len_s hz'
 have lx2 := len_s hx2
 have ly2 := len_s hy2
 have lz2 := len_s hz2
 refine CSpec_go (E := ⟨TF, Zt4⟩) (fn4 hP) HE hP.mix ?_
 cases h1 : (okM x y z && (okM x' y' z' && okM x2 y2 z2))
 · simp only [go_sem, lx, ly, lz, lx', ly', lz', lx2, ly2, lz2, h1]
   exact .refl _
 have fa := ptV_fl x y z
 have fb := ptV_fl x' y' z'
 have fc := ptV_fl x2 y2 z2
 obtain ⟨a, ha⟩ : ∃ a, ptV x y z = a := ⟨_, rfl⟩
 obtain ⟨b, hb⟩ : ∃ b, ptV x' y' z' = b := ⟨_, rfl⟩
 obtain ⟨c, hc⟩ : ∃ c, ptV x2 y2 z2 = c := ⟨_, rfl⟩
 rw [ha] at fa
 rw [hb] at fb
 rw [hc] at fc
 have le1 : ((0 : Int) ≤ 1) = True := eq_true (by decide)
 have le2 : ((0 : Int) ≤ 2) = True := eq_true (by decide)
 obtain ⟨⟨r1a, r2a, r3a⟩, ⟨d1a, d2a, d3a⟩, ⟨t1a, t2a, t3a⟩, ⟨x1a, x2a, x3a⟩, f1a, f2a, f3a⟩ := bv_of fa (show _ ≤ 65536 by decide)
 obtain ⟨⟨r1b, r2b, r3b⟩, ⟨d1b, d2b, d3b⟩, ⟨t1b, t2b, t3b⟩, ⟨x1b, x2b, x3b⟩, f1b, f2b, f3b⟩ := bv_of fb (show _ ≤ 65536 by decide)
 obtain ⟨⟨r1c, r2c, r3c⟩, ⟨d1c, d2c, d3c⟩, ⟨t1c, t2c, t3c⟩, ⟨x1c, x2c, x3c⟩, f1c, f2c, f3c⟩ := bv_of fc (show _ ≤ 65536 by decide)
 have f3 : fl ((-3 : Int) : Rat) ≤ 64 := fl_i64 (by decide) (by decide)
 have f3' : fl ((-3 : Int) : Rat) ≤ FB := Nat.le_trans f3 (by decide)
 have f0 : fl ((0 : Int) : Rat) ≤ 65536 := Nat.le_trans (fl_i64 (by decide) (by decide)) (by decide)
 have fp : fV (qmul ((-3 : Int) : Rat) a.1, qmul ((-3 : Int) : Rat) a.2.1, qmul ((-3 : Int) : Rat) a.2.2) 65536 := fV_mono (n := 1088) ⟨fl_qmul f3 fa.1, fl_qmul f3 fa.2.1, fl_qmul f3 fa.2.2⟩ (by decide)
 have fq : fV (qmul ((-3 : Int) : Rat) c.1, qmul ((-3 : Int) : Rat) c.2.1, qmul ((-3 : Int) : Rat) c.2.2) 65536 := fV_mono (n := 1088) ⟨fl_qmul f3 fc.1, fl_qmul f3 fc.2.1, fl_qmul f3 fc.2.2⟩ (by decide)
 have fr : fV (qadd b.1 c.1, qadd b.2.1 c.2.1, qadd b.2.2 c.2.2) 65536 := fV_mono (n := 2049) ⟨fl_qadd fb.1 fc.1, fl_qadd fb.2.1 fc.2.1, fl_qadd fb.2.2 fc.2.2⟩ (by decide)
 have fs : fV (qadd a.1 b.1, qadd a.2.1 b.2.1, qadd a.2.2 b.2.2) 65536 := fV_mono (n := 2049) ⟨fl_qadd fa.1 fb.1, fl_qadd fa.2.1 fb.2.1, fl_qadd fa.2.2 fb.2.2⟩ (by decide)
 obtain ⟨p1, p2, p3⟩ := fp
 obtain ⟨q1, q2, q3⟩ := fq
 obtain ⟨u1, u2, u3⟩ := fr
 obtain ⟨v1, v2, v3⟩ := fs
 simp only [] at p1 p2 p3 q1 q2 q3 u1 u2 u3 v1 v2 v3
 have b3 : ((-9223372036854775808 : Int) ≤ -3 ∧ (-3 : Int) ≤ 9223372036854775807) = True := eq_true (by decide)
 have b0 : ((-9223372036854775808 : Int) ≤ 0 ∧ (0 : Int) ≤ 9223372036854775807) = True := eq_true (by decide)
 have e1 : rkN [(a.1, a.2.1, a.2.2), (b.1, b.2.1, b.2.2), (c.1, c.2.1, c.2.2), (qmul ((-3 : Int) : Rat) a.1, qmul ((-3 : Int) : Rat) a.2.1, qmul ((-3 : Int) : Rat) a.2.2), (qadd b.1 c.1, qadd b.2.1 c.2.1, qadd b.2.2 c.2.2), (((0 : Int) : Rat), ((0 : Int) : Rat), ((0 : Int) : Rat))] = rkN [(a.1, a.2.1, a.2.2), (b.1, b.2.1, b.2.2), (c.1, c.2.1, c.2.2)] := by
  simp only [qmul_eq, qadd_eq]
  exact rk_more ((-3 : Int) : Rat) a b c
 have e2 : rkN [(qmul ((-3 : Int) : Rat) c.1, qmul ((-3 : Int) : Rat) c.2.1, qmul ((-3 : Int) : Rat) c.2.2), (qadd a.1 b.1, qadd a.2.1 b.2.1, qadd a.2.2 b.2.2), (b.1, b.2.1, b.2.2)] = rkN [(a.1, a.2.1, a.2.2), (b.1, b.2.1, b.2.2), (c.1, c.2.1, c.2.2)] := by
  simp only [qmul_eq, qadd_eq]
  exact rk_other (k := ((-3 : Int) : Rat)) (by decide) a b c
 have e3 := rk_first a b c
 have e4 := rk_plus a b c
 have e3' : rkN [(a.1, a.2.1, a.2.2), (b.1, b.2.1, b.2.2)] ≤ rkN [(a.1, a.2.1, a.2.2), (b.1, b.2.1, b.2.2), (c.1, c.2.1, c.2.2)] := e3
 have e4' : rkN [(a.1, a.2.1, a.2.2), (b.1, b.2.1, b.2.2), (c.1, c.2.1, c.2.2)] ≤ rkN [(a.1, a.2.1, a.2.2), (b.1, b.2.1, b.2.2)] + 1 := e4
 have hn3 : rkN [(a.1, a.2.1, a.2.2), (b.1, b.2.1, b.2.2)] ≤ 3 := rk_le3 (rkN_ok _)
 simp only [go_sem, lx, ly, lz, lx', ly', lz', lx2, ly2, lz2, h1, ha, hb, hc, le1, le2, r1a, r2a, r3a, r1b, r2b, r3b, r1c, r2c, r3c, f1a, f2a, f3a, f1b, f2b, f3b, f1c, f2c, f3c, f3', f0, p1, p2, p3, q1, q2, q3, u1, u2, u3, v1, v2, v3, b3, b0, e1, e2, beq_self_eq_true, decide_true]
 refine ⟨by simp, by simp, ?_⟩
 have e5 := decide_eq_true e3'
 have e6 := decide_eq_true e4'
 have hw := wi_add1 (rkN [(a.1, a.2.1, a.2.2), (b.1, b.2.1, b.2.2)]) (by omega)
 simp only [go_sem, e5, e6, hw, e1, e2, le1, le2, beq_self_eq_true, decide_true, r1a, r2a, r3a, r1b, r2b, r3b]
 exact .refl _
end Go.Proofs.YtbfapomdnocbaaaGreatDoor.AM
