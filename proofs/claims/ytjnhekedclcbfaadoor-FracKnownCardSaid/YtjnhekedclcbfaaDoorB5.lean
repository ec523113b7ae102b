/- Loops whose objects change their numbers. -/
import Derived.Test.YtjnhekedclcbfaaDoorB4
namespace Go.Proofs.YtjnhekedclcbfaaDoor.AM
set_option linter.all false
set_option autoImplicit true
set_option relaxedAutoImplicit true
open Go Go.Proofs
set_option maxRecDepth 100000
set_option linter.unusedSimpArgs false
section
variable {P : Program} {E : Env} {s : St} {Q : Exit → Nat → St → Prop} {nx : Nat} {tr : TriT} {ic : ICallT}
def loopV {α : Type} (LL : α → List Nat) (F : α → St) (I : α → Prop) (μ : α → Nat) (n : Nat) (Q : Exit → Nat → St → Prop) : Exit → Nat → St → Prop
  | .normal, _, s => ∃ x, Kept (LL x) s (F x) ∧ I x ∧ μ x < n
  | e, nx, s => Q e nx s
theorem Tri_loopV {α : Type} {c : Code} (LL : α → List Nat) (F : α → St) (I : α → Prop) (μ : α → Nat) (x0 : α) (hL : ∀ x r, s.m r ≠ .unused → (LL x).contains r = true) (h0 : Kept (LL x0) s (F x0)) (i0 : I x0)
    (hr : ∀ x, I x → Tri P c (loopV LL F I μ (μ x) Q) (F x)) : Tri P (.loop c) Q s := by
  intro X φ a w R
  have hφ : ∀ r, s.m r = .unused → φ r = none := fun r h => R.mem.unused h
  let p : Act → World → Nat → Prop := fun a' w' k => ∃ x φ1, I x ∧ μ x = k ∧ Rel X φ1 (F x) a' w' ∧ Stp X φ s.m w φ1 (F x).m w'
  obtain ⟨φ0, r0, st0⟩ := kept_rel R h0 (.refl _ _ _ _) (hL x0) hφ
  refine wp_loop (fun a' w' => ∃ k, p a' w' k) (fun a' w' => leastOf (p a' w')) ⟨_, x0, φ0, i0, rfl, r0, st0⟩ fun a' w' hI => ?_
  obtain ⟨⟨x, φ1, i1, hk, r1, st1⟩, _⟩ := leastOf_spec hI
  refine Code.wp_mono ?_ (hr x i1 X φ1 a' w' r1)
  rintro e a2 w2 ⟨nx, s2, φ2, q, r2, st2⟩
  cases e with
  | normal =>
    obtain ⟨x3, k3, i3, hlt⟩ := q
    obtain ⟨φ3, r3, st3⟩ := kept_rel r2 k3 (st1.trans st2) (hL x3) hφ
    have hp : p a2 w2 (μ x3) := ⟨x3, φ3, i3, rfl, r3, st3⟩
    refine ⟨⟨_, hp⟩, ?_⟩
    have := (leastOf_spec ⟨_, hp⟩).2 _ hp
    omega
  | _ => exact ⟨nx, s2, φ2, q, r2, st1.trans st2⟩
theorem q_loopV_normal {α : Type} (LL : α → List Nat) (F : α → St) (I : α → Prop) (μ : α → Nat) (n) : qX .normal nx s (Q := ⟨loopV LL F I μ n Q⟩) = ∃ x, Kept (LL x) s (F x) ∧ I x ∧ μ x < n := rfl
theorem q_loopV_exit {α : Type} (LL : α → List Nat) (F : α → St) (I : α → Prop) (μ : α → Nat) (n i) : qX (.exit i) nx s (Q := ⟨loopV LL F I μ n Q⟩) = qX (.exit i) nx s (Q := ⟨Q⟩) := rfl
theorem q_loopV_ret {α : Type} (LL : α → List Nat) (F : α → St) (I : α → Prop) (μ : α → Nat) (n) : qX .ret nx s (Q := ⟨loopV LL F I μ n Q⟩) = qX .ret nx s (Q := ⟨Q⟩) := rfl
/-- A loop, within a condition: the objects may have other numbers in each round. -/
theorem trX_loopV {α : Type} {c : Code} (HE : EnvOk P E) (hmix : P.follows .mixedOrders = true) (LL : α → List Nat) (F : α → St) (I : α → Prop) (μ : α → Nat) (x0 : α) (nx0 : α → Nat) (hL : ∀ x r, s.m r ≠ .unused → (LL x).contains r = true) (h0 : Kept (LL x0) s (F x0)) (i0 : I x0) (N : Nat) (hN : regsOk N c = true)
    (hr : ∀ x, I x → vcX (Tri P) (ICall P) E N c (nx0 x) (F x) (Q := ⟨loopV LL F I μ (μ x) Q⟩)) : trX (Tri P) (.loop c) s (Q := ⟨Q⟩) :=
  Tri_loopV LL F I μ x0 hL h0 i0 fun x ix => vc_sound HE hmix N c _ (nx0 x) _ hN (hr x ix)
/-! Objects told otherwise. -/
def CvM (m m' : Nat → AObj) : Prop := ∀ r, m' r = m r ∨ ∃ cs cs', m r = .live cs ∧ m' r = .live cs' ∧ CvL cs cs' ∧ cs'.length = cs.length ∧ cs'.all AV.ck = true
theorem CvM.refl (m) : CvM m m := fun _ => .inl rfl
theorem CvM.upd {m m' : Nat → AObj} (h : CvM m m') {r : Nat} {cs cs' : List AV} (hc : CvL cs cs') (hl : cs'.length = cs.length) (hk : cs'.all AV.ck = true) : CvM (AM.upd m r (.live cs)) (AM.upd m' r (.live cs')) := fun q => by
  unfold AM.upd; split
  · exact .inr ⟨cs, cs', rfl, rfl, hc, hl, hk⟩
  · exact h q
theorem CvM.same {m m' : Nat → AObj} (h : CvM m m') (r : Nat) (o : AObj) : CvM (AM.upd m r o) (AM.upd m' r o) := fun q => by
  unfold AM.upd; split
  · exact .inl rfl
  · exact h q
theorem CvM.wr {m m' : Nat → AObj} (h : CvM m m') (X φ) : Wr X φ m' = Wr X φ m := by
  funext b
  simp only [Wr, eq_iff_iff]
  refine or_congr Iff.rfl ⟨?_, ?_⟩
  · rintro ⟨r, cs, h1, h2⟩
    rcases h r with h3 | ⟨c1, c2, h3, _⟩
    · exact ⟨r, cs, h1, by rw [← h3]; exact h2⟩
    · exact ⟨r, c1, h1, h3⟩
  · rintro ⟨r, cs, h1, h2⟩
    rcases h r with h3 | ⟨c1, c2, _, h3, _⟩
    · exact ⟨r, cs, h1, by rw [h3]; exact h2⟩
    · exact ⟨r, c2, h1, h3⟩
theorem CvM.rel {m m' : Nat → AObj} (h : CvM m m') {X φ t n a w} (R : Rel X φ ⟨t, m, n⟩ a w) : Rel X φ ⟨t, m', n⟩ a w := by
  have hW := h.wr X φ
  refine ⟨fun i hi => ?_, R.df, R.n, ⟨fun r => ?_, R.mem.inj, R.mem.ext, R.mem.xlt⟩⟩
  · rw [hW]; exact R.tm i hi
  · have := R.mem.obj r
    simp only [] at this ⊢
    rw [hW]
    rcases h r with h3 | ⟨cs, cs', h1, h2, h3, h4, h5⟩
    · rw [h3]; exact this
    · rw [h1] at this; rw [h2]
      obtain ⟨b, hb, c, e, k1, k2, k3, k4⟩ := this
      exact ⟨b, hb, c, e, k1, by rw [h4]; exact k2, by rw [h4]; exact h3 _ _ _ _ k3, h5⟩
theorem Tri_cv {c : Code} {t : Nat → AV} {m m' : Nat → AObj} {n : Nat} (h : CvM m m') (k : Tri P c Q ⟨t, m', n⟩) : Tri P c Q ⟨t, m, n⟩ := by
  intro X φ a w R
  refine Code.wp_mono ?_ (k X φ a w (h.rel R))
  rintro e a2 w2 ⟨nx, s2, φ2, q, r2, st2⟩
  have hW := h.wr X φ
  refine ⟨nx, s2, φ2, q, r2, ?_⟩
  obtain ⟨e1, f1⟩ := st2
  simp only [] at e1
  rw [hW] at e1
  exact ⟨e1, f1⟩
theorem Tri_vcX {c : Code} (HE : EnvOk P E) (hmix : P.follows .mixedOrders = true) (N nx : Nat) (hN : regsOk N c = true) (h : vcX (Tri P) (ICall P) E N c nx s (Q := ⟨Q⟩)) : Tri P c Q s := vc_sound HE hmix N c _ nx _ hN h
/-- A loop, whose rounds are shown one way or another. -/
theorem trX_loopT {α : Type} {c : Code} (L : List Nat) (F : α → St) (I : α → Prop) (μ : α → Nat) (x0 : α) (hL : ∀ r, s.m r ≠ .unused → L.contains r = true) (h0 : Kept L s (F x0)) (i0 : I x0)
    (hr : ∀ x, I x → Tri P c (loopR L F I μ (μ x) Q) (F x)) : trX (Tri P) (.loop c) s (Q := ⟨Q⟩) := Tri_loopR L F I μ x0 hL h0 i0 hr
end
attribute [go_sem] q_loopV_normal q_loopV_exit q_loopV_ret
/-- A slice that grows: none yet, or in one of two objects. -/
abbrev Dyn := Option (Bool × List Nat)
def dyl : Dyn → List Nat
  | none => []
  | some (_, l) => l
def dyv (r : Nat) : Dyn → AV
  | none => .nils
  | some (false, l) => .sl r 0 l.length 1
  | some (true, l) => .sl (r + 1) 0 l.length 1
def dym (r : Nat) (k : IntKind) (m : Nat → AObj) : Dyn → (Nat → AObj)
  | none => m
  | some (false, l) => upd m r (.live (l.map fun d : Nat => AV.int k (d : Int)))
  | some (true, l) => upd m (r + 1) (.live (l.map fun d : Nat => AV.int k (d : Int)))
def dyL (r : Nat) (L : List Nat) : Dyn → List Nat
  | none => L
  | some (false, _) => r :: L
  | some (true, _) => (r + 1) :: L
/-- Where the next object comes. -/
def dyn (r c : Nat) : Dyn → Nat
  | some (false, _) => r + 1 - c
  | _ => r - c
theorem dyL_has {r : Nat} {L : List Nat} {m : Nat → AObj} (h : Has L m) (d : Dyn) (q : Nat) (hq : m q ≠ .unused) : (dyL r L d).contains q = true := by
  have := h q hq
  rcases d with _ | ⟨_ | _, l⟩ <;> simp only [dyL, List.contains_cons, this, Bool.or_true]
end Go.Proofs.YtjnhekedclcbfaaDoor.AM
/- Package nat: the greatest divisor. -/
namespace Go.Proofs.YtjnhekedclcbfaaDoor.AM
set_option linter.all false
set_option autoImplicit true
set_option relaxedAutoImplicit true
open Go Go.Proofs
set_option maxRecDepth 100000
set_option maxHeartbeats 8000000
set_option linter.unusedSimpArgs false
variable {P : Program}

noncomputable def Sf : Nat → List AV → Option (Prop × AV) := addS (addS Se 40 DivS) 51 SubS
theorem Sf_ok (hP : PrgOk P) : EnvOk P ⟨T0, Sf⟩ := (((Se_ok hP).add (DivS_ok hP)).add (SubS_ok hP))
theorem Sf_at (f a) : Sf f a = (addS (addS Se 40 DivS) 51 SubS) f a := rfl
attribute [go_sem] Sf_at
theorem gcd_step (a b : Nat) : Nat.gcd a b = Nat.gcd b (a % b) := by rw [Nat.gcd_comm a b, Nat.gcd_rec b a, Nat.gcd_comm]
theorem natC_ck (a : Nat) : (natC a).all AV.ck = true := by
  by_cases h : a < 18446744073709551616
  · rw [natC_small h]; rfl
  · rw [natC_great h]; rfl
theorem natC_len (a : Nat) : (natC a).length = 2 := by
  by_cases h : a < 18446744073709551616
  · rw [natC_small h]; rfl
  · rw [natC_great h]; rfl
theorem natC_only (a : Nat) {f} : onlyL f (natC a) = true := by
  by_cases h : a < 18446744073709551616
  · rw [natC_small h]; rfl
  · rw [natC_great h]; simp only [onlyL, AV.only, Bool.true_and, Bool.and_true]; exact only_U
theorem CvL.un (a : Nat) : CvL [.opq (.nat a), .pad] (natC a) := by have := CvL.unnat a []; simpa using this

/-- The cells of a number, told so or so. -/
def cel : Bool → Nat → List AV
  | true, x => natC x
  | false, x => [.opq (.nat x), .pad]
theorem CvL.cel (f : Bool) (a : Nat) : CvL (cel f a) (natC a) := by
  cases f
  · exact CvL.un a
  · exact CvL.refl _
theorem CvL.lec (f : Bool) (a : Nat) : CvL (AM.cel f a) [.opq (.nat a), .pad] := by
  cases f
  · exact CvL.refl _
  · have := CvL.nat a [] rfl; simpa [AM.cel] using this
theorem cel_len (f : Bool) (a : Nat) : (cel f a).length = 2 := by
  cases f
  · rfl
  · exact natC_len a
theorem Gcd_spec (hP : PrgOk P) (a b : Nat) (ha : blen a ≤ 68719476736) (hb : blen b ≤ 68719476736) : CSpec P 14 [(.agg [.opq (.nat (a)), .pad]), (.agg [.opq (.nat (b)), .pad])] (.agg [.opq (.nat (Nat.gcd a b)), .pad]) := by
  have HE := Sf_ok hP
  refine CSpec_vc (E := ⟨T0, Sf⟩) (fn14 hP) HE hP.mix rfl (by first | rfl | (simp only [go_sem]; done)) (by first | rfl | (simp only [go_sem]; done)) (Nat.le_of_ble_eq_true rfl) ?_
  simp (maxSteps := 1000000) only [go_sem]
  refine trX_loopT [2, 1, 0] (fun q : Nat × Nat × Bool => ⟨upd (upd (upd (fun _ => .junk) 2 (.ref 0 0)) 3 (.ref 1 0)) 4 (.ref 2 0), upd (upd (upd (fun _ => .unused) 0 (.live (cel q.2.2 q.1))) 1 (.live [.opq (.nat q.2.1), .pad])) 2 (.live [.int .u64 0, .nils]), 43⟩)
    (fun q => blen q.1 ≤ 68719476736 ∧ blen q.2.1 ≤ 68719476736 ∧ Nat.gcd q.1 q.2.1 = Nat.gcd a b) (fun q => q.2.1) (a, b, false)
    (by repeat (first | exact Has.nil | refine Has.upd rfl ?_)) (Kept.of rfl (by repeat (first | exact KT.nil | refine KT.upd rfl (by first | rfl | exact hr | exact hr2 | (simp only [go_sem]; done)) ?_)) (KM.p (by repeat (first | exact KMp.nil | refine KMp.upd rfl (by first | rfl | (simp only [go_sem]; done)) ?_)))) ⟨ha, hb, rfl⟩ ?_
  rintro ⟨x, y, f⟩ ⟨h1, h2, h3⟩
  simp only [] at h1 h2 h3
  by_cases hy : y = 0
  · subst hy
    refine Tri_cv (m' := upd (upd (upd (fun _ => .unused) 0 (.live [.opq (.nat x), .pad])) 1 (.live [.opq (.nat 0), .pad])) 2 (.live [.int .u64 0, .nils])) ((((CvM.refl _).upd (CvL.lec f x) (cel_len f x).symm rfl).same _ _).same _ _) ?_
    refine Tri_vcX HE hP.mix 43 10 (by kernel_rfl) ?_
    have hb0 : blen 0 = 0 := by decide
    have hb1 : blen 0 ≤ 68719476736 := by decide
    simp (maxSteps := 1000000) only [go_sem, hb0, hb1]
    rw [Nat.gcd_zero_right] at h3
    rw [h3]; exact .refl _
  · have hyp : 0 < y := by omega
    have hbp : 0 < blen y := by
      have : blen y ≠ 0 := by rw [Ne, blen_zero_iff]; exact hy
      omega
    have hyz : (y = 0) = False := eq_false hy
    refine Tri_cv (m' := upd (upd (upd (fun _ => .unused) 0 (.live (natC x))) 1 (.live (natC y))) 2 (.live [.int .u64 0, .nils])) (((CvM.refl _).upd (CvL.cel f x) ((natC_len x).trans (cel_len f x).symm) (natC_ck x)).upd (CvL.un y) (natC_len y) (natC_ck y) |>.same _ _) ?_
    refine Tri_vcX HE hP.mix 43 10 (by kernel_rfl) ?_
    by_cases hxs : x < 18446744073709551616
    · by_cases hys : y < 18446744073709551616
      · rw [natC_small hxs, natC_small hys]
        simp (maxSteps := 1000000) only [go_sem, h2, hys, hbp]
        refine trX_loop HE hP.mix [2, 1, 0] (fun q : Nat × Nat => ⟨upd (upd (upd (fun _ => .junk) 4 (.ref 2 0)) 5 (.int .u64 (q.1 : Int))) 6 (.int .u64 (q.2 : Int)), upd (upd (upd (fun _ => .unused) 0 (.live [.int .u64 (x : Int), .nils])) 1 (.live [.int .u64 (y : Int), .nils])) 2 (.live [.int .u64 0, .nils]), 43⟩)
          (fun q => q.1 < 18446744073709551616 ∧ q.2 < 18446744073709551616 ∧ Nat.gcd q.1 q.2 = Nat.gcd a b) (fun q => q.2) (x, y) 10
          (by repeat (first | exact Has.nil | refine Has.upd rfl ?_)) (Kept.of rfl (by repeat (first | exact KT.nil | refine KT.upd rfl (by first | rfl | exact hr | exact hr2 | (simp only [go_sem]; done)) ?_)) (KM.p (by repeat (first | exact KMp.nil | refine KMp.upd rfl (by first | rfl | (simp only [go_sem]; done)) ?_)))) ⟨hxs, hys, h3⟩ 43 (by kernel_rfl) ?_
        rintro ⟨u, v⟩ ⟨k1, k2, k3⟩
        simp only [] at k1 k2 k3
        by_cases hv : 0 < v
        · have hm := u_mod u v
          have hml := Nat.mod_lt u hv
          simp (maxSteps := 1000000) only [go_sem, hv, hm]
          exact ⟨by omega, (v, u % v), Kept.of rfl (by repeat (first | exact KT.nil | refine KT.upd rfl (by first | rfl | exact hr | exact hr2 | (simp only [go_sem]; done)) ?_)) (KM.p (by repeat (first | exact KMp.nil | refine KMp.upd rfl (by first | rfl | (simp only [go_sem]; done)) ?_))), ⟨k2, by simp only []; omega, by simp only []; rw [← gcd_step]; exact k3⟩, by simp only []; omega⟩
        · have hv0 : v = 0 := by omega
          subst hv0
          simp (maxSteps := 1000000) only [go_sem, hv]
          rw [Nat.gcd_zero_right] at k3
          rw [← k3]
          exact Conv.nat1 k1
      · have hm2 := digs_length_gt 18446744073709551616 y 1 (by decide) (by omega)
        have hm2 : 2 ≤ (digs 18446744073709551616 y).length := by omega
        have hm3 : ((digs 18446744073709551616 y).length ≠ 0) = True := eq_true (by omega)
        rw [natC_small hxs, natC_great hys]
        simp (maxSteps := 1000000) only [go_sem, h1, h2, hm2, hm3, hxs, hbp, hyz]
        rw [← natC_great hys]
        have hml := Nat.mod_lt x hyp
        have hcl : objOnly [2, 1, 0] (.live (natC y)) = true := by simp only [objOnly]; exact natC_only y
        refine ⟨(y, x % y, true), Kept.of rfl (by repeat (first | exact KT.nil | refine KT.upd rfl (by first | rfl | exact hr | exact hr2 | (simp only [go_sem]; done)) ?_)) (KM.p (by repeat (first | exact KMp.nil | refine KMp.upd rfl (by first | rfl | exact hcl) ?_))), ⟨h2, blen_le_of (Nat.le_of_lt hml) h2, by simp only []; rw [← gcd_step]; exact h3⟩, by simp only []; exact hml⟩
    · have hl2 := digs_length_gt 18446744073709551616 x 1 (by decide) (by omega)
      have hl2 : 2 ≤ (digs 18446744073709551616 x).length := by omega
      have hl3 : ((digs 18446744073709551616 x).length ≠ 0) = True := eq_true (by omega)
      by_cases hys : y < 18446744073709551616
      · rw [natC_great hxs, natC_small hys]
        simp (maxSteps := 1000000) only [go_sem, h1, h2, hl2, hl3, hys, hbp, hyz]
        rw [← natC_small hys]
        have hml := Nat.mod_lt x hyp
        have hcl : objOnly [2, 1, 0] (.live (natC y)) = true := by simp only [objOnly]; exact natC_only y
        refine ⟨(y, x % y, true), Kept.of rfl (by repeat (first | exact KT.nil | refine KT.upd rfl (by first | rfl | exact hr | exact hr2 | (simp only [go_sem]; done)) ?_)) (KM.p (by repeat (first | exact KMp.nil | refine KMp.upd rfl (by first | rfl | exact hcl) ?_))), ⟨h2, blen_le_of (Nat.le_of_lt hml) h2, by simp only []; rw [← gcd_step]; exact h3⟩, by simp only []; exact hml⟩
      · have hm2 := digs_length_gt 18446744073709551616 y 1 (by decide) (by omega)
        have hm2 : 2 ≤ (digs 18446744073709551616 y).length := by omega
        have hm3 : ((digs 18446744073709551616 y).length ≠ 0) = True := eq_true (by omega)
        rw [natC_great hxs, natC_great hys]
        simp (maxSteps := 1000000) only [go_sem, h1, h2, hl2, hl3, hm2, hm3, hbp, hyz]
        rw [← natC_great hys]
        have hml := Nat.mod_lt x hyp
        have hcl : objOnly [2, 1, 0] (.live (natC y)) = true := by simp only [objOnly]; exact natC_only y
        refine ⟨(y, x % y, true), Kept.of rfl (by repeat (first | exact KT.nil | refine KT.upd rfl (by first | rfl | exact hr | exact hr2 | (simp only [go_sem]; done)) ?_)) (KM.p (by repeat (first | exact KMp.nil | refine KMp.upd rfl (by first | rfl | exact hcl) ?_))), ⟨h2, blen_le_of (Nat.le_of_lt hml) h2, by simp only []; rw [← gcd_step]; exact h3⟩, by simp only []; exact hml⟩
def GcdS : List AV → Option (Prop × AV) := on2 fun a b => (blen a ≤ 68719476736 ∧ blen b ≤ 68719476736, (.agg [.opq (.nat (Nat.gcd a b)), .pad]))
theorem GcdS_ok (hP : PrgOk P) (args p r) : GcdS args = some (p, r) → p → CSpec P 14 args r := on2_ok (fun a b h => by exact Gcd_spec hP a b h.1 h.2) args p r
attribute [go_sem] GcdS
end Go.Proofs.YtjnhekedclcbfaaDoor.AM
