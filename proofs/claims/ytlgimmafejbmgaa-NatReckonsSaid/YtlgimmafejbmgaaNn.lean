/- Loops whose objects change their numbers. -/
import Derived.Test.YtlgimmafejbmgaaNm
namespace Go.Proofs.Ytlgimmafejbmgaa.AM
set_option linter.all false
set_option autoImplicit true
set_option relaxedAutoImplicit true
open Go Go.Proofs
set_option maxRecDepth 100000
set_option linter.unusedSimpArgs false
section
variable {P : Program} {E : Env} {s : St} {Q : Exit → Nat → St → Prop} {nx : Nat} {tr : TriT} {ic : ICallT}
def loopV {α : Type} (LL : α → List Nat) (F : α → St) (I : α → Prop) (μ : α → Nat) (n : Nat) (Q : Exit → Nat → St → Prop) : Exit → Nat → St → Prop
  | .normal, _, s => ∃ x, Kept (LL x) s (F x) ∧ I x ∧ μ x < n
  | e, nx, s => Q e nx s
theorem Tri_loopV {α : Type} {c : Code} (LL : α → List Nat) (F : α → St) (I : α → Prop) (μ : α → Nat) (x0 : α) (hL : ∀ x r, s.m r ≠ .unused → (LL x).contains r = true) (h0 : Kept (LL x0) s (F x0)) (i0 : I x0)
    (hr : ∀ x, I x → Tri P c (loopV LL F I μ (μ x) Q) (F x)) : Tri P (.loop c) Q s := by
  intro X φ a w R
  have hφ : ∀ r, s.m r = .unused → φ r = none := fun r h => R.mem.unused h
  let p : Act → World → Nat → Prop := fun a' w' k => ∃ x φ1, I x ∧ μ x = k ∧ Rel X φ1 (F x) a' w' ∧ Stp X φ s.m w φ1 (F x).m w'
  obtain ⟨φ0, r0, st0⟩ := kept_rel R h0 (.refl _ _ _ _) (hL x0) hφ
  refine wp_loop (fun a' w' => ∃ k, p a' w' k) (fun a' w' => leastOf (p a' w')) ⟨_, x0, φ0, i0, rfl, r0, st0⟩ fun a' w' hI => ?_
  obtain ⟨⟨x, φ1, i1, hk, r1, st1⟩, _⟩ := leastOf_spec hI
  refine Code.wp_mono ?_ (hr x i1 X φ1 a' w' r1)
  rintro e a2 w2 ⟨nx, s2, φ2, q, r2, st2⟩
  cases e with
  | normal =>
    obtain ⟨x3, k3, i3, hlt⟩ := q
    obtain ⟨φ3, r3, st3⟩ := kept_rel r2 k3 (st1.trans st2) (hL x3) hφ
    have hp : p a2 w2 (μ x3) := ⟨x3, φ3, i3, rfl, r3, st3⟩
    refine ⟨⟨_, hp⟩, ?_⟩
    have := (leastOf_spec ⟨_, hp⟩).2 _ hp
    omega
  | _ => exact ⟨nx, s2, φ2, q, r2, st1.trans st2⟩
theorem q_loopV_normal {α : Type} (LL : α → List Nat) (F : α → St) (I : α → Prop) (μ : α → Nat) (n) : qX .normal nx s (Q := ⟨loopV LL F I μ n Q⟩) = ∃ x, Kept (LL x) s (F x) ∧ I x ∧ μ x < n := rfl
theorem q_loopV_exit {α : Type} (LL : α → List Nat) (F : α → St) (I : α → Prop) (μ : α → Nat) (n i) : qX (.exit i) nx s (Q := ⟨loopV LL F I μ n Q⟩) = qX (.exit i) nx s (Q := ⟨Q⟩) := rfl
theorem q_loopV_ret {α : Type} (LL : α → List Nat) (F : α → St) (I : α → Prop) (μ : α → Nat) (n) : qX .ret nx s (Q := ⟨loopV LL F I μ n Q⟩) = qX .ret nx s (Q := ⟨Q⟩) := rfl
/-- A loop, within a condition: the objects may have other numbers in each round. -/
theorem trX_loopV {α : Type} {c : Code} (HE : EnvOk P E) (hmix : P.follows .mixedOrders = true) (LL : α → List Nat) (F : α → St) (I : α → Prop) (μ : α → Nat) (x0 : α) (nx0 : α → Nat) (hL : ∀ x r, s.m r ≠ .unused → (LL x).contains r = true) (h0 : Kept (LL x0) s (F x0)) (i0 : I x0) (N : Nat) (hN : regsOk N c = true)
    (hr : ∀ x, I x → vcX (Tri P) (ICall P) E N c (nx0 x) (F x) (Q := ⟨loopV LL F I μ (μ x) Q⟩)) : trX (Tri P) (.loop c) s (Q := ⟨Q⟩) :=
  Tri_loopV LL F I μ x0 hL h0 i0 fun x ix => vc_sound HE hmix N c _ (nx0 x) _ hN (hr x ix)
/-! Objects told otherwise. -/
def CvM (m m' : Nat → AObj) : Prop := ∀ r, m' r = m r ∨ ∃ cs cs', m r = .live cs ∧ m' r = .live cs' ∧ CvL cs cs' ∧ cs'.length = cs.length ∧ cs'.all AV.ck = true
theorem CvM.refl (m) : CvM m m := fun _ => .inl rfl
theorem CvM.upd {m m' : Nat → AObj} (h : CvM m m') {r : Nat} {cs cs' : List AV} (hc : CvL cs cs') (hl : cs'.length = cs.length) (hk : cs'.all AV.ck = true) : CvM (AM.upd m r (.live cs)) (AM.upd m' r (.live cs')) := fun q => by
  unfold AM.upd; split
  · exact .inr ⟨cs, cs', rfl, rfl, hc, hl, hk⟩
  · exact h q
theorem CvM.same {m m' : Nat → AObj} (h : CvM m m') (r : Nat) (o : AObj) : CvM (AM.upd m r o) (AM.upd m' r o) := fun q => by
  unfold AM.upd; split
  · exact .inl rfl
  · exact h q
theorem CvM.wr {m m' : Nat → AObj} (h : CvM m m') (X φ) : Wr X φ m' = Wr X φ m := by
  funext b
  simp only [Wr, eq_iff_iff]
  refine or_congr Iff.rfl ⟨?_, ?_⟩
  · rintro ⟨r, cs, h1, h2⟩
    rcases h r with h3 | ⟨c1, c2, h3, _⟩
    · exact ⟨r, cs, h1, by rw [← h3]; exact h2⟩
    · exact ⟨r, c1, h1, h3⟩
  · rintro ⟨r, cs, h1, h2⟩
    rcases h r with h3 | ⟨c1, c2, _, h3, _⟩
    · exact ⟨r, cs, h1, by rw [h3]; exact h2⟩
    · exact ⟨r, c2, h1, h3⟩
theorem CvM.rel {m m' : Nat → AObj} (h : CvM m m') {X φ t n a w} (R : Rel X φ ⟨t, m, n⟩ a w) : Rel X φ ⟨t, m', n⟩ a w := by
  have hW := h.wr X φ
  refine ⟨fun i hi => ?_, R.df, R.n, ⟨fun r => ?_, R.mem.inj, R.mem.ext, R.mem.xlt⟩⟩
  · rw [hW]; exact R.tm i hi
  · have := R.mem.obj r
    simp only [] at this ⊢
    rw [hW]
    rcases h r with h3 | ⟨cs, cs', h1, h2, h3, h4, h5⟩
    · rw [h3]; exact this
    · rw [h1] at this; rw [h2]
      obtain ⟨b, hb, c, e, k1, k2, k3, k4⟩ := this
      exact ⟨b, hb, c, e, k1, by rw [h4]; exact k2, by rw [h4]; exact h3 _ _ _ _ k3, h5⟩
theorem Tri_cv {c : Code} {t : Nat → AV} {m m' : Nat → AObj} {n : Nat} (h : CvM m m') (k : Tri P c Q ⟨t, m', n⟩) : Tri P c Q ⟨t, m, n⟩ := by
  intro X φ a w R
  refine Code.wp_mono ?_ (k X φ a w (h.rel R))
  rintro e a2 w2 ⟨nx, s2, φ2, q, r2, st2⟩
  have hW := h.wr X φ
  refine ⟨nx, s2, φ2, q, r2, ?_⟩
  obtain ⟨e1, f1⟩ := st2
  simp only [] at e1
  rw [hW] at e1
  exact ⟨e1, f1⟩
theorem Tri_vcX {c : Code} (HE : EnvOk P E) (hmix : P.follows .mixedOrders = true) (N nx : Nat) (hN : regsOk N c = true) (h : vcX (Tri P) (ICall P) E N c nx s (Q := ⟨Q⟩)) : Tri P c Q s := vc_sound HE hmix N c _ nx _ hN h
/-- A loop, whose rounds are shown one way or another. -/
theorem trX_loopT {α : Type} {c : Code} (L : List Nat) (F : α → St) (I : α → Prop) (μ : α → Nat) (x0 : α) (hL : ∀ r, s.m r ≠ .unused → L.contains r = true) (h0 : Kept L s (F x0)) (i0 : I x0)
    (hr : ∀ x, I x → Tri P c (loopR L F I μ (μ x) Q) (F x)) : trX (Tri P) (.loop c) s (Q := ⟨Q⟩) := Tri_loopR L F I μ x0 hL h0 i0 hr
end
attribute [go_sem] q_loopV_normal q_loopV_exit q_loopV_ret
/-- A slice that grows: none yet, or in one of two objects. -/
abbrev Dyn := Option (Bool × List Nat)
def dyl : Dyn → List Nat
  | none => []
  | some (_, l) => l
def dyv (r : Nat) : Dyn → AV
  | none => .nils
  | some (false, l) => .sl r 0 l.length 1
  | some (true, l) => .sl (r + 1) 0 l.length 1
def dym (r : Nat) (k : IntKind) (m : Nat → AObj) : Dyn → (Nat → AObj)
  | none => m
  | some (false, l) => upd m r (.live (l.map fun d : Nat => AV.int k (d : Int)))
  | some (true, l) => upd m (r + 1) (.live (l.map fun d : Nat => AV.int k (d : Int)))
def dyL (r : Nat) (L : List Nat) : Dyn → List Nat
  | none => L
  | some (false, _) => r :: L
  | some (true, _) => (r + 1) :: L
/-- Where the next object comes. -/
def dyn (r c : Nat) : Dyn → Nat
  | some (false, _) => r + 1 - c
  | _ => r - c
theorem dyL_has {r : Nat} {L : List Nat} {m : Nat → AObj} (h : Has L m) (d : Dyn) (q : Nat) (hq : m q ≠ .unused) : (dyL r L d).contains q = true := by
  have := h q hq
  rcases d with _ | ⟨_ | _, l⟩ <;> simp only [dyL, List.contains_cons, this, Bool.or_true]
end Go.Proofs.Ytlgimmafejbmgaa.AM
