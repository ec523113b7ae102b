/- Loops in the midst of a function: what lies there stays. -/
import Derived.Test.YtokoagkbfdkacaaB9
namespace Go.Proofs.Ytokoagkbfdkacaa.AM
set_option linter.all false
set_option autoImplicit true
set_option relaxedAutoImplicit true
open Go Go.Proofs
section
variable {P : Program} {E : Env} {Q : Exit → Nat → St → Prop} {c : Code} {m m1 m2 : Nat → AObj} {L : List Nat}
theorem KM.drop (h : KM L m1 m2) {a : Nat} {o : AObj} (ha : L.contains a = false) : KM L (upd m1 a o) m2 := fun r => by
  by_cases e : r = a
  · subst e
    rcases h r with ⟨h1, _⟩ | ⟨_, h2⟩
    · rw [ha] at h1; cases h1
    · exact .inr ⟨ha, h2⟩
  · have : upd m1 a o r = m1 r := by unfold AM.upd; rw [if_neg e]
    rw [this]; exact h r
theorem GenM.none (h : GenM L m) {r : Nat} (hr : L.contains r = false) : m r = .unused := Classical.byContradiction fun hn => by
  have := h.1 r hn
  rw [hr] at this; cases this
theorem trX_loopM {α : Type} {t : Nat → AV} {n : Nat} (HE : EnvOk P E) (hmix : P.follows .mixedOrders = true) (L : List Nat) (F : α → Nat → AV) (O : (Nat → AObj) → α → (Nat → AObj)) (I : α → Prop) (μ : α → Nat) (x0 : α) (nx0 N : Nat) (hN : regsOk N c = true)
    (hG : GenM L m) (h0 : O m x0 = m) (hT : KT L t (F x0)) (i0 : I x0)
    (hr : ∀ m', GenM L m' → m' = m → ∀ x, I x → vcX (Tri P) (ICall P) E N c nx0 ⟨F x, O m' x, n⟩ (Q := ⟨loopR L (fun x => ⟨F x, O m' x, n⟩) I μ (μ x) Q⟩)) : trX (Tri P) (.loop c) ⟨t, m, n⟩ (Q := ⟨Q⟩) :=
  trX_loop HE hmix L (fun x => ⟨F x, O m x, n⟩) I μ x0 nx0 hG.1 (Kept.of rfl hT (by rw [h0]; exact KM.gen hG)) i0 N hN (hr m hG rfl)
end
end Go.Proofs.Ytokoagkbfdkacaa.AM
