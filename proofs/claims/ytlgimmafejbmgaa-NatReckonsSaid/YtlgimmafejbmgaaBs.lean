/- What the proofs share: numbers, loops with named states, specifications. -/
import Derived.Test.YtlgimmafejbmgaaAm15
import Derived.Test.YtlgimmafejbmgaaNt
import Derived.IntWalk
namespace Go.Proofs.Ytlgimmafejbmgaa.AM
set_option linter.all false
set_option autoImplicit true
set_option relaxedAutoImplicit true
open Go

/-- A digit. -/
abbrev U (d : Nat) : AV := .int .u64 (d : Int)

section
variable {W : Nat → Prop} {X : Nat → Prop} {φ φ0 : Nat → Option (Option Nat)} {m m0 : Nat → AObj} {s s1 s2 s' F : St} {a : Act} {w w' w0 : World} {P : Program} {T : Nat → Option TyD} {E : Env} {o x y : Oper} {ops : Array Oper}
  {Q Q' : Exit → Nat → St → Prop} {nx : Nat} {L : List Nat} {tr : TriT} {ic : ICallT}

def loopR {α : Type} (L : List Nat) (F : α → St) (I : α → Prop) (μ : α → Nat) (n : Nat) (Q : Exit → Nat → St → Prop) : Exit → Nat → St → Prop
  | .normal, _, s => ∃ x, Kept L s (F x) ∧ I x ∧ μ x < n
  | e, nx, s => Q e nx s

/-- A loop whose states have names. -/
theorem Tri_loopR {α : Type} {c : Code} (L : List Nat) (F : α → St) (I : α → Prop) (μ : α → Nat) (x0 : α) (hL : ∀ r, s.m r ≠ .unused → L.contains r = true) (h0 : Kept L s (F x0)) (i0 : I x0)
    (hr : ∀ x, I x → Tri P c (loopR L F I μ (μ x) Q) (F x)) : Tri P (.loop c) Q s := by
  let p : St → Nat → Prop := fun s k => ∃ x, F x = s ∧ I x ∧ μ x = k
  refine Tri_loop L (fun s => ∃ k, p s k) (fun s => leastOf (p s)) hL ⟨F x0, h0, _, x0, rfl, i0, rfl⟩ fun s hs => ?_
  obtain ⟨⟨x, rfl, ix, hx⟩, _⟩ := leastOf_spec hs
  refine (hr x ix).mono fun e nx s' q => ?_
  cases e with
  | normal =>
    obtain ⟨x', k1, i1, hlt⟩ := q
    have hp : p (F x') (μ x') := ⟨x', rfl, i1, rfl⟩
    refine ⟨F x', k1, ⟨_, hp⟩, ?_⟩
    have := (leastOf_spec ⟨_, hp⟩).2 _ hp
    simp only [] at this ⊢
    rw [hx] at hlt
    exact Nat.lt_of_le_of_lt this hlt
  | _ => exact q

theorem q_loopR_normal {α : Type} (F : α → St) (I : α → Prop) (μ : α → Nat) (n) : qX .normal nx s (Q := ⟨loopR L F I μ n Q⟩) = ∃ x, Kept L s (F x) ∧ I x ∧ μ x < n := rfl
theorem q_loopR_exit {α : Type} (F : α → St) (I : α → Prop) (μ : α → Nat) (n i) : qX (.exit i) nx s (Q := ⟨loopR L F I μ n Q⟩) = qX (.exit i) nx s (Q := ⟨Q⟩) := rfl
theorem q_loopR_ret {α : Type} (F : α → St) (I : α → Prop) (μ : α → Nat) (n) : qX .ret nx s (Q := ⟨loopR L F I μ n Q⟩) = qX .ret nx s (Q := ⟨Q⟩) := rfl

/-- A loop, within a condition. -/
theorem trX_loop {α : Type} {c : Code} (HE : EnvOk P E) (hmix : P.follows .mixedOrders = true) (L : List Nat) (F : α → St) (I : α → Prop) (μ : α → Nat) (x0 : α) (nx0 : Nat) (hL : ∀ r, s.m r ≠ .unused → L.contains r = true) (h0 : Kept L s (F x0)) (i0 : I x0) (N : Nat) (hN : regsOk N c = true)
    (hr : ∀ x, I x → vcX (Tri P) (ICall P) E N c nx0 (F x) (Q := ⟨loopR L F I μ (μ x) Q⟩)) : trX (Tri P) (.loop c) s (Q := ⟨Q⟩) :=
  Tri_loopR L F I μ x0 hL h0 i0 fun x ix => vc_sound HE hmix N c _ nx0 _ hN (hr x ix)

/-! Kept states. -/
def KT (L : List Nat) (t t' : Nat → AV) : Prop := ∀ i, t' i = .junk ∨ (t' i = t i ∧ (t' i).only (fun r => L.contains r) = true)
def KM (L : List Nat) (m m' : Nat → AObj) : Prop := ∀ r, (L.contains r = true ∧ m' r = m r ∧ objOnly L (m r) = true) ∨ (L.contains r = false ∧ m' r = .unused)
theorem Kept.of {t t' : Nat → AV} {n n' : Nat} (hn : n' = n) (ht : KT L t t') (hm : KM L m m0) : Kept L ⟨t, m, n⟩ ⟨t', m0, n'⟩ := ⟨hn, ht, hm⟩
theorem KT.nil {t : Nat → AV} : KT L t (fun _ => .junk) := fun _ => .inl rfl
theorem KT.upd {t t' : Nat → AV} {i : Nat} {v : AV} (h : t i = v) (ho : v.only (fun r => L.contains r) = true) (k : KT L t t') : KT L t (upd t' i v) := fun j => by
  unfold AM.upd; split
  · rename_i e; subst e; exact .inr ⟨h.symm, ho⟩
  · exact k j
/-- Some objects. -/
def memOf : List (Nat × AObj) → Nat → AObj
  | [] => fun _ => .unused
  | (r, o) :: l => upd (memOf l) r o
theorem KM.nil : KM [] m (fun _ => .unused) := fun _ => .inr ⟨rfl, rfl⟩
theorem KM.cons {l : List (Nat × AObj)} : (∀ x ∈ l, m x.1 = x.2 ∧ objOnly (l.map Prod.fst) x.2 = true) → (∀ r, (l.map Prod.fst).contains r = true → memOf l r = m r ∧ objOnly (l.map Prod.fst) (m r) = true) → KM (l.map Prod.fst) m (memOf l) := fun h h' r => by
  by_cases hr : (l.map Prod.fst).contains r = true
  · exact .inl ⟨hr, h' r hr⟩
  · refine .inr ⟨by simpa using hr, ?_⟩
    clear h h'
    induction l with
    | nil => rfl
    | cons x l ih =>
      obtain ⟨r', o⟩ := x
      have h2 : r ≠ r' ∧ ¬ (l.map Prod.fst).contains r = true := by
        simp only [List.map_cons, List.contains_cons, Bool.or_eq_true, not_or] at hr
        exact ⟨by simpa using hr.1, hr.2⟩
      simp only [memOf, AM.upd, if_neg h2.1]
      exact ih h2.2
theorem KM.one {r : Nat} {o : AObj} (h : m r = o) (ho : objOnly [r] o = true) : KM [r] m (upd (fun _ => .unused) r o) := fun q => by
  by_cases e : q = r
  · subst e; exact .inl ⟨by simp, by simp [AM.upd, h], by rw [h]; exact ho⟩
  · exact .inr ⟨by simp [e], by simp [AM.upd, e]⟩
theorem KM.two {r r' : Nat} {o o' : AObj} (h : m r = o) (h' : m r' = o') (ho : objOnly [r, r'] o = true) (ho' : objOnly [r, r'] o' = true) (hne : (r' == r) = false) : KM [r, r'] m (upd (upd (fun _ => .unused) r o) r' o') := fun q => by
  have hne : r' ≠ r := by simpa using hne
  by_cases e : q = r
  · subst e; exact .inl ⟨by simp, by simp [AM.upd, h, Ne.symm hne], by rw [h]; exact ho⟩
  · by_cases e' : q = r'
    · subst e'; exact .inl ⟨by simp, by simp [AM.upd, h'], by rw [h']; exact ho'⟩
    · exact .inr ⟨by simp [e, e'], by simp [AM.upd, e, e']⟩
theorem KM.three {r r' r'' : Nat} {o o' o'' : AObj} (h : m r = o) (h' : m r' = o') (h'' : m r'' = o'') (ho : objOnly [r, r', r''] o = true) (ho' : objOnly [r, r', r''] o' = true) (ho'' : objOnly [r, r', r''] o'' = true) (hne : (r' == r) = false) (hne1 : (r'' == r) = false) (hne2 : (r'' == r') = false) :
    KM [r, r', r''] m (upd (upd (upd (fun _ => .unused) r o) r' o') r'' o'') := fun q => by
  have hne : r' ≠ r := by simpa using hne
  have hne1 : r'' ≠ r := by simpa using hne1
  have hne2 : r'' ≠ r' := by simpa using hne2
  by_cases e : q = r
  · subst e; exact .inl ⟨by simp, by simp [AM.upd, h, Ne.symm hne, Ne.symm hne1], by rw [h]; exact ho⟩
  · by_cases e' : q = r'
    · subst e'; exact .inl ⟨by simp, by simp [AM.upd, h', Ne.symm hne2], by rw [h']; exact ho'⟩
    · by_cases e'' : q = r''
      · subst e''; exact .inl ⟨by simp, by simp [AM.upd, h''], by rw [h'']; exact ho''⟩
      · exact .inr ⟨by simp [e, e', e''], by simp [AM.upd, e, e', e'']⟩
def KMp (L L' : List Nat) (m m' : Nat → AObj) : Prop := ∀ q, (L'.contains q = true ∧ m' q = m q ∧ objOnly L (m q) = true) ∨ (L'.contains q = false ∧ m' q = .unused)
theorem KMp.nil {L : List Nat} : KMp L [] m (fun _ => .unused) := fun _ => .inr ⟨rfl, rfl⟩
theorem KMp.upd {L L' : List Nat} {m' : Nat → AObj} {r : Nat} {o : AObj} (h : m r = o) (ho : objOnly L o = true) (k : KMp L L' m m') : KMp L (r :: L') m (upd m' r o) := fun q => by
  by_cases e : q = r
  · subst e; exact .inl ⟨by simp, by simp [AM.upd, h], by rw [h]; exact ho⟩
  · rcases k q with ⟨h1, h2, h3⟩ | ⟨h1, h2⟩
    · exact .inl ⟨by simp [e]; simpa using h1, by simpa [AM.upd, e] using h2, h3⟩
    · exact .inr ⟨by simp [e]; simpa using h1, by simpa [AM.upd, e] using h2⟩
theorem KM.p {L : List Nat} {m' : Nat → AObj} (h : KMp L L m m') : KM L m m' := h
/-- Which objects there are. -/
def Has (L : List Nat) (m : Nat → AObj) : Prop := ∀ r, m r ≠ .unused → L.contains r = true
theorem Has.nil : Has L (fun _ => .unused) := fun _ h => absurd rfl h
theorem Has.upd {r : Nat} {o : AObj} (hr : L.contains r = true) (h : Has L m) : Has L (upd m r o) := fun q hq => by
  by_cases e : q = r
  · subst e; exact hr
  · exact h q (by simpa [AM.upd, e] using hq)

/-! Specifications. -/
def endK (r : AV) : Nat → St → AV → Prop := fun _ s v => fzC s.m 4 v ∧ groundL [fzV s.m 4 v] = true ∧ Conv (fzV s.m 4 v) r
theorem fin_endK (r v) : finX nx s v (K := ⟨endK r⟩) = (fzC s.m 4 v ∧ groundL [fzV s.m 4 v] = true ∧ Conv (fzV s.m 4 v) r) := rfl
/-- What is asked of a function of the program. -/
structure FnOk (P : Program) (f : Nat) (fn : Func) : Prop where
  hf : P.funcs[f]? = some fn
  hn : (fn.name == "runtime.NumGoroutine") = false
  hreg : regsOk fn.ntmps (bodyOf fn) = true
theorem FnOk.reg {f fn c} (h : FnOk P f fn) (hb : fn.body = some c) : regsOk fn.ntmps c = true := by have := h.hreg; unfold bodyOf at this; rw [hb] at this; exact this
theorem CSpec_vc {f fn c args r} (h : FnOk P f fn) (HE : EnvOk P E) (hmix : P.follows .mixedOrders = true) (hb : fn.body = some c) (hg : groundL args = true) (hp : args.all AV.plain = true) (hl : args.length ≤ fn.ntmps)
    (k : vcX (Tri P) (ICall P) E fn.ntmps c 0 (st0 args (fun _ => .unused) fn.ntmps) (Q := ⟨retQ E.T fn (endK r)⟩)) : CSpec P f args r :=
  CSpec_of HE hmix h.hf hb h.hn hg hp hl (h.reg hb) k
/-- A call that is walked into. -/
theorem icX_vc {f fn c args K} (h : FnOk P f fn) (HE : EnvOk P E) (hmix : P.follows .mixedOrders = true) (hb : fn.body = some c) (hp : args.all AV.plain = true) (hl : args.length ≤ fn.ntmps) (nx : Nat)
    (k : vcX (Tri P) (ICall P) E fn.ntmps c nx (st0 args m fn.ntmps) (Q := ⟨retQ E.T fn fun nx s v => K nx v s.m⟩)) : icX (ICall P) f args m (K := ⟨K⟩) :=
  ICall_of HE hmix h.hf hb h.hn hp hl (h.reg hb) nx k

theorem Conv.refl (r : AV) : Conv r r := fun _ _ _ _ h => h
/-- Two ways to tell some cells. -/
def CvL (as bs : List AV) : Prop := ∀ X φ w l, RL X φ w l as → RL X φ w l bs
theorem CvL.refl (as) : CvL as as := fun _ _ _ _ h => h
theorem CvL.conv {r0 r : AV} (h : CvL [r0] [r]) : Conv r0 r := fun X φ w v hv => h X φ w [v] hv
theorem CvL.trans {a b c : List AV} (h : CvL a b) (h' : CvL b c) : CvL a c := fun X φ w l hl => h' X φ w l (h X φ w l hl)

/-- One more function is known. -/
def addS (S : Nat → List AV → Option (Prop × AV)) (f : Nat) (g : List AV → Option (Prop × AV)) : Nat → List AV → Option (Prop × AV) := fun n args => if n = f then g args else S n args
theorem addS_eq (S f g args) : addS S f g f args = g args := if_pos rfl
theorem addS_ne (S f g n args) (h : (n == f) = false) : addS S f g n args = S n args := if_neg (by simpa using h)
def noS : Nat → List AV → Option (Prop × AV) := fun _ _ => none
theorem noS_none (n args) : noS n args = none := rfl
theorem EnvOk.no (h : TyOk P T) : EnvOk P ⟨T, noS⟩ := ⟨h, fun _ _ _ _ h => by simp [noS] at h⟩
theorem EnvOk.add {S f g} (h : EnvOk P ⟨T, S⟩) (hg : ∀ args p r, g args = some (p, r) → p → CSpec P f args r) : EnvOk P ⟨T, addS S f g⟩ := ⟨h.ty, fun f' args p r e hp => by
  simp only [addS] at e
  split at e
  · rename_i e'; subst e'; exact hg _ _ _ e hp
  · exact h.sp f' args p r e hp⟩
theorem EnvOk.re {S T'} (h : EnvOk P ⟨T, S⟩) (h' : TyOk P T') : EnvOk P ⟨T', S⟩ := ⟨h', h.sp⟩
end
attribute [go_sem] objOnly q_loopR_normal q_loopR_exit q_loopR_ret fin_endK addS_eq addS_ne noS_none
end Go.Proofs.Ytlgimmafejbmgaa.AM
