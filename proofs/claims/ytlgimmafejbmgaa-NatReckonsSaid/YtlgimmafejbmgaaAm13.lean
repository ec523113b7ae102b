/- The abstract machine: verification conditions of a function's code, and that they are sound. -/
import Derived.Test.YtlgimmafejbmgaaAm12
import Derived.Scope
namespace Go.Proofs.Ytlgimmafejbmgaa.AM
set_option linter.all false
set_option autoImplicit true
set_option relaxedAutoImplicit true
open Go

/-- A call that is walked into: it sees the caller's memory. -/
def ICall (P : Program) (f : Nat) (args : List AV) (m : Nat → AObj) (K : Nat → AV → (Nat → AObj) → Prop) : Prop :=
  ∀ X φ w vs, RelM X φ m w → RL (Wr X φ m) φ w vs args → Invk P f vs.toArray w fun v w' => ∃ nx r m' φ', K nx r m' ∧ RelM X φ' m' w' ∧ RL (Wr X φ' m') φ' w' [v] [r] ∧ Stp X φ m w φ' m' w'

abbrev TriT := Code → (Exit → Nat → St → Prop) → St → Prop
abbrev ICallT := Nat → List AV → (Nat → AObj) → (Nat → AV → (Nat → AObj) → Prop) → Prop

def ifB (b : Bool) (p q : Prop) : Prop := (b = true → p) ∧ (b = false → q)

def guardB (b : Option Bool) (p q : Prop) : Prop :=
  match b with
  | some b => ifB b p q
  | none => False

def stepB (x : Option (Prop × St)) (f : St → Prop) (g : Prop) : Prop :=
  match x with
  | some (p, s) => p ∧ f s
  | none => g

def callB (x : Option (Nat × List AV)) (f : Nat → List AV → Prop) : Prop :=
  match x with
  | some (g, args) => f g args
  | none => False

def icB (ic : ICallT) (f : Nat) (args : List AV) (m : Nat → AObj) (K : Nat → AV → (Nat → AObj) → Prop) : Prop := ic f args m K
def trB (tr : TriT) (c : Code) (Q : Exit → Nat → St → Prop) (s : St) : Prop := tr c Q s

def vOp (ic : ICallT) (E : Env) (draw : Bool) (nx : Nat) (s : St) (o : Oper) (K : Nat → St → Prop) : Prop :=
  stepB (aStep E nx s o) (K (nx + 1)) (ifB draw False (callB (callee s o) fun f args => icB ic f args s.m fun nx r m => K nx { (s.put o.dst r) with m := m }))

/-- What was looked at, in a region whose order is drawn and that stores. -/
inductive Acc where
  | off
  | on (i : Nat) (l : List (Nat × List Nat))

def Acc.next (o : Oper) (s : St) : Acc → Acc
  | .off => .off
  | .on i l => .on (i + 1) ((i, reads o s) :: l)

def Acc.ok (o : Oper) (s : St) : Acc → Bool
  | .off => true
  | .on _ l => lateOk l o s

def acc0 (draw st : Bool) : Acc :=
  match draw, st with
  | true, true => .on 0 []
  | _, _ => .off

def vOps (ic : ICallT) (E : Env) (draw : Bool) (ops : Array Oper) : List Oper → Acc → Nat → St → (Nat → St → Prop) → Prop
  | [], _, nx, s, K => K nx s
  | o :: os, a, nx, s, K => a.ok o s = true ∧ guardB (wantedA ops o s) (vOp ic E draw nx s o fun nx s' => vOps ic E draw ops os (a.next o s) nx s' K) (vOps ic E draw ops os (a.next o s) nx (s.put o.dst (.tup [])) K)

def Tri (P : Program) (c : Code) (Q : Exit → Nat → St → Prop) (s : St) : Prop :=
  ∀ X φ a w, Rel X φ s a w → c.wp P (fun e a' w' => ∃ nx s' φ', Q e nx s' ∧ Rel X φ' s' a' w' ∧ Stp X φ s.m w φ' s'.m w') a w

def seqQ (K : (Exit → Nat → St → Prop) → Nat → St → Prop) (Q : Exit → Nat → St → Prop) : Exit → Nat → St → Prop
  | .normal, nx, s => K Q nx s
  | e, nx, s => Q e nx s

def blockQ (id : Nat) (Q : Exit → Nat → St → Prop) : Exit → Nat → St → Prop
  | .exit j, nx, s => match Nat.decEq j id with
    | .isTrue _ => Q .normal nx s
    | .isFalse _ => Q (.exit j) nx s
  | e, nx, s => Q e nx s

def scopeQ (Q : Exit → Nat → St → Prop) : Exit → Nat → St → Prop
  | .goto _, _, _ => False
  | e, nx, s => Q e nx s

def regOk (n : Nat) (ops : Array Oper) (draw : Bool) : Bool := ops.toList.all (dstOk n) && (!draw || drawOk ops)

def AV.asB : AV → Option Bool
  | .bool b => some b
  | _ => none

/-- May all regions be walked in the text's order, and do they write slots that there are? -/
def regsOk (N : Nat) : Code → Bool
  | .region _ ops draw => regOk N ops draw
  | .seq a b => regsOk N a && regsOk N b
  | .cond _ x y => regsOk N x && regsOk N y
  | .block _ c => regsOk N c
  | .scope c => regsOk N c
  | _ => true

def vc (tr : TriT) (ic : ICallT) (E : Env) (N : Nat) : Code → (Exit → Nat → St → Prop) → Nat → St → Prop
  | .skip, Q, nx, s => Q .normal nx s
  | .region _ ops draw, Q, nx, s => s.n = N ∧ vOps ic E draw ops ops.toList (acc0 draw (ops.toList.any isSt)) nx s (Q .normal)
  | .seq a b, Q, nx, s => vc tr ic E N a (seqQ (vc tr ic E N b) Q) nx s
  | .cond c x y, Q, nx, s => guardB (aev s c).asB (vc tr ic E N x Q nx s) (vc tr ic E N y Q nx s)
  | .block id c, Q, nx, s => vc tr ic E N c (blockQ id Q) nx s
  | .exit id, Q, nx, s => Q (.exit id) nx s
  | .ret, Q, nx, s => Q .ret nx s
  | .label _, Q, nx, s => Q .normal nx s
  | .scope c, Q, nx, s => vc tr ic E N c (scopeQ Q) nx s
  | c, Q, _, s => trB tr c Q s

section
variable {X : Nat → Prop} {φ : Nat → Option (Option Nat)} {m : Nat → AObj} {s s1 s2 s' F : St} {a : Act} {w w' : World} {P : Program} {T : Nat → Option TyD} {E : Env} {o x y : Oper} {ops : Array Oper}
  {Q Q' : Exit → Nat → St → Prop} {nx : Nat}

theorem vOp_step {draw K} (h : vOp (ICall P) E draw nx s o K) : (∃ nx' s' p, aStep E nx s o = some (p, s') ∧ p ∧ K nx' s') ∨ (draw = false ∧ ∃ f args, callee s o = some (f, args) ∧ ICall P f args s.m fun nx r m => K nx { (s.put o.dst r) with m := m }) := by
  unfold vOp stepB at h
  split at h
  · rename_i p s' he; exact .inl ⟨nx + 1, s', p, he, h.1, h.2⟩
  · cases draw with
    | true => exact (h.1 rfl).elim
    | false =>
      have h' := h.2 rfl
      unfold callB at h'
      split at h'
      · rename_i f args hc; exact .inr ⟨rfl, f, args, hc, h'⟩
      · exact h'.elim

/-- A drawn region's condition gives a run in the text's order. -/
theorem vOps_run {K : Nat → St → Prop} : ∀ (os : List Oper) (k nx : Nat) (s : St) (c : Acc) (l : List (Nat × List Nat)), (∀ j, os[j]? = ops[k + j]?) → (c = .on k l ∨ (c = .off ∧ ∀ o ∈ os, isSt o = false)) → vOps (ICall P) E true ops os c nx s K → ∃ nx' F, ARun E ops (List.range' k os.length) l s F ∧ K nx' F
  | [], k, nx, s, _, _, _, _, h => ⟨nx, s, rfl, h⟩
  | o :: os, k, nx, s, c, l, hj, hc, h => by
    unfold vOps at h
    obtain ⟨hok, h⟩ := h
    unfold guardB at h
    have ho : ops[k]? = some o := by have := hj 0; simpa using this.symm
    have hj' : ∀ j, os[j]? = ops[k + 1 + j]? := fun j => by have := hj (j + 1); rw [show k + 1 + j = k + (j + 1) by omega]; simpa using this
    have hl : lateOk l o s = true := by
      rcases hc with rfl | ⟨rfl, hn⟩
      · exact hok
      · unfold lateOk
        split
        · rename_i t a x e
          have := hn o List.mem_cons_self
          simp [isSt, e] at this
        · rfl
    have hc' : c.next o s = .on (k + 1) ((k, reads o s) :: l) ∨ (c.next o s = .off ∧ ∀ o ∈ os, isSt o = false) := by
      rcases hc with rfl | ⟨rfl, hn⟩
      · exact .inl rfl
      · exact .inr ⟨rfl, fun o ho => hn o (List.mem_cons_of_mem _ ho)⟩
    split at h
    case h_2 => exact h.elim
    case h_1 b hb =>
      cases b with
      | true =>
        rcases vOp_step (h.1 rfl) with ⟨nx1, s1, p, h1, hp, h2⟩ | ⟨hf, _⟩
        · obtain ⟨nx', F, h3, h4⟩ := vOps_run os (k + 1) nx1 s1 _ _ hj' hc' h2
          exact ⟨nx', F, ⟨o, s1, ho, hl, .inl ⟨hb, _, p, h1, hp⟩, h3⟩, h4⟩
        · simp at hf
      | false =>
        obtain ⟨nx', F, h3, h4⟩ := vOps_run os (k + 1) nx _ _ _ hj' hc' (h.2 rfl)
        exact ⟨nx', F, ⟨o, _, ho, hl, .inr ⟨hb, rfl⟩, h3⟩, h4⟩

/-- Operations in the text's order. -/
theorem vOps_plain (HE : EnvOk P E) {K : Nat → St → Prop} {R : Exit → Act → World → Prop} : ∀ (os : List Oper) (c : Acc) (nx : Nat) (s : St) (φ : Nat → Option (Option Nat)) (a : Act) (w : World), Rel X φ s a w → (∀ o ∈ os, dstOk s.n o = true) → vOps (ICall P) E false ops os c nx s K →
    (∀ a' w' φ' nx' s', K nx' s' → Rel X φ' s' a' w' → Stp X φ s.m w φ' s'.m w' → R .normal a' w') → wpList P ops R os a w
  | [], _, nx, s, φ, a, w, hR, _, h, hK => hK a w φ nx s h hR (.refl _ _ _ _)
  | o :: os, c, nx, s, φ, a, w, hR, hd, h, hK => by
    unfold vOps at h
    replace h := h.2
    unfold guardB at h
    have hdo := hd o List.mem_cons_self
    split at h
    case h_2 => exact h.elim
    case h_1 b hb =>
      simp only [wpList]
      rw [wanted_of hR hb]
      cases b with
      | true =>
        rw [if_pos rfl]
        left
        rcases vOp_step (h.1 rfl) with ⟨nx1, s1, p, h1, hp, h2⟩ | ⟨_, f, args, hc, hI⟩
        · refine aStep_sound HE hR h1 hp hdo fun a' w' φ' R' hst => ?_
          have hn : s1.n = s.n := step_n (ops := ops) (.inl ⟨hb, _, p, h1, hp⟩)
          exact vOps_plain HE os _ nx1 s1 φ' a' w' R' (by rw [hn]; exact fun o ho => hd o (List.mem_cons_of_mem _ ho)) h2 (fun a2 w2 φ2 nx2 s2 k r st => hK a2 w2 φ2 nx2 s2 k r (hst.trans st))
        · obtain ⟨g, as, ts, fs, cs, ho, hv, hr⟩ := callee_sound hR hc
          have hd' : ∀ d, o.dst = some d → d < s.n := fun d e => by simpa [dstOk, e] using hdo
          refine upon_call ho hv (hI X φ w _ hR.mem hr) ?_
          rintro v w' ⟨nx', r, m', φ', k, hm, hv', hst⟩
          exact vOps_plain HE os _ nx' _ φ' _ w' (hR.put hst hm hv' hd') (fun o ho => hd o (List.mem_cons_of_mem _ ho)) k (fun a2 w2 φ2 nx2 s2 k r st => hK a2 w2 φ2 nx2 s2 k r (hst.trans st))
      | false =>
        rw [if_neg (by simp)]
        have hd' : ∀ d, o.dst = some d → d < s.n := fun d e => by simpa [dstOk, e] using hdo
        exact vOps_plain HE os _ nx _ φ _ w (hR.put (.refl _ _ _ _) hR.mem (.tup .nil .nil) hd') (fun o ho => hd o (List.mem_cons_of_mem _ ho)) (h.2 rfl) hK

theorem Tri.mono {c : Code} (h : Tri P c Q s) (hq : ∀ e nx s, Q e nx s → Q' e nx s) : Tri P c Q' s := fun X φ a w R =>
  Code.wp_mono (fun _ _ _ ⟨nx, s', φ', q, r⟩ => ⟨nx, s', φ', hq _ _ _ q, r⟩) (h X φ a w R)

theorem vc_sound (HE : EnvOk P E) (hmix : P.follows .mixedOrders = true) (N : Nat) : ∀ (c : Code) (Q : Exit → Nat → St → Prop) (nx : Nat) (s : St), regsOk N c = true → vc (Tri P) (ICall P) E N c Q nx s → Tri P c Q s := by
  intro c
  induction c with
  | skip => exact fun Q nx s _ h X φ a w R => wp_skip ⟨nx, s, φ, h, R, .refl _ _ _ _⟩
  | label l => exact fun Q nx s _ h X φ a w R => wp_label ⟨nx, s, φ, h, R, .refl _ _ _ _⟩
  | exit id => exact fun Q nx s _ h X φ a w R => wp_exit ⟨nx, s, φ, h, R, .refl _ _ _ _⟩
  | ret => exact fun Q nx s _ h X φ a w R => wp_ret ⟨nx, s, φ, h, R, .refl _ _ _ _⟩
  | region id ops draw =>
    intro Q nx s h1 h X φ a w R
    obtain ⟨h0, h2⟩ := h
    subst h0
    simp only [regsOk, regOk, Bool.and_eq_true, List.all_eq_true] at h1
    have hd : ∀ o ∈ ops, dstOk s.n o = true := fun o ho => h1.1 o (by simpa using ho)
    cases draw with
    | true =>
      have hok : drawOk ops = true := by simpa using h1.2
      obtain ⟨nx', F, h3, h4⟩ := vOps_run (ops := ops) ops.toList 0 nx s _ [] (fun j => by simp) (by
        cases hst : ops.toList.any isSt with
        | true => exact .inl rfl
        | false => refine .inr ⟨rfl, fun o ho => ?_⟩; rw [List.any_eq_false] at hst; simpa using hst o ho) h2
      rw [Array.length_toList, ← List.range_eq_range'] at h3
      exact region_draw HE hmix hok hd h3 R (fun a' w' φ' R' hst => ⟨nx', F, φ', h4, R', hst⟩)
    | false =>
      refine wp_region ?_
      have e := wpOps_eq_wpList (P := P) (ops := ops) (Q := fun e a' w' => ∃ nx s' φ', Q e nx s' ∧ Rel X φ' s' a' w' ∧ Stp X φ s.m w φ' s'.m w') ops.toList 0 (fun j => by simp)
      rw [Array.length_toList, ← List.range_eq_range'] at e
      rw [e]
      exact vOps_plain HE ops.toList _ nx s φ a w R h1.1 h2 (fun a' w' φ' nx' s' k r st => ⟨nx', s', φ', k, r, st⟩)
  | seq x y ih1 ih2 =>
    intro Q nx s hr h X φ a w R
    simp only [regsOk, Bool.and_eq_true] at hr
    refine wp_seq (Code.wp_mono ?_ (ih1 _ nx s hr.1 h X φ a w R))
    rintro e a' w' ⟨nx', s', φ', q, r, st⟩
    cases e with
    | normal =>
      refine Code.wp_mono ?_ (ih2 Q nx' s' hr.2 q X φ' a' w' r)
      rintro e a2 w2 ⟨nx2, s2, φ2, q2, r2, st2⟩
      exact ⟨nx2, s2, φ2, q2, r2, st.trans st2⟩
    | _ => exact ⟨nx', s', φ', q, r, st⟩
  | cond c x y ih1 ih2 =>
    intro Q nx s hr h X φ a w R
    simp only [regsOk, Bool.and_eq_true] at hr
    unfold vc guardB at h
    split at h
    · rename_i b hb
      have hb : aev s c = .bool b := by revert hb; cases aev s c <;> simp [AV.asB]
      have hc := R.ev c
      rw [hb] at hc
      exact wp_cond_split hc.bool_inv (fun e => ih1 Q nx s hr.1 (h.1 e) X φ a w R) (fun e => ih2 Q nx s hr.2 (h.2 e) X φ a w R)
    · exact h.elim
  | block id c ih =>
    intro Q nx s hr h X φ a w R
    refine wp_block (Code.wp_mono ?_ (ih _ nx s hr h X φ a w R))
    rintro e a' w' ⟨nx', s', φ', q, r, st⟩
    cases e with
    | exit j =>
      simp only [blockQ] at q
      simp only [Exit.inBlock]
      split at q
      · rename_i hj _; rw [if_pos hj]; exact ⟨nx', s', φ', q, r, st⟩
      · rename_i hj _; rw [if_neg hj]; exact ⟨nx', s', φ', q, r, st⟩
    | _ => exact ⟨nx', s', φ', q, r, st⟩
  | scope c ih =>
    intro Q nx s hr h X φ a w R
    refine wp_scope_straight (Code.wp_mono ?_ (ih _ nx s hr h X φ a w R))
    rintro e a' w' ⟨nx', s', φ', q, r, st⟩
    cases e with
    | goto l => exact q.elim
    | _ => exact ⟨nx', s', φ', q, r, st⟩
  | _ => intro Q nx s _ h; exact h
end
end Go.Proofs.Ytlgimmafejbmgaa.AM
