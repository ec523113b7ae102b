/- The abstract machine: loops; what a function answers. -/
import Derived.Test.YtlgimmafejbmgaaAm13
namespace Go.Proofs.Ytlgimmafejbmgaa.AM
set_option linter.all false
set_option autoImplicit true
set_option relaxedAutoImplicit true
open Go

def objOnly (L : List Nat) : AObj → Bool
  | .live cs => onlyL (fun r => L.contains r) cs
  | .ro cs => onlyL (fun r => L.contains r) cs
  | _ => true

/-- What is kept of a state: slots that point to nothing but objects of L, and these. -/
structure Kept (L : List Nat) (s s' : St) : Prop where
  n : s'.n = s.n
  t : ∀ i, s'.t i = .junk ∨ (s'.t i = s.t i ∧ (s'.t i).only (fun r => L.contains r) = true)
  m : ∀ r, (L.contains r = true ∧ s'.m r = s.m r ∧ objOnly L (s.m r) = true) ∨ (L.contains r = false ∧ s'.m r = .unused)

section
variable {W : Nat → Prop} {X : Nat → Prop} {φ φ0 : Nat → Option (Option Nat)} {m m0 : Nat → AObj} {s s1 s2 s' F : St} {a : Act} {w w' w0 : World} {P : Program} {T : Nat → Option TyD} {E : Env} {o x y : Oper} {ops : Array Oper}
  {Q Q' : Exit → Nat → St → Prop} {nx : Nat} {L : List Nat}

theorem kept_rel (R : Rel X φ s a w) (K : Kept L s s') (hst : Stp X φ0 m0 w0 φ s.m w) (hL : ∀ r, m0 r ≠ .unused → L.contains r = true) (hφ : ∀ r, m0 r = .unused → φ0 r = none) :
    ∃ φ', Rel X φ' s' a w ∧ Stp X φ0 m0 w0 φ' s'.m w := by
  let φ' : Nat → Option (Option Nat) := fun r => if L.contains r then φ r else none
  have hφ' : ∀ r, L.contains r = true → φ' r = φ r := fun r h => by simp only [φ', h, if_true]
  have hsub : ∀ r b, φ' r = some (some b) → φ r = some (some b) := fun r b h => by
    simp only [φ'] at h; split at h
    · exact h
    · simp at h
  have E : Ext (Wr X φ s.m) φ' w (Wr X φ' s'.m) φ' w := by
    refine ⟨fun _ _ h => .inl h, fun _ _ _ => rfl, fun b _ hW => ?_, fun _ _ c e fr _ _ h => ⟨c, e, fr, h, Nat.le_refl _⟩⟩
    rcases hW with h | ⟨r, cs, h, h'⟩
    · exact .inl h
    · rcases K.m r with ⟨_, h2, _⟩ | ⟨_, h2⟩
      · exact .inr ⟨r, cs, hsub r b h, by rw [← h2]; exact h'⟩
      · rw [h2] at h'; simp at h'
  have hobj : ∀ r, ObjOk (Wr X φ' s'.m) φ' w (φ' r) (s'.m r) := by
    intro r
    rcases K.m r with ⟨h1, h2, h3⟩ | ⟨h1, h2⟩
    · rw [h2, hφ' r h1]
      have ho := R.mem.obj r
      cases hm : s.m r with
      | unused => rw [hm] at ho; exact ho
      | gone => rw [hm] at ho; exact ho
      | live cs =>
        rw [hm] at ho h3
        obtain ⟨b, k1, c, e, k2, k3, k4, k5⟩ := ho
        exact ⟨b, k1, c, e, k2, k3, (k4.only (k := fun r => L.contains r) hφ' h3).mono E, k5⟩
      | ro cs =>
        rw [hm] at ho h3
        obtain ⟨b, k1, c, e, k2, k3, k4, k5⟩ := ho
        exact ⟨b, k1, c, e, k2, k3, (k4.only (k := fun r => L.contains r) hφ' h3).mono E, k5⟩
    · rw [h2]
      have h1' : r ∉ L := by simpa using h1
      simp [φ', h1', ObjOk]
  refine ⟨φ', ⟨fun i hi => ?_, R.df, by rw [R.n, K.n], ⟨hobj, fun r r' b h1 h2 => R.mem.inj r r' b (hsub _ _ h1) (hsub _ _ h2), fun r b h => R.mem.ext r b (hsub _ _ h), R.mem.xlt⟩⟩, ⟨⟨fun r x hx => ?_, hst.ext.old, fun b hb hW => ?_, fun r b c e fr h1 h2 h3 => hst.ext.size r b c e fr h1 (hsub _ _ h2) h3⟩, ⟨hst.fr.os, hst.fr.tape, hst.fr.output, hst.fr.size, hst.fr.keep, fun r b h => hst.fr.new r b (hsub _ _ h)⟩⟩⟩
  · rcases K.t i with h | ⟨h1, h2⟩
    · exact absurd h hi
    · obtain ⟨v, h3, h4⟩ := R.tm i (by rw [← h1]; exact hi)
      refine ⟨v, h3, ?_⟩
      rw [h1]; rw [h1] at h2
      exact (h4.only (k := fun r => L.contains r) hφ' (by simp only [onlyL, h2]; rfl)).mono E
  · have hu : m0 r ≠ .unused := fun h => by rw [hφ r h] at hx; simp at hx
    rw [hφ' r (hL r hu)]
    exact hst.ext.phi r x hx
  · refine hst.ext.wr b hb ?_
    rcases hW with h | ⟨r, cs, h, h'⟩
    · exact .inl h
    · rcases K.m r with ⟨_, h2, _⟩ | ⟨_, h2⟩
      · exact .inr ⟨r, cs, hsub r b h, by rw [← h2]; exact h'⟩
      · rw [h2] at h'; simp at h'

theorem least {p : Nat → Prop} (h : ∃ k, p k) : ∃ k, p k ∧ ∀ j, p j → k ≤ j := by
  obtain ⟨k, hk⟩ := h
  induction k using Nat.strongRecOn with
  | _ k ih =>
    by_cases hj : ∃ j, j < k ∧ p j
    · obtain ⟨j, h1, h2⟩ := hj
      exact ih j h1 h2
    · exact ⟨k, hk, fun j hp => Nat.le_of_not_lt fun h => hj ⟨j, h, hp⟩⟩

open Classical in
noncomputable def leastOf (p : Nat → Prop) : Nat := if h : ∃ k, p k then Classical.choose (least h) else 0

theorem leastOf_spec {p : Nat → Prop} (h : ∃ k, p k) : p (leastOf p) ∧ ∀ j, p j → leastOf p ≤ j := by
  unfold leastOf
  rw [dif_pos h]
  exact Classical.choose_spec (least h)

def loopQ (L : List Nat) (I : St → Prop) (μ : St → Nat) (n : Nat) (Q : Exit → Nat → St → Prop) : Exit → Nat → St → Prop
  | .normal, _, s => ∃ s', Kept L s s' ∧ I s' ∧ μ s' < n
  | e, nx, s => Q e nx s

/-- A loop: what holds at each round's head, and what every round lowers. -/
theorem Tri_loop {c : Code} (L : List Nat) (I : St → Prop) (μ : St → Nat) (hL : ∀ r, s.m r ≠ .unused → L.contains r = true) (h0 : ∃ s0, Kept L s s0 ∧ I s0) (hr : ∀ s, I s → Tri P c (loopQ L I μ (μ s) Q) s) : Tri P (.loop c) Q s := by
  intro X φ a w R
  have hφ : ∀ r, s.m r = .unused → φ r = none := fun r h => R.mem.unused h
  let p : Act → World → Nat → Prop := fun a' w' k => ∃ s1 φ1, I s1 ∧ μ s1 = k ∧ Rel X φ1 s1 a' w' ∧ Stp X φ s.m w φ1 s1.m w'
  obtain ⟨s0, k1, k2⟩ := h0
  obtain ⟨φ0, r0, st0⟩ := kept_rel R k1 (.refl _ _ _ _) hL hφ
  refine wp_loop (fun a' w' => ∃ k, p a' w' k) (fun a' w' => leastOf (p a' w')) ⟨_, s0, φ0, k2, rfl, r0, st0⟩ fun a' w' hI => ?_
  obtain ⟨⟨s1, φ1, i1, hk, r1, st1⟩, _⟩ := leastOf_spec hI
  refine Code.wp_mono ?_ (hr s1 i1 X φ1 a' w' r1)
  rintro e a2 w2 ⟨nx, s2, φ2, q, r2, st2⟩
  cases e with
  | normal =>
    obtain ⟨s3, k3, i3, hlt⟩ := q
    obtain ⟨φ3, r3, st3⟩ := kept_rel r2 k3 (st1.trans st2) hL hφ
    have hp : p a2 w2 (μ s3) := ⟨s3, φ3, i3, rfl, r3, st3⟩
    refine ⟨⟨_, hp⟩, ?_⟩
    have := (leastOf_spec ⟨_, hp⟩).2 _ hp
    omega
  | _ => exact ⟨nx, s2, φ2, q, r2, st1.trans st2⟩

/-- What is not needed any more is forgotten. -/
theorem Tri_kept {c : Code} (L : List Nat) (hL : ∀ r, s.m r ≠ .unused → L.contains r = true) (K : Kept L s s') (h : Tri P c Q s') : Tri P c Q s := by
  intro X φ a w R
  obtain ⟨φ0, r0, st0⟩ := kept_rel R K (.refl _ _ _ _) hL (fun r h => R.mem.unused h)
  refine Code.wp_mono ?_ (h X φ0 a w r0)
  rintro e a2 w2 ⟨nx, s2, φ2, q, r2, st2⟩
  exact ⟨nx, s2, φ2, q, r2, st0.trans st2⟩

/-! What a function answers. -/
section
variable (T : Nat → Option TyD)
def resV (s : St) : ResultVar → Option (Prop × AV)
  | .tmp t => some (True, s.t t)
  | .cell a t => (T t).bind fun d => (peek s.m (s.t a)).map fun (cs, off) => rd d cs off

def resVs (s : St) : List ResultVar → Option (Prop × List AV)
  | [] => some (True, [])
  | r :: rs => (resV T s r).bind fun (p, v) => (resVs s rs).map fun (q, vs) => (p ∧ q, v :: vs)
end

def pack : List AV → AV
  | [v] => v
  | vs => .tup vs

def retQ (T : Nat → Option TyD) (fn : Func) (K : Nat → St → AV → Prop) (e : Exit) (nx : Nat) (s : St) : Prop :=
  match e with
  | .normal | .ret => match resVs T s fn.results.toList with
    | some (p, vs) => p ∧ K nx s (pack vs)
    | none => False
  | _ => False

theorem resV_sound (HT : TyOk P T) (R : Rel X φ s a w) {r p v} (h : resV T s r = some (p, v)) (hp : p) :
    ∃ u, ((match r with | .tmp t => pure (a.tmps.getD t undef) | .cell b t => do loadVar t (← asAddr (a.tmps.getD b undef))) : Sem Value).run P w = .ok u w ∧ RL (Wr X φ s.m) φ w [u] [v] := by
  cases r with
  | tmp t =>
    simp only [resV, Option.some.injEq, Prod.mk.injEq] at h
    obtain ⟨_, rfl⟩ := h
    exact ⟨_, rfl, R.ev (.tmp t)⟩
  | cell b t =>
    simp only [resV, Option.bind_eq_some_iff, Option.map_eq_some_iff, Prod.exists] at h
    obtain ⟨d, hT, cs, off, hq, h⟩ := h
    obtain ⟨u, i, z, ht⟩ := HT _ _ hT
    obtain ⟨b', o', us, hv, h1, h2⟩ := R.mem.peek hq (R.ev (.tmp b))
    have hr : (rd d cs off).1 := by rw [h]; exact hp
    obtain ⟨y, h3, h4⟩ := run_loadVar' off ht h1 h2 hr
    refine ⟨y, ?_, by rw [h] at h4; exact h4⟩
    have hv' : a.tmps.getD b undef = .pointer (some ⟨b', o' + off, none⟩) := hv
    simp only [hv', asAddr, Sem.run_bind, Sem.run_pure, Result.andThen_ok, h3]

theorem resVs_sound (HT : TyOk P T) (R : Rel X φ s a w) : ∀ (rs : List ResultVar) {p vs}, resVs T s rs = some (p, vs) → p →
    ∃ us, (rs.mapM (fun r => (match r with | .tmp t => pure (a.tmps.getD t undef) | .cell b t => do loadVar t (← asAddr (a.tmps.getD b undef)) : Sem Value))).run P w = .ok us w ∧ RL (Wr X φ s.m) φ w us vs
  | [], p, vs, h, hp => by
    simp only [resVs, Option.some.injEq, Prod.mk.injEq] at h
    obtain ⟨_, rfl⟩ := h
    exact ⟨[], by simp, .nil⟩
  | r :: rs, p, vs, h, hp => by
    simp only [resVs, Option.bind_eq_some_iff, Option.map_eq_some_iff, Prod.exists, Prod.mk.injEq] at h
    obtain ⟨q1, v, h1, q2, vs', h2, rfl, rfl⟩ := h
    obtain ⟨u, k1, k2⟩ := resV_sound HT R h1 hp.1
    obtain ⟨us, k3, k4⟩ := resVs_sound HT R rs h2 hp.2
    refine ⟨u :: us, ?_, k2.cons k4⟩
    rw [List.mapM_cons, Sem.run_bind, k1, Result.andThen_ok, Sem.run_bind, k3, Result.andThen_ok]
    rfl

theorem results_sound (HT : TyOk P T) (R : Rel X φ s a w) {fn : Func} {p vs} (h : resVs T s fn.results.toList = some (p, vs)) (hp : p) :
    ∃ u, (results fn a.tmps).run P w = .ok u w ∧ RL (Wr X φ s.m) φ w [u] [pack vs] := by
  obtain ⟨us, h1, h2⟩ := resVs_sound HT R _ h hp
  have hl := h2.length
  refine ⟨if h : us.toArray.size = 1 then us.toArray[0] else .tuple us.toArray, ?_, ?_⟩
  · unfold results
    rw [Array.mapM_eq_mapM_toList, Sem.run_bind, Sem.run_map]
    refine (congrArg (fun z : Result (List Value) => (z.andThen fun a w' => Result.ok a.toArray w').andThen fun a w' => Sem.run P (pure (if h : a.size = 1 then a[0] else Value.tuple a)) w') h1).trans ?_
    rfl
  · match us, vs, hl with
    | [], [], _ => exact .tup h2 .nil
    | [u], [v], _ => exact h2
    | u :: u' :: us, v :: v' :: vs, _ => exact .tup h2 .nil

/-! What is handed back is the call's own no more. -/
def fzV (m : Nat → AObj) : Nat → AV → AV
  | 0, v => v
  | k + 1, v => match v with
    | .sl r off n sz => match objCells (m r) with
      | some cs => .imm n (((cs.drop off).take (n * sz)).map (fzV m k))
      | none => .junk
    | .agg cs => .agg (cs.map (fzV m k))
    | .tup cs => .tup (cs.map (fzV m k))
    | v => v

def fzC (m : Nat → AObj) : Nat → AV → Prop
  | 0, _ => True
  | k + 1, v => match v with
    | .sl r off n sz => match objCells (m r) with
      | some cs => Cut cs off (n * sz) ∧ ∀ c ∈ (cs.drop off).take (n * sz), fzC m k c
      | none => False
    | .agg cs => ∀ c ∈ cs, fzC m k c
    | .tup cs => ∀ c ∈ cs, fzC m k c
    | _ => True

theorem fzV_pad (k : Nat) : fzV m k .pad = .pad := by cases k <;> rfl

theorem RL.fz (R : RelM X φ m w) : ∀ (k : Nat) {vs as}, RL X φ w vs as → (∀ v ∈ as, fzC m k v) → (∀ r b, φ r = some (some b) → ∀ cs, objCells (m r) = some cs → ∃ c e, w.heap[b]? = some (.cells c e (0, 0)) ∧ cs.length ≤ c.size ∧ RL X φ w (c.toList.take cs.length) cs) →
    RL X φ w vs (as.map (fzV m k))
  | 0, vs, as, h, _, _ => by
    have : as.map (fzV m 0) = as := by simp [show fzV m 0 = id from rfl]
    rw [this]; exact h
  | k + 1, vs, as, h, hc, H => by
    induction h with
    | nil => exact .nil
    | junk v _ ih => exact .junk v (ih fun v hv => hc v (List.mem_cons_of_mem _ hv))
    | bool b _ ih => exact .bool b (ih fun v hv => hc v (List.mem_cons_of_mem _ hv))
    | int k n _ ih => exact .int k n (ih fun v hv => hc v (List.mem_cons_of_mem _ hv))
    | str s _ ih => exact .str s (ih fun v hv => hc v (List.mem_cons_of_mem _ hv))
    | nilp _ ih => exact .nilp (ih fun v hv => hc v (List.mem_cons_of_mem _ hv))
    | ref a _ ih => exact .ref a (ih fun v hv => hc v (List.mem_cons_of_mem _ hv))
    | gref v a b _ ih => exact .gref v a b (ih fun v hv => hc v (List.mem_cons_of_mem _ hv))
    | fref a b c _ _ ih => exact .fref a b c (ih fun v hv => hc v (List.mem_cons_of_mem _ hv))
    | nils _ ih => exact .nils (ih fun v hv => hc v (List.mem_cons_of_mem _ hv))
    | @sl r off n sz b cap vs as a hcap c _ ih =>
      have h1 := hc (.sl r off n sz) List.mem_cons_self
      simp only [fzC] at h1
      split at h1
      · rename_i cs he
        obtain ⟨c', e, k1, k2, k3⟩ := H r b a cs he
        have hh := RL.fz R k (k3.cut h1.1) h1.2 H
        simp only [List.map_cons, fzV, he]
        refine .imm hcap (fun _ => R.ext r b a) (fun j u hj => ?_) hh (ih fun v hv => hc v (List.mem_cons_of_mem _ hv))
        rw [List.getElem?_take] at hj
        split at hj
        · rw [cell_of_row w b _ c' e _ k1]
          rw [List.getElem?_drop, List.getElem?_take] at hj
          split at hj
          · simpa using hj
          · simp at hj
        · simp at hj
      · exact h1.elim
    | gsl v a b _ ih =>
      rename_i r off n sz _ _ _
      have h1 := hc (.sl r off n sz) List.mem_cons_self
      have ho := R.obj r
      rw [b] at ho
      simp only [fzC] at h1
      split at h1
      · rename_i cs he
        cases hm : m r <;> rw [hm] at ho he <;> simp [ObjOk, objCells] at ho he
      · exact h1.elim
    | imm0 a c _ ih => exact .imm0 a c (ih fun v hv => hc v (List.mem_cons_of_mem _ hv))
    | imm z a b c _ _ ih => exact .imm z a b c (ih fun v hv => hc v (List.mem_cons_of_mem _ hv))
    | nilf _ ih => exact .nilf (ih fun v hv => hc v (List.mem_cons_of_mem _ hv))
    | fn a b _ _ _ ih => exact .fn a b (ih fun v hv => hc v (List.mem_cons_of_mem _ hv))
    | agg a _ _ ih => exact .agg (RL.fz R k a (hc _ List.mem_cons_self) H) (ih fun v hv => hc v (List.mem_cons_of_mem _ hv))
    | tup a _ _ ih => exact .tup (RL.fz R k a (hc _ List.mem_cons_self) H) (ih fun v hv => hc v (List.mem_cons_of_mem _ hv))
    | @opq x us vs as _ _ a b _ e1 e2 _ ih =>
      subst e2
      refine .opq a b (ih fun v hv => hc v (List.mem_cons_of_mem _ (List.mem_append_right _ hv))) e1 ?_
      rw [List.map_append, List.map_replicate, fzV_pad]

/-- Two ways to tell one value. -/
def Conv (r0 r : AV) : Prop := ∀ X φ w v, RL X φ w [v] [r0] → RL X φ w [v] [r]

def st0 (args : List AV) (m : Nat → AObj) (n : Nat) : St := ⟨fun i => args.getD i .junk, m, n⟩

theorem callFunc_enter {f fn c} (hf : P.funcs[f]? = some fn) (hb : fn.body = some c) (hn : (fn.name == "runtime.NumGoroutine") = false) (vs : Array Value) (w : World) : (callFunc f vs).run P w = .ok (.enter f vs) w := by
  have hn' : ¬ fn.name = "runtime.NumGoroutine" := by simpa using hn
  simp [callFunc, hf, hb, hn']

theorem start_rel {vs args} {n : Nat} (R : RelM X φ m w) (h : RL (Wr X φ m) φ w vs args) (hp : args.all AV.plain = true) (hl : args.length ≤ n) : Rel X φ (st0 args m n) { tmps := vs.toArray ++ Array.replicate (n - vs.toArray.size) undef, defers := [] } w := by
  have hlen := h.length
  refine ⟨fun i hi => ?_, rfl, ?_, R⟩
  · simp only [st0] at hi ⊢
    by_cases hlt : i < args.length
    · have hg : args[i]? = some args[i] := by simp [hlt]
      obtain ⟨v, h1, h2⟩ := h.at hg (by rw [List.all_eq_true] at hp; exact hp _ (List.getElem_mem hlt))
      refine ⟨v, ?_, by simpa [hlt] using h2⟩
      rw [Array.getElem?_append_left (by simp; omega)]
      simpa using h1
    · simp [Nat.le_of_not_lt hlt] at hi
  · simp only [st0]; simp; omega

/-- What a function answers, by the verification condition of its code. -/
def bodyOf (fn : Func) : Code := fn.body.getD .skip

theorem CSpec_of {f fn c args r} (HE : EnvOk P E) (hmix : P.follows .mixedOrders = true) (hf : P.funcs[f]? = some fn) (hb : fn.body = some c) (hn : (fn.name == "runtime.NumGoroutine") = false) (hg : groundL args = true) (hp : args.all AV.plain = true) (hl : args.length ≤ fn.ntmps) (hreg : regsOk fn.ntmps c = true)
    (h : vc (Tri P) (ICall P) E fn.ntmps c (retQ E.T fn fun _ s v => fzC s.m 4 v ∧ groundL [fzV s.m 4 v] = true ∧ Conv (fzV s.m 4 v) r) 0 (st0 args (fun _ => .unused) fn.ntmps)) : CSpec P f args r := by
  intro X φ w vs hX hr
  have R0 : RelM X (fun _ => none) (fun _ => .unused) w := ⟨fun r => rfl, fun r r' b h => by simp at h, fun r b h => by simp at h, hX⟩
  have hWX : ∀ b, Wr X (fun _ => none) (fun _ => .unused) b → X b := fun b h => by
    rcases h with h | ⟨r, cs, h, _⟩
    · exact h
    · simp at h
  have hr0 : RL (Wr X (fun _ => none) (fun _ => .unused)) (fun _ => none) w vs args :=
    (hr.ground (φ' := fun _ => none) hg).mono ⟨fun _ _ h => .inl h, fun _ _ _ => rfl, fun b _ h => hWX b h, fun _ _ c e fr h _ _ => by simp at h⟩
  have S := start_rel (n := fn.ntmps) R0 hr0 hp hl
  unfold Invk
  rw [callFunc_enter hf hb hn]
  simp only []
  refine calls_of_wp hf hb (Code.wp_mono ?_ (vc_sound HE hmix fn.ntmps c _ 0 _ hreg h X _ _ w S))
  rintro e a' w' ⟨nx, s', φ', q, R', st⟩
  have key : retQ E.T fn (fun _ s v => fzC s.m 4 v ∧ groundL [fzV s.m 4 v] = true ∧ Conv (fzV s.m 4 v) r) .ret nx s' → a'.defers = [] ∧ ∃ v, (results fn a'.tmps).run P w' = .ok v w' ∧ ∃ v', Ending.returned v = .returned v' ∧ RL X φ w' [v'] [r] ∧ RowKit.Below w.heap.size w w' := by
    intro q
    simp only [retQ] at q
    split at q
    · rename_i p vs' hv
      obtain ⟨hp', c1, c2, c3⟩ := q
      obtain ⟨u, k1, k2⟩ := results_sound HE.ty R' hv hp'
      refine ⟨R'.df, u, k1, u, rfl, c3 X φ w' u ?_, ?_⟩
      · have toX : Ext (Wr X φ' s'.m) φ' w' X φ' w' := ⟨fun _ _ h => .inl h, fun _ _ _ => rfl, fun b _ h => .inl h, fun _ _ c e fr _ _ h => ⟨c, e, fr, h, Nat.le_refl _⟩⟩
        have := RL.fz R'.mem 4 (k2.mono toX) (by simpa using c1) (fun r b hb cs hc => by
          obtain ⟨b', c, e, h1, h2, h3, h4, _, _⟩ := obj_reads R'.mem hc
          rw [hb] at h1; simp at h1; subst h1
          exact ⟨c, e, h2, h3, h4.mono toX⟩)
        simpa using this.ground c2
      · exact ⟨st.fr.os, st.fr.tape, st.fr.output, st.fr.size, fun k hk => st.fr.keep k hk (fun r => by simp)⟩
    · exact q.elim
  cases e with
  | normal => exact key q
  | ret => exact key q
  | _ => exact q.elim

/-- A call that is walked into. -/
theorem ICall_of {f fn c args K} (HE : EnvOk P E) (hmix : P.follows .mixedOrders = true) (hf : P.funcs[f]? = some fn) (hb : fn.body = some c) (hn : (fn.name == "runtime.NumGoroutine") = false) (hp : args.all AV.plain = true) (hl : args.length ≤ fn.ntmps) (hreg : regsOk fn.ntmps c = true) (nx : Nat)
    (h : vc (Tri P) (ICall P) E fn.ntmps c (retQ E.T fn fun nx s v => K nx v s.m) nx (st0 args m fn.ntmps)) : ICall P f args m K := by
  intro X φ w vs R0 hr
  have S := start_rel (n := fn.ntmps) R0 hr hp hl
  unfold Invk
  rw [callFunc_enter hf hb hn]
  simp only []
  refine calls_of_wp hf hb (Code.wp_mono ?_ (vc_sound HE hmix fn.ntmps c _ nx _ hreg h X _ _ w S))
  rintro e a' w' ⟨nx', s', φ', q, R', st⟩
  have key : retQ E.T fn (fun nx s v => K nx v s.m) .ret nx' s' → a'.defers = [] ∧ ∃ v, (results fn a'.tmps).run P w' = .ok v w' ∧ ∃ v', Ending.returned v = .returned v' ∧ ∃ nx r m' φ', K nx r m' ∧ RelM X φ' m' w' ∧ RL (Wr X φ' m') φ' w' [v'] [r] ∧ Stp X φ m w φ' m' w' := by
    intro q
    simp only [retQ] at q
    split at q
    · rename_i p vs' hv
      obtain ⟨hp', hk⟩ := q
      obtain ⟨u, k1, k2⟩ := results_sound HE.ty R' hv hp'
      exact ⟨R'.df, u, k1, u, rfl, nx', _, s'.m, φ', hk, R'.mem, k2, st⟩
    · exact q.elim
  cases e with
  | normal => exact key q
  | ret => exact key q
  | _ => exact q.elim

theorem CSpec.args {f args args' r} (h : CSpec P f args' r) (ha : ∀ X φ w vs, RL X φ w vs args → RL X φ w vs args') : CSpec P f args r :=
  fun X φ w vs hX hr => h X φ w vs hX (ha X φ w vs hr)

end
end Go.Proofs.Ytlgimmafejbmgaa.AM
