/- The abstract machine: a region whose order is drawn (3): it does what it does in the text's order. -/
import Derived.Test.YtlgimmafejbmgaaAm11
namespace Go.Proofs.Ytlgimmafejbmgaa.AM
set_option linter.all false
set_option autoImplicit true
set_option relaxedAutoImplicit true
open Go
section
variable {X : Nat → Prop} {φ : Nat → Option (Option Nat)} {m : Nat → AObj} {s s1 s2 s' F : St} {a : Act} {w w' : World} {P : Program} {T : Nat → Option TyD} {E : Env} {o x y : Oper} {ops : Array Oper}

def ARun (E : Env) (ops : Array Oper) : List Nat → List (Nat × List Nat) → St → St → Prop
  | [], _, s, F => s = F
  | i :: l, acc, s, F => ∃ o s', ops[i]? = some o ∧ lateOk acc o s = true ∧ AStepG E ops o s s' ∧ ARun E ops l ((i, reads o s) :: acc) s' F

theorem lateOk_weak {acc acc' : List (Nat × List Nat)} (h : ∀ p ∈ acc', p ∈ acc) (hl : lateOk acc o s = true) : lateOk acc' o s = true := by
  unfold lateOk at *
  split
  · rename_i t a x ho
    rw [ho] at hl
    simp only [] at hl ⊢
    split
    · rename_i r off he
      rw [he] at hl
      simp only [List.all_eq_true] at hl ⊢
      exact fun p hp => hl p (h p hp)
    · rfl
  · rfl

theorem ARun.weak : ∀ (l : List Nat) {acc acc' : List (Nat × List Nat)} {s : St}, (∀ p ∈ acc', p ∈ acc) → ARun E ops l acc s F → ARun E ops l acc' s F
  | [], _, _, _, _, h => h
  | i :: l, acc, acc', s, hs, ⟨o, s', h1, h2, h3, h4⟩ => ⟨o, s', h1, lateOk_weak hs h2, h3, ARun.weak l (fun p hp => by
      rcases List.mem_cons.1 hp with rfl | hp
      · exact List.mem_cons_self
      · exact List.mem_cons_of_mem _ (hs p hp)) h4⟩

theorem indep_spec (h : indep ops x y = true) : Oper.apart ops x y = true ∧ (kind x.op).writes = false ∧ (kind y.op).late = false := by
  simp only [indep, Bool.and_eq_true, Bool.not_eq_true'] at h
  exact ⟨h.1.1, h.1.2, h.2⟩

theorem put_ev {vx ex} (hap : Oper.apart ops x y = true) : ∀ z ∈ y.op.operands, aev { (s.put x.dst vx) with m := Eff.app s.m ex } z = aev s z := fun z hz => by
  obtain ⟨a1, a2, a3⟩ := Oper.apart_spec hap
  cases z with
  | tmp i => exact put_t _ _ _ (fun e => a1 _ e (operand_slot hz rfl))
  | _ => rfl

theorem Closed.step (hc : Closed s y) (hi : indep ops x y = true) (h : AStepG E ops x s s1) : Closed s1 y := by
  obtain ⟨hap, hx, hy⟩ := indep_spec hi
  obtain ⟨vx, ex, rfl, x2, x3, x4⟩ := nw_stepG hx h
  intro z hz r hr hu
  rw [put_ev hap z hz] at hr
  exact hc z hz r hr (app_unused hu)

theorem lateOk_of_kind (hy : (kind y.op).writes = false) (acc) : lateOk acc y s = true := by
  unfold lateOk
  split
  · rename_i t a x ho; rw [ho] at hy; simp [kind, Kd.writes] at hy
  · rfl

def bnd (y : Oper) (j : Nat) : Bool := y.after.any (fun e => Region.binds .any e && e.on == j)

theorem lateOk_tgt {acc : List (Nat × List Nat)} (h : lateOk acc y s = true) {j : Nat} {l : List Nat} (hm : (j, l) ∈ acc) (hb : bnd y j = false) {r : Nat} (ht : tgt y s = some r) : r ∉ l := by
  unfold tgt at ht
  split at ht
  · rename_i t a x ho
    split at ht
    · rename_i r' off he
      simp only [Option.some.injEq] at ht
      subst ht
      unfold lateOk at h
      rw [ho] at h
      simp only [he, List.all_eq_true] at h
      have := h _ hm
      unfold bnd at hb
      simp only [hb, Bool.or_false, Bool.not_eq_true'] at this
      simpa using this
    · simp at ht
  · simp at ht

theorem lateOk_ev {acc : List (Nat × List Nat)} {s2 : St} (h : ∀ z ∈ y.op.operands, aev s2 z = aev s z) : lateOk acc y s2 = lateOk acc y s := by
  unfold lateOk
  split
  · rename_i t a x ho
    rw [h a (by simp [ho, Op.operands])]
  · rfl

theorem reads_ev {s2 : St} (h : ∀ z ∈ o.op.operands, aev s2 z = aev s z) : reads o s2 = reads o s := by
  unfold reads
  split
  · rw [List.flatMap_def, List.flatMap_def]
    congr 1
    exact List.map_congr_left fun z hz => by rw [h z (by simpa using hz)]
  · rfl

theorem put_of (h : AStepG E ops y s s') (hl : (kind y.op).late = false) : ∃ v, s'.t = (s.put y.dst v).t := by
  cases hw : (kind y.op).writes with
  | false =>
    obtain ⟨v, e, rfl, _⟩ := nw_stepG hw h
    exact ⟨v, rfl⟩
  | true =>
    have hk := late_kind hl hw
    rcases h with ⟨_, nx, p, h1, hp⟩ | ⟨_, rfl⟩
    · obtain ⟨r, cs, rfl, _⟩ := st_step hk h1 hp
      exact ⟨_, rfl⟩
    · exact ⟨_, rfl⟩

theorem front {i : Nat} (hi : ops[i]? = some y) : ∀ (pre post : List Nat) (acc : List (Nat × List Nat)) (s : St), (∀ j ∈ pre, ∃ x, ops[j]? = some x ∧ indep ops x y = true ∧ bnd y j = false) → Closed s y → ARun E ops (pre ++ i :: post) acc s F →
    ∃ s', lateOk acc y s = true ∧ AStepG E ops y s s' ∧ ARun E ops (pre ++ post) acc s' F
  | [], post, acc, s, _, _, h => by
    obtain ⟨o, s', h1, h2, h3, h4⟩ := h
    rw [hi] at h1; simp at h1; subst h1
    exact ⟨s', h2, h3, ARun.weak _ (fun p hp => List.mem_cons_of_mem _ hp) h4⟩
  | j :: pre, post, acc, s, hp, hc, h => by
    obtain ⟨x, s1, h1, h2, h3, h4⟩ := h
    obtain ⟨x', hx', hin, hb⟩ := hp j List.mem_cons_self
    rw [h1] at hx'; simp at hx'; subst hx'
    obtain ⟨s2, k0, k1, k2⟩ := front hi pre post _ s1 (fun j hj => hp j (List.mem_cons_of_mem _ hj)) (hc.step hin h3) h4
    obtain ⟨hap, hx, hy⟩ := indep_spec hin
    have hev : ∀ z ∈ y.op.operands, aev s1 z = aev s z := by
      obtain ⟨vx, ex, rfl, _⟩ := nw_stepG hx h3
      exact put_ev hap
    have hlate : lateOk acc y s = true := by
      rw [lateOk_ev hev] at k0
      exact lateOk_weak (fun p hp => List.mem_cons_of_mem _ hp) k0
    have hsw : ∃ s', AStepG E ops y s s' ∧ AStepG E ops x s' s2 := by
      cases hw : (kind y.op).writes with
      | false => exact swap hx hw hap hc h3 k1
      | true =>
        refine swap_st hx (late_kind hy hw) hap hc h3 k1 fun hlx r ht z hz hr => ?_
        rw [lateOk_ev hev] at k0
        refine lateOk_tgt k0 List.mem_cons_self hb ht ?_
        unfold reads
        rw [if_pos hlx]
        exact List.mem_flatMap.2 ⟨z, by simpa using hz, hr⟩
    obtain ⟨s', k3, k4⟩ := hsw
    refine ⟨s', hlate, k3, x, s2, h1, lateOk_of_kind hx _, k4, ?_⟩
    have : reads x s' = reads x s := by
      obtain ⟨a1, a2, a3⟩ := Oper.apart_spec hap
      obtain ⟨v, hv⟩ := put_of k3 hy
      refine reads_ev fun z hz => ?_
      cases z with
      | tmp i => simp only [aev, hv]; exact put_t _ _ _ (fun e => a3 _ e (operand_slot hz rfl))
      | _ => rfl
    rw [this]; exact k2

theorem drawOk_spec : ∀ (l : List Oper) (k : Nat), drawOkFrom ops k l = true → (∀ i j x y, i < j → l[i]? = some x → l[j]? = some y → indep ops x y = true ∨ ∃ e ∈ y.after, Region.binds .any e = true ∧ e.on = k + i) ∧
    (∀ i x, l[i]? = some x → ∀ e ∈ x.after, Region.binds .any e = true → e.on < k + i)
  | [], k, _ => ⟨fun i j x y _ h => by simp at h, fun i x h => by simp at h⟩
  | o :: l, k, h => by
    simp only [drawOkFrom, Bool.and_eq_true, List.all_eq_true] at h
    obtain ⟨⟨h1, h2⟩, h3⟩ := h
    obtain ⟨i1, i2⟩ := drawOk_spec l (k + 1) h3
    refine ⟨fun i j x y hij hx hy => ?_, fun i x hx e he hb => ?_⟩
    · obtain ⟨j, rfl⟩ : ∃ q, j = q + 1 := ⟨j - 1, by omega⟩
      simp at hy
      cases i with
      | zero =>
        simp at hx; subst hx
        have := h1 y (List.mem_of_getElem? hy)
        simp only [Bool.or_eq_true, Array.any_eq_true', Bool.and_eq_true, beq_iff_eq] at this
        rcases this with h | ⟨e, he, hb, ho⟩
        · exact .inl h
        · exact .inr ⟨e, he, hb, by simpa using ho⟩
      | succ i =>
        simp at hx
        rcases i1 i j x y (by omega) hx hy with h | ⟨e, he, hb, ho⟩
        · exact .inl h
        · exact .inr ⟨e, he, hb, by omega⟩
    · cases i with
      | zero =>
        simp at hx; subst hx
        rw [Array.all_eq_true'] at h2
        have := h2 e he
        simp only [hb, Bool.not_true, Bool.false_or, decide_eq_true_eq] at this
        simpa using this
      | succ i =>
        simp at hx
        have := i2 i x hx e he hb
        omega

theorem wanted_of (R : Rel X φ s a w) {b} (h : wantedA ops o s = some b) : Region.wanted o (yielded ops a.tmps) = b := by
  unfold wantedA at h
  unfold Region.wanted
  split at h
  · rename_i hg; simp at h; simp [hg, h]
  · rename_i j want hg
    rw [hg]
    simp only [Option.bind_eq_some_iff, Option.map_eq_some_iff] at h
    obtain ⟨v0, ⟨d, hd, ht⟩, hv0⟩ := h
    have hj : v0 ≠ .junk := by intro e; subst e; simp [wantV] at hv0
    obtain ⟨v, hv, hr⟩ := R.tm d (by rw [ht]; exact hj)
    rw [ht] at hr
    unfold wantV at hv0
    split at hv0
    · rename_i b'
      simp only [Option.some.injEq] at hv0
      have : yielded ops a.tmps j = some b' := by
        unfold yielded
        obtain ⟨o', ho', hd'⟩ := hd
        rw [ho']
        simp only [Option.bind_some, hd', hv, hr.bool_inv]
      simp only [this]
      rw [← hv0]
      cases b' <;> cases want <;> rfl
    · rename_i ds
      simp only [Option.some.injEq] at hv0
      obtain ⟨cs, rfl, _⟩ := hr.tup_inv
      have : yielded ops a.tmps j = none := by
        unfold yielded
        obtain ⟨o', ho', hd'⟩ := hd
        rw [ho']
        simp only [Option.bind_some, hd', hv]
      simp only [this]
      rw [← hv0]; rfl
    · simp at hv0

theorem stepG_sound (HE : EnvOk P E) {i : Nat} (hi : ops[i]? = some o) (R : Rel X φ s a w) (h : AStepG E ops o s s') (hd : dstOk s.n o = true) {K : Act → World → Prop} {Q : Exit → Act → World → Prop}
    (hK : ∀ a' w' φ', Rel X φ' s' a' w' → Stp X φ s.m w φ' s'.m w' → K a' w') : wpOp P ops Q i K a w := by
  unfold wpOp
  rw [hi]
  simp only []
  rcases h with ⟨hw, nx, p, h1, hp⟩ | ⟨hw, rfl⟩
  · rw [wanted_of R hw, if_pos rfl]
    exact .inl (aStep_sound HE R h1 hp hd hK)
  · rw [wanted_of R hw, if_neg (by simp)]
    have hd' : ∀ d, o.dst = some d → d < s.n := fun d e => by simpa [dstOk, e] using hd
    exact hK _ _ φ (R.put (.refl _ _ _ _) R.mem (.tup .nil .nil) hd') (.refl _ _ _ _)

def unl (ops : Array Oper) (listed : Array Bool) : List Nat := (List.range ops.size).filter fun i => !listed.getD i true

theorem step_n {s' : St} (h : AStepG E ops o s s') : s'.n = s.n := by
  rcases h with ⟨_, nx, p, h1, _⟩ | ⟨_, rfl⟩
  · unfold aStep at h1
    split at h1
    · simp only [Option.map_eq_some_iff, Prod.exists, Prod.mk.injEq] at h1; obtain ⟨_, _, _, _, rfl⟩ := h1; rfl
    · simp only [Option.map_eq_some_iff, Prod.exists, Prod.mk.injEq] at h1; obtain ⟨_, _, _, _, _, rfl⟩ := h1; rfl
    · simp only [Option.map_eq_some_iff, Prod.exists, Prod.mk.injEq] at h1; obtain ⟨_, _, _, _, _, rfl⟩ := h1; rfl
    · unfold aap at h1
      split at h1 <;> try (simp at h1; done)
      split at h1 <;> try (simp at h1; done)
      simp only [Option.bind_eq_some_iff] at h1
      obtain ⟨d, _, h1⟩ := h1
      split at h1 <;> try (simp at h1; done)
      simp only [Option.bind_eq_some_iff] at h1
      obtain ⟨ed, _, d', _, h1⟩ := h1
      split at h1
      · split at h1 <;> try (simp at h1; done)
        simp only [Option.some.injEq, Prod.mk.injEq] at h1; obtain ⟨_, rfl⟩ := h1; rfl
      · simp only [Option.bind_eq_some_iff, Option.map_eq_some_iff, Prod.exists, Prod.mk.injEq] at h1
        obtain ⟨_, _, _, _, _, _, _, _, _, _, rfl⟩ := h1; rfl
    · unfold acp at h1
      split at h1 <;> try (simp at h1; done)
      split at h1 <;> try (simp at h1; done)
      simp only [Option.bind_eq_some_iff] at h1
      obtain ⟨d, _, h1⟩ := h1
      split at h1 <;> try (simp at h1; done)
      simp only [Option.bind_eq_some_iff] at h1
      obtain ⟨ed, _, d', _, h1⟩ := h1
      split at h1 <;> try (simp at h1; done)
      split at h1 <;> try (simp at h1; done)
      simp only [Option.map_eq_some_iff, Prod.exists, Prod.mk.injEq] at h1
      obtain ⟨_, _, _, _, _, rfl⟩ := h1; rfl
    · simp only [Option.bind_eq_some_iff, Option.map_eq_some_iff, Prod.exists, Prod.mk.injEq] at h1; obtain ⟨_, _, _, _, _, _, _, rfl⟩ := h1; rfl
  · rfl

theorem wpAny_of (HE : EnvOk P E) {Q : Exit → Act → World → Prop} (hok : drawOk ops = true) : ∀ (fuel : Nat) (listed : Array Bool) (s : St) (φ : Nat → Option (Option Nat)) (a : Act) (w : World), listed.size = ops.size → (unl ops listed).length = fuel →
    ARun E ops (unl ops listed) [] s F → Rel X φ s a w → (∀ o ∈ ops, dstOk s.n o = true) → (∀ a' w' φ', Rel X φ' F a' w' → Stp X φ s.m w φ' F.m w' → Q .normal a' w') → wpAny P .any ops Q fuel listed a w := by
  obtain ⟨ok1, ok2⟩ := drawOk_spec ops.toList 0 hok
  intro fuel
  induction fuel with
  | zero =>
    intro listed s φ a w hs hl hr R hd hQ
    have hnil : unl ops listed = [] := List.length_eq_zero_iff.1 hl
    rw [hnil] at hr
    have e : s = F := hr
    subst e
    refine ⟨?_, hQ a w φ R (.refl _ _ _ _)⟩
    unfold Region.ready
    unfold unl at hnil
    rw [List.filter_eq_nil_iff] at hnil ⊢
    intro i hi
    have := hnil i hi
    simp at this ⊢
    intro h; rw [this] at h; simp at h
  | succ fuel ih =>
    intro listed s φ a w hs hl hr R hd hQ
    have hget : ∀ i, i < ops.size → listed.getD i true = listed.getD i false := fun i hi => by
      simp [Array.getD, hs, hi]
    have hmem : ∀ i, i ∈ unl ops listed ↔ i < ops.size ∧ listed.getD i false = false := fun i => by
      unfold unl
      rw [List.mem_filter, List.mem_range]
      constructor
      · rintro ⟨h1, h2⟩; refine ⟨h1, ?_⟩; rw [← hget i h1]; simpa using h2
      · rintro ⟨h1, h2⟩; refine ⟨h1, ?_⟩; rw [hget i h1, h2]; rfl
    have hsort : (unl ops listed).Pairwise (· < ·) := List.Pairwise.filter _ List.pairwise_lt_range
    have hready : ∀ i ∈ Region.ready .any ops listed, i ∈ unl ops listed ∧ ∃ o, ops[i]? = some o ∧ ∀ e ∈ o.after, Region.binds .any e = true → listed.getD e.on false = true := by
      intro i hi
      unfold Region.ready at hi
      rw [List.mem_filter] at hi
      simp only [Bool.and_eq_true] at hi
      obtain ⟨h1, h2, h3⟩ := hi
      refine ⟨by unfold unl; rw [List.mem_filter]; exact ⟨h1, h2⟩, ?_⟩
      cases ho : ops[i]? with
      | none => simp [ho] at h3
      | some o =>
        refine ⟨o, rfl, fun e he hb => ?_⟩
        simp only [ho, Option.map_some, Option.getD_some] at h3
        rw [Array.all_eq_true'] at h3
        have := h3 e he
        rw [hb] at this; simpa using this
    refine ⟨fun hnil => ?_, fun i hi => ?_⟩
    · exfalso
      cases hu : unl ops listed with
      | nil => rw [hu] at hl; simp at hl
      | cons i0 rest =>
        have hi0 : i0 ∈ unl ops listed := by rw [hu]; exact List.mem_cons_self
        obtain ⟨hlt, hun⟩ := (hmem i0).1 hi0
        have ho : ops.toList[i0]? = some ops[i0] := by simp [hlt]
        have : i0 ∈ Region.ready .any ops listed := by
          unfold Region.ready
          rw [List.mem_filter]
          refine ⟨List.mem_range.2 hlt, ?_⟩
          simp only [Bool.and_eq_true]
          refine ⟨by rw [hget i0 hlt, hun]; rfl, ?_⟩
          have h0 : ops[i0]? = some ops[i0] := by simp [hlt]
          simp only [h0, Option.map_some, Option.getD_some]
          rw [Array.all_eq_true']
          intro e he
          cases hb : Region.binds .any e with
          | false => rfl
          | true =>
            have hlt' : e.on < i0 := by simpa using ok2 i0 _ ho e he hb
            simp only [Bool.not_true, Bool.false_or]
            cases hg : listed.getD e.on false with
            | true => rfl
            | false =>
              have hm' : e.on ∈ unl ops listed := (hmem _).2 ⟨by omega, hg⟩
              rw [hu] at hm' hsort
              rcases List.mem_cons.1 hm' with h | h
              · omega
              · have := (List.pairwise_cons.1 hsort).1 _ h; omega
        rw [hnil] at this; simp at this
    · obtain ⟨hiu, o, ho, hedge⟩ := hready i hi
      obtain ⟨pre, post, hsplit⟩ := List.append_of_mem hiu
      have hlt : i < ops.size := ((hmem i).1 hiu).1
      have hpre : ∀ j ∈ pre, j < i := fun j hj => by
        rw [hsplit, List.pairwise_append] at hsort
        exact hsort.2.2 j hj i List.mem_cons_self
      have hpost : ∀ j ∈ post, i < j := fun j hj => by
        rw [hsplit, List.pairwise_append] at hsort
        exact (List.pairwise_cons.1 hsort.2.1).1 j hj
      have hin : ∀ j ∈ pre, ∃ x, ops[j]? = some x ∧ indep ops x o = true ∧ bnd o j = false := fun j hj => by
        have hjlt := hpre j hj
        have hj' : ops[j]? = some ops[j] := by simp
        have hun : ∀ e ∈ o.after, Region.binds .any e = true → e.on ≠ j := fun e he hb hon => by
          have h1 := hedge e he hb
          rw [hon] at h1
          have hju : j ∈ unl ops listed := by rw [hsplit]; exact List.mem_append_left _ hj
          rw [((hmem j).1 hju).2] at h1; simp at h1
        refine ⟨_, hj', ?_, ?_⟩
        · rcases ok1 j i ops[j] o hjlt (by simp) (by simpa using ho) with h | ⟨e, he, hb, hon⟩
          · exact h
          · exact absurd (by simpa using hon) (hun e he hb)
        · unfold bnd
          rw [Bool.eq_false_iff]
          intro ht
          simp only [Array.any_eq_true', Bool.and_eq_true, beq_iff_eq] at ht
          obtain ⟨e, he, hb, hon⟩ := ht
          exact hun e he hb hon
      rw [hsplit] at hr
      have hcl : Closed s o := fun z _ r hr => R.used z r hr
      obtain ⟨s', _, h1, h2⟩ := front ho pre post [] s hin hcl hr
      have hunl : unl ops (listed.setIfInBounds i true) = pre ++ post := by
        have e1 : unl ops (listed.setIfInBounds i true) = (unl ops listed).filter (fun j => j ≠ i) := by
          unfold unl
          rw [List.filter_filter]
          refine List.filter_congr fun j hj => ?_
          have hj' := List.mem_range.1 hj
          by_cases e : j = i
          · subst e; simp [hs, hj']
          · simp [Array.getD_eq_getD_getElem?, Ne.symm e, e]
        rw [e1, hsplit, List.filter_append, List.filter_cons]
        simp only [ne_eq, not_true_eq_false, decide_false, Bool.false_eq_true, if_false]
        congr 1
        · exact List.filter_eq_self.2 fun j hj => by have := hpre j hj; simp; omega
        · exact List.filter_eq_self.2 fun j hj => by have := hpost j hj; simp; omega
      refine stepG_sound HE ho R h1 (hd o (by simpa using Array.mem_of_getElem? ho)) (fun a' w' φ' R' hst => ?_)
      refine ih _ s' φ' a' w' (by simpa using hs) ?_ (by rw [hunl]; exact h2) R' (by rw [step_n h1]; exact hd) (fun a2 w2 φ2 R2 hst2 => hQ a2 w2 φ2 R2 (hst.trans hst2))
      rw [hunl]
      rw [hsplit] at hl
      simp at hl ⊢
      omega

theorem region_draw (HE : EnvOk P E) (hmix : P.follows .mixedOrders = true) {id : Nat} {Q : Exit → Act → World → Prop} (hok : drawOk ops = true) (hd : ∀ o ∈ ops, dstOk s.n o = true)
    (hr : ARun E ops (List.range ops.size) [] s F) (R : Rel X φ s a w) (hQ : ∀ a' w' φ', Rel X φ' F a' w' → Stp X φ s.m w φ' F.m w' → Q .normal a' w') : (Code.region id ops true).wp P Q a w := by
  refine wp_region_any hmix ?_
  have hu : unl ops (Array.replicate ops.size false) = List.range ops.size := by
    unfold unl
    refine List.filter_eq_self.2 fun i hi => ?_
    have := List.mem_range.1 hi
    simp [Array.getD, this]
  have R' : Rel X φ s a { w with drawn := w.drawn + 1 } := by
    have E0 : Ext (Wr X φ s.m) φ w (Wr X φ s.m) φ { w with drawn := w.drawn + 1 } := ⟨fun _ _ h => .inl h, fun _ _ _ => rfl, fun _ _ h => h, fun _ _ c e fr _ _ h => ⟨c, e, fr, h, Nat.le_refl _⟩⟩
    exact ⟨fun i hi => by obtain ⟨v, h1, h2⟩ := R.tm i hi; exact ⟨v, h1, h2.mono E0⟩, R.df, R.n, ⟨fun r => (R.mem.obj r).mono E0 (fun _ _ => rfl), R.mem.inj, R.mem.ext, R.mem.xlt⟩⟩
  refine wpAny_of HE hok ops.size _ s φ a _ (by simp) (by rw [hu]; simp) (by rw [hu]; exact hr) R' hd (fun a' w' φ' R2 hst => hQ a' w' φ' R2 ?_)
  exact ⟨⟨hst.ext.phi, hst.ext.old, hst.ext.wr, hst.ext.size⟩, ⟨hst.fr.os, hst.fr.tape, hst.fr.output, hst.fr.size, hst.fr.keep, hst.fr.new⟩⟩
end
end Go.Proofs.Ytlgimmafejbmgaa.AM
