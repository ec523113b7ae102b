/- The abstract machine: calls by what the callee answers; every operation. -/
import Derived.Test.YtlgimmafejbmgaaAm8
namespace Go.Proofs.Ytlgimmafejbmgaa.AM
set_option linter.all false
set_option autoImplicit true
set_option relaxedAutoImplicit true
open Go
section
variable {W : Nat → Prop} {X : Nat → Prop} {φ : Nat → Option (Option Nat)} {m : Nat → AObj} {s : St} {a : Act} {w w' : World} {P : Program} {T : Nat → Option TyD} {E : Env} {o : Oper}

theorem snapM_at : ∀ (l : List AV) (m : Nat → AObj) (r : Nat), snapM m l r = m r ∨ ∃ cs, m r = .live cs ∧ snapM m l r = .ro cs
  | [], m, r => .inl rfl
  | x :: l, m, r => by
    cases x
    case sl q off n sz =>
      simp only [snapM]
      have ih := snapM_at l (upd m q (m q).freeze) r
      by_cases e : r = q
      · subst e
        rw [upd_same] at ih
        cases hq : m r <;> rw [hq] at ih <;> simp only [AObj.freeze] at ih
        case live cs =>
          rcases ih with h | ⟨cs', h1, h2⟩
          · exact .inr ⟨cs, rfl, h⟩
          · simp at h1
        all_goals
          rcases ih with h | ⟨cs', h1, h2⟩
          · exact .inl h
          · simp at h1
      · have : upd m q (m q).freeze r = m r := by simp [upd, e]
        rw [this] at ih; exact ih
    all_goals exact snapM_at l m r

theorem snapM_ro : ∀ (l : List AV) (m : Nat → AObj) (r off n sz : Nat), AV.sl r off n sz ∈ l → ∀ cs, snapM m l r ≠ .live cs
  | x :: l, m, r, off, n, sz, h, cs => by
    rcases List.mem_cons.1 h with hm | hm
    · subst hm
      simp only [snapM]
      rcases snapM_at l (upd m r (m r).freeze) r with h | ⟨cs'', h1, h2⟩
      · rw [h, upd_same]; cases m r <;> simp [AObj.freeze]
      · rw [h2]; simp
    · cases x
      case sl q off' n' sz' => simp only [snapM]; exact snapM_ro l _ r off n sz hm cs
      all_goals simp only [snapM]; exact snapM_ro l m r off n sz hm cs

theorem snapM_cells (l : List AV) (m : Nat → AObj) (r : Nat) : objCells (snapM m l r) = objCells (m r) := by
  rcases snapM_at l m r with h | ⟨cs, h1, h2⟩
  · rw [h]
  · rw [h2, h1]; rfl

/-- Objects are not written any more. -/
theorem freeze_rel (R : RelM X φ m w) (l : List AV) : RelM X φ (snapM m l) w ∧ Stp X φ m w φ (snapM m l) w := by
  have E : Ext (Wr X φ m) φ w (Wr X φ (snapM m l)) φ w := by
    refine ⟨fun _ _ h => .inl h, fun _ _ _ => rfl, fun b _ hW => ?_, fun _ _ c e fr _ _ h => ⟨c, e, fr, h, Nat.le_refl _⟩⟩
    rcases hW with h | ⟨r, cs, h, h'⟩
    · exact .inl h
    · rcases snapM_at l m r with h1 | ⟨cs', h1, h2⟩
      · rw [h1] at h'; exact .inr ⟨r, cs, h, h'⟩
      · exact .inr ⟨r, cs', h, h1⟩
  refine ⟨⟨fun r => ?_, R.inj, R.ext, R.xlt⟩, E, .refl _ _⟩
  have ho := (R.obj r).mono E (fun _ _ => rfl)
  rcases snapM_at l m r with h1 | ⟨cs', h1, h2⟩
  · rw [h1]; exact ho
  · rw [h2]; rw [h1] at ho; exact ho

theorem RL.snap1L {vs as} (h : RL W φ w vs as) (H : ∀ r off n sz, AV.sl r off n sz ∈ as → ∃ cs b c e, φ r = some (some b) ∧ objCells (m r) = some cs ∧ Cut cs off (n * sz) ∧ w.heap[b]? = some (.cells c e (0, 0)) ∧ cs.length ≤ c.size ∧ RL W φ w (c.toList.take cs.length) cs ∧ ¬ W b) :
    RL W φ w vs (as.map (snap1 m)) := by
  induction h with
  | nil => exact .nil
  | junk v _ ih => exact .junk v (ih fun r o n z h => H r o n z (List.mem_cons_of_mem _ h))
  | bool b _ ih => exact .bool b (ih fun r o n z h => H r o n z (List.mem_cons_of_mem _ h))
  | int k n _ ih => exact .int k n (ih fun r o n z h => H r o n z (List.mem_cons_of_mem _ h))
  | str s _ ih => exact .str s (ih fun r o n z h => H r o n z (List.mem_cons_of_mem _ h))
  | nilp _ ih => exact .nilp (ih fun r o n z h => H r o n z (List.mem_cons_of_mem _ h))
  | ref a _ ih => exact .ref a (ih fun r o n z h => H r o n z (List.mem_cons_of_mem _ h))
  | gref v a b _ ih => exact .gref v a b (ih fun r o n z h => H r o n z (List.mem_cons_of_mem _ h))
  | fref a b c _ _ ih => exact .fref a b c (ih fun r o n z h => H r o n z (List.mem_cons_of_mem _ h))
  | nils _ ih => exact .nils (ih fun r o n z h => H r o n z (List.mem_cons_of_mem _ h))
  | @sl r off n sz b cap vs as a hcap c _ ih =>
    obtain ⟨cs, b', c', e, h1, h2, h3, h4, h5, h6, h7⟩ := H r off n sz (by simp)
    rw [a] at h1; simp at h1; subst h1
    simp only [List.map_cons, snap1, h2]
    refine .imm (us := ((c'.toList.take cs.length).drop off).take (n * sz)) hcap (fun _ => h7) (fun j u hj => ?_) (h6.cut h3) (ih fun r o n z h => H r o n z (List.mem_cons_of_mem _ h))
    rw [List.getElem?_take] at hj
    split at hj
    · rw [cell_of_row w b _ c' e _ h4]
      rw [List.getElem?_drop, List.getElem?_take] at hj
      split at hj
      · simpa using hj
      · simp at hj
    · simp at hj
  | gsl v a b _ ih =>
    obtain ⟨cs, b', c', e, h1, _⟩ := H _ _ _ _ (List.mem_cons_self)
    rw [b] at h1; simp at h1
  | imm0 a c _ ih => exact .imm0 a c (ih fun r o n z h => H r o n z (List.mem_cons_of_mem _ h))
  | imm z a b c _ _ ih => exact .imm z a b c (ih fun r o n z h => H r o n z (List.mem_cons_of_mem _ h))
  | nilf _ ih => exact .nilf (ih fun r o n z h => H r o n z (List.mem_cons_of_mem _ h))
  | fn a b _ _ _ ih => exact .fn a b (ih fun r o n z h => H r o n z (List.mem_cons_of_mem _ h))
  | agg a _ _ ih => exact .agg a (ih fun r o n z h => H r o n z (List.mem_cons_of_mem _ h))
  | tup a _ _ ih => exact .tup a (ih fun r o n z h => H r o n z (List.mem_cons_of_mem _ h))
  | @opq x us vs as _ _ a b _ e1 e2 _ ih =>
    subst e2
    refine .opq a b (ih fun r o n z h => H r o n z (List.mem_cons_of_mem _ (List.mem_append_right _ h))) e1 ?_
    rw [List.map_append, List.map_replicate]; rfl

theorem RL.snapL {vs as} (h : RL W φ w vs as) (H : ∀ r off n sz, AV.sl r off n sz ∈ as.flatMap AV.cells → ∃ cs b c e, φ r = some (some b) ∧ objCells (m r) = some cs ∧ Cut cs off (n * sz) ∧ w.heap[b]? = some (.cells c e (0, 0)) ∧ cs.length ≤ c.size ∧ RL W φ w (c.toList.take cs.length) cs ∧ ¬ W b) :
    RL W φ w vs (as.map (snapV m)) := by
  induction h with
  | nil => exact .nil
  | junk v _ ih => exact .junk v (ih fun r o n z h => H r o n z (by simp only [List.flatMap_cons]; exact List.mem_append_right _ h))
  | bool b _ ih => exact .bool b (ih fun r o n z h => H r o n z (by simp only [List.flatMap_cons]; exact List.mem_append_right _ h))
  | int k n _ ih => exact .int k n (ih fun r o n z h => H r o n z (by simp only [List.flatMap_cons]; exact List.mem_append_right _ h))
  | str s _ ih => exact .str s (ih fun r o n z h => H r o n z (by simp only [List.flatMap_cons]; exact List.mem_append_right _ h))
  | nilp _ ih => exact .nilp (ih fun r o n z h => H r o n z (by simp only [List.flatMap_cons]; exact List.mem_append_right _ h))
  | ref a _ ih => exact .ref a (ih fun r o n z h => H r o n z (by simp only [List.flatMap_cons]; exact List.mem_append_right _ h))
  | gref v a b _ ih => exact .gref v a b (ih fun r o n z h => H r o n z (by simp only [List.flatMap_cons]; exact List.mem_append_right _ h))
  | fref a b c _ _ ih => exact .fref a b c (ih fun r o n z h => H r o n z (by simp only [List.flatMap_cons]; exact List.mem_append_right _ h))
  | nils _ ih => exact .nils (ih fun r o n z h => H r o n z (by simp only [List.flatMap_cons]; exact List.mem_append_right _ h))
  | @sl r off n sz b cap vs as a hcap c _ ih =>
    have hh : RL W φ w [.slice (some ⟨b, off, none⟩) n cap] ([AV.sl r off n sz].map (snap1 m)) := (RL.sl a hcap c .nil).snap1L fun r' o' n' z' h' => H r' o' n' z' (by
      simp only [List.flatMap_cons]; exact List.mem_append_left _ (by simpa [AV.cells] using h'))
    exact hh.cons (ih fun r o n z h => H r o n z (by simp only [List.flatMap_cons]; exact List.mem_append_right _ h))
  | gsl v a b _ ih =>
    obtain ⟨cs, b', c', e, h1, _⟩ := H _ _ _ _ (by simp only [List.flatMap_cons]; exact List.mem_append_left _ (by simp [AV.cells]; exact ⟨rfl, rfl, rfl, rfl⟩))
    rw [b] at h1; simp at h1
  | imm0 a c _ ih => exact .imm0 a c (ih fun r o n z h => H r o n z (by simp only [List.flatMap_cons]; exact List.mem_append_right _ h))
  | imm z a b c _ _ ih => exact .imm z a b c (ih fun r o n z h => H r o n z (by simp only [List.flatMap_cons]; exact List.mem_append_right _ h))
  | nilf _ ih => exact .nilf (ih fun r o n z h => H r o n z (by simp only [List.flatMap_cons]; exact List.mem_append_right _ h))
  | fn a b _ _ _ ih => exact .fn a b (ih fun r o n z h => H r o n z (by simp only [List.flatMap_cons]; exact List.mem_append_right _ h))
  | agg a _ _ ih =>
    refine .agg (a.snap1L fun r o n z h => H r o n z (by simp only [List.flatMap_cons]; exact List.mem_append_left _ (by simpa [AV.cells] using h))) (ih fun r o n z h => H r o n z (by simp only [List.flatMap_cons]; exact List.mem_append_right _ h))
  | tup a _ _ ih => exact .tup a (ih fun r o n z h => H r o n z (by simp only [List.flatMap_cons]; exact List.mem_append_right _ h))
  | @opq x us vs as _ _ a b _ e1 e2 _ ih =>
    subst e2
    refine .opq a b (ih fun r o n z h => H r o n z (by simp only [List.flatMap_cons, List.flatMap_append]; exact List.mem_append_right _ (List.mem_append_right _ h))) e1 ?_
    rw [List.map_append, List.map_replicate]; rfl

theorem snapC_at : ∀ {l : List AV} (_ : snapC m l) {r off n sz} (_ : AV.sl r off n sz ∈ l), ∃ cs, objCells (m r) = some cs ∧ Cut cs off (n * sz)
  | x :: l, h, r, off, n, sz, hm => by
    rcases List.mem_cons.1 hm with e | e
    · subst e
      have := h.1
      simp only [snapC1] at this
      split at this
      · rename_i cs hc; exact ⟨cs, hc, this⟩
      · exact this.elim
    · exact snapC_at h.2 e

theorem Below.stp (R : RelM X φ m w) (hB : RowKit.Below w.heap.size w w') : RelM X φ m w' ∧ Stp X φ m w φ m w' := by
  have E : Ext (Wr X φ m) φ w (Wr X φ m) φ w' := ⟨fun _ _ h => .inl h, fun b hb _ => hB.block b hb, fun _ _ h => h, fun r b c e fr h1 _ h3 => ⟨c, e, fr, by rw [hB.block b (R.block h1).1]; exact h3, Nat.le_refl _⟩⟩
  exact ⟨⟨fun r => (R.obj r).mono E (fun b hb => hB.block b (R.block hb).1), R.inj, R.ext, fun b hb => Nat.lt_of_lt_of_le (R.xlt b hb) hB.size⟩, E,
    ⟨hB.os, hB.tape, hB.output, hB.size, fun b hb _ => hB.block b hb, fun r b h => .inr ⟨r, h⟩⟩⟩

theorem callee_sound (R : Rel X φ s a w) {f args} (h : callee s o = some (f, args)) : ∃ g as ts fs cs, o.op = .call { callee := .value g, args := as, argTypes := ts } ∧ a.eval g = .func (.func f) fs cs ∧
    RL (Wr X φ s.m) φ w (fs ++ as.map a.eval ++ cs).toList args := by
  unfold callee at h
  split at h
  · rename_i g as ts ho
    split at h
    · rename_i f' fs' cs' he
      simp only [Option.some.injEq, Prod.mk.injEq] at h
      obtain ⟨rfl, rfl⟩ := h
      have hg := R.ev g
      rw [he] at hg
      obtain ⟨fs, cs, hv, h1, h2⟩ := hg.fn_inv
      refine ⟨g, as, ts, fs, cs, ho, hv, ?_⟩
      simp only [Array.toList_append, Array.toList_map]
      exact (h1.app (R.evL _)).app h2
    · simp at h
  · simp at h

theorem kind_call (h : kind o.op = .append) : ∃ c, o.op = .call c ∧ c.callee = .builtin .append := by
  unfold kind at h
  split at h <;> simp at h
  rename_i a t ho
  exact ⟨_, ho, rfl⟩
theorem kind_copy (h : kind o.op = .copy) : ∃ c, o.op = .call c ∧ c.callee = .builtin .copy := by
  unfold kind at h
  split at h <;> simp at h
  rename_i a t ho
  exact ⟨_, ho, rfl⟩

theorem aStep_sound (HE : EnvOk P E) {nx p s'} (R : Rel X φ s a w) (h : aStep E nx s o = some (p, s')) (hp : p) (hd : dstOk s.n o = true) {K : Act → World → Prop} {Q : Exit → Act → World → Prop}
    (hK : ∀ a' w' φ', Rel X φ' s' a' w' → Stp X φ s.m w φ' s'.m w' → K a' w') : o.wp P a w K Q := by
  have hd' : ∀ d, o.dst = some d → d < s.n := fun d e => by simpa [dstOk, e] using hd
  have hval : ∀ {v w'}, (execOp a.eval o).run P w = .ok (.value v) w' → K (a.put o.dst v) w' → o.wp P a w K Q := fun h1 h2 => by unfold Oper.wp; rw [h1]; exact h2
  unfold aStep at h
  split at h
  · simp only [Option.map_eq_some_iff, Prod.exists, Prod.mk.injEq] at h
    obtain ⟨q, v, h1, rfl, rfl⟩ := h
    obtain ⟨u, h2, h3⟩ := pev_sound HE.ty R h1 hp
    exact hval h2 (hK _ _ _ (R.put (.refl _ _ _ _) R.mem h3 hd') (.refl _ _ _ _))
  · simp only [Option.map_eq_some_iff, Prod.exists, Prod.mk.injEq] at h
    obtain ⟨q, cs, f, h1, rfl, rfl⟩ := h
    obtain ⟨C, e, v, h2, h3, h4, h5⟩ := aal_sound HE.ty R h1 hp.1
    have hal := alloc_rel (w' := w.alloc (.cells C e)) R.mem hp.2.1 h3 h4 hp.2.2 rfl rfl rfl rfl
    refine hval h2 (hK _ _ _ (R.put hal.2 hal.1 (h5 _ _ _ _ (upd_same _ _ _) (heap_alloc_new w _)) hd') hal.2)
  · simp only [Option.map_eq_some_iff, Prod.exists, Prod.mk.injEq] at h
    obtain ⟨q, r, cs, h1, rfl, rfl⟩ := h
    obtain ⟨b, cs0, c, c', e, w', h2, k1, k2, k3, k4, k5, k6, k7, k8, k9, k10, k11, k12, k13⟩ := ast_sound HE.ty R h1 hp
    have hwr := write_rel R.mem k1 k2 k3 k4 k5 k6 k7 k8 k9 k10 k11 k12 k13
    unfold Oper.wp
    rw [h2]
    exact hK _ _ _ (R.put hwr.2 hwr.1 (.tup .nil .nil) hd') hwr.2
  · rename_i hk
    obtain ⟨c, ho, hc⟩ := kind_call hk
    obtain ⟨v, w', φ', h1, h2, h3⟩ := aap_sound HE.ty R ho hc h hp hd'
    exact hval h1 (hK _ _ _ h2 h3)
  · rename_i hk
    obtain ⟨c, ho, hc⟩ := kind_copy hk
    obtain ⟨v, w', h1, h2, h3⟩ := acp_sound HE.ty R ho hc h hp hd'
    exact hval h1 (hK _ _ _ h2 h3)
  · simp only [Option.bind_eq_some_iff, Option.map_eq_some_iff, Prod.exists, Prod.mk.injEq] at h
    obtain ⟨f, args, h1, q, r, h2, rfl, rfl⟩ := h
    obtain ⟨hq, hs⟩ := hp
    obtain ⟨g, as, ts, fs, cs, ho, hv, hr⟩ := callee_sound R h1
    obtain ⟨F1, F2⟩ := freeze_rel R.mem (args.flatMap AV.cells)
    have hr' := (hr.mono F2.ext).snapL (m := s.m) (fun r off n sz hm => by
      obtain ⟨cs, hc, hcut⟩ := snapC_at hs hm
      have hc' : objCells (snapM s.m (args.flatMap AV.cells) r) = some cs := by rw [snapM_cells]; exact hc
      obtain ⟨b, c, e, k1, k2, k3, k4, _, _⟩ := obj_reads F1 hc'
      refine ⟨cs, b, c, e, k1, hc, hcut, k2, k3, k4, ?_⟩
      rintro (hX | ⟨r', cs', k5, k6⟩)
      · exact F1.ext _ _ k1 hX
      · have := F1.inj _ _ _ k5 k1
        subst this
        exact snapM_ro _ _ _ _ _ _ hm _ k6)
    refine upon_call ho hv (HE.sp f _ _ _ h2 hq _ _ w _ (fun b hb => F1.wlt hb) hr') ?_
    rintro v w' ⟨hv', hB⟩
    obtain ⟨B1, B2⟩ := Below.stp F1 hB
    have hst := F2.trans B2
    exact hK _ _ _ (R.put hst B1 hv' hd') hst
end
end Go.Proofs.Ytlgimmafejbmgaa.AM
