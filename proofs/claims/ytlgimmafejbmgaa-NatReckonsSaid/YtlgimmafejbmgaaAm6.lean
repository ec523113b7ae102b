/- The abstract machine: operations that make, or write, the call's own memory. -/
import Derived.Test.YtlgimmafejbmgaaAm5
namespace Go.Proofs.Ytlgimmafejbmgaa.AM
set_option linter.all false
set_option autoImplicit true
set_option relaxedAutoImplicit true
open Go
section
variable {W : Nat → Prop} {X : Nat → Prop} {φ : Nat → Option (Option Nat)} {m : Nat → AObj} {s : St} {a : Act} {w w' : World} {P : Program} {T : Nat → Option TyD}

theorem ObjOk.mono {W' φ' x o} (h : ObjOk W φ w x o) (E : Ext W φ w W' φ' w') (hb : ∀ b, x = some (some b) → w'.heap[b]? = w.heap[b]?) : ObjOk W' φ' w' x o := by
  cases o with
  | unused => exact h
  | gone => exact h
  | live cs =>
    obtain ⟨b, h1, c, e, h2, h3, h4, h5⟩ := h
    exact ⟨b, h1, c, e, by rw [hb b h1]; exact h2, h3, h4.mono E, h5⟩
  | ro cs =>
    obtain ⟨b, h1, c, e, h2, h3, h4, h5⟩ := h
    exact ⟨b, h1, c, e, by rw [hb b h1]; exact h2, h3, h4.mono E, h5⟩

theorem RelM.block (R : RelM X φ m w) {r b} (h : φ r = some (some b)) : b < w.heap.size ∧ ∃ c e, w.heap[b]? = some (.cells c e (0, 0)) := by
  have ho := R.obj r
  cases hm : m r <;> rw [hm] at ho <;> simp only [ObjOk, h] at ho
  · simp at ho
  · simp at ho
  all_goals
    obtain ⟨b', hb, c, e, h1, _⟩ := ho
    simp at hb; subst hb
    exact ⟨(Array.getElem?_eq_some_iff.1 h1).1, c, e, h1⟩

theorem RelM.unused (R : RelM X φ m w) {r} (h : m r = .unused) : φ r = none := by
  have ho := R.obj r
  rw [h] at ho; exact ho

theorem RelM.wlt (R : RelM X φ m w) {b} (h : Wr X φ m b) : b < w.heap.size := by
  rcases h with h | ⟨r, cs, h, _⟩
  · exact R.xlt b h
  · exact (R.block h).1

/-- A new object. -/
theorem alloc_rel (R : RelM X φ m w) {nx : Nat} (hu : m nx = .unused) {C : Array Value} {e : TypeId} {cs : List AV} (hC : RL (Wr X φ m) φ w (C.toList.take cs.length) cs) (hl : cs.length ≤ C.size) (hk : cs.all AV.ck = true)
    (hh : w'.heap = w.heap.push (.cells C e)) (h1 : w'.os = w.os) (h2 : w'.tape = w.tape) (h3 : w'.output = w.output) :
    RelM X (upd φ nx (some (some w.heap.size))) (upd m nx (.live cs)) w' ∧ Stp X φ m w (upd φ nx (some (some w.heap.size))) (upd m nx (.live cs)) w' := by
  have hφ := R.unused hu
  have hold : ∀ b, b < w.heap.size → w'.heap[b]? = w.heap[b]? := fun b hb => by rw [hh, Array.getElem?_push, if_neg (by omega)]
  have hsz : w'.heap.size = w.heap.size + 1 := by rw [hh]; simp
  have E : Ext (Wr X φ m) φ w (Wr X (upd φ nx (some (some w.heap.size))) (upd m nx (.live cs))) (upd φ nx (some (some w.heap.size))) w' := by
    refine ⟨fun r x hx => ?_, fun b hb _ => hold b hb, fun b hb hW => ?_, fun r b c e fr h4 h5 h6 => ⟨c, e, fr, ?_, Nat.le_refl _⟩⟩
    · left
      unfold upd
      split
      · rename_i e'; rw [e', hφ] at hx; simp at hx
      · exact hx
    · rcases hW with h | ⟨r, cs', h, h'⟩
      · exact .inl h
      · unfold upd at h h'
        split at h
        · simp at h; omega
        · rename_i hne
          rw [if_neg hne] at h'
          exact .inr ⟨r, cs', h, h'⟩
    · rw [hold b (R.block h4).1]; exact h6
  refine ⟨⟨fun r => ?_, fun r r' b h4 h5 => ?_, fun r b h4 => ?_, fun b hb => ?_⟩, E, ⟨h1, h2, h3, by omega, fun b hb _ => hold b hb, fun r b h4 => ?_⟩⟩
  · by_cases hr : r = nx
    · subst hr
      simp only [upd, if_true]
      refine ⟨w.heap.size, rfl, C, e, by rw [hh]; simp, hl, hC.mono E, hk⟩
    · simp only [upd, if_neg hr]
      exact (R.obj r).mono E (fun b hb => hold b (R.block hb).1)
  · unfold upd at h4 h5
    split at h4 <;> split at h5
    · simp_all
    · simp at h4; have := (R.block h5).1; omega
    · simp at h5; have := (R.block h4).1; omega
    · exact R.inj _ _ _ h4 h5
  · unfold upd at h4
    split at h4
    · simp at h4; intro hX; have := R.xlt b hX; omega
    · exact R.ext _ _ h4
  · have := R.xlt b hb; omega
  · unfold upd at h4
    split at h4
    · simp at h4; left; omega
    · exact .inr ⟨r, h4⟩

theorem upd_same {β : Type} (f : Nat → β) (i : Nat) (v : β) : upd f i v i = v := by simp [upd]

/-- Cells of a live object are written. -/
theorem write_rel (R : RelM X φ m w) {r b : Nat} {cs cs' : List AV} {c c' : Array Value} {e : TypeId} (hm : m r = .live cs) (hb : φ r = some (some b)) (hc : w.heap[b]? = some (.cells c e (0, 0)))
    (hh : w'.heap[b]? = some (.cells c' e (0, 0))) (ho : ∀ k, k ≠ b → w'.heap[k]? = w.heap[k]?) (hs : w'.heap.size = w.heap.size) (hsz : c'.size = c.size) (hl : cs'.length ≤ c.size) (hr : RL (Wr X φ m) φ w (c'.toList.take cs'.length) cs') (hk : cs'.all AV.ck = true)
    (h1 : w'.os = w.os) (h2 : w'.tape = w.tape) (h3 : w'.output = w.output) :
    RelM X φ (upd m r (.live cs')) w' ∧ Stp X φ m w φ (upd m r (.live cs')) w' := by
  have E : Ext (Wr X φ m) φ w (Wr X φ (upd m r (.live cs'))) φ w' := by
    refine ⟨fun _ _ hx => .inl hx, fun k _ hW => ho k (fun e => hW (e ▸ .inr ⟨r, cs, hb, hm⟩)), fun k _ hW => ?_, fun r' k d e' fr h4 _ h6 => ?_⟩
    · rcases hW with h | ⟨r', cs'', h, h'⟩
      · exact .inl h
      · unfold upd at h'
        split at h'
        · rename_i e'; subst e'; exact .inr ⟨r', cs, h, hm⟩
        · exact .inr ⟨r', cs'', h, h'⟩
    · by_cases hkb : k = b
      · subst hkb
        rw [hc] at h6; simp at h6
        exact ⟨c', e, (0, 0), hh, by rw [← h6.1]; omega⟩
      · exact ⟨d, e', fr, by rw [ho k hkb]; exact h6, Nat.le_refl _⟩
  refine ⟨⟨fun r' => ?_, R.inj, R.ext, fun k hk' => by rw [hs]; exact R.xlt k hk'⟩, E, ⟨h1, h2, h3, by omega, fun k hk' hn => ho k (fun e => hn r (e ▸ hb)), fun r' k h4 => .inr ⟨r', h4⟩⟩⟩
  by_cases hr' : r' = r
  · subst hr'
    simp only [upd, if_true]
    exact ⟨b, hb, c', e, hh, by omega, hr.mono E, hk⟩
  · simp only [upd, if_neg hr']
    exact (R.obj r').mono E (fun k hk' => ho k (fun e => hr' (R.inj r' r b (e ▸ hk') hb)))

theorem setCells_heap (b : Nat) (e : TypeId) : ∀ (us : List Value) (off : Nat) (w : World) (c : Array Value), w.heap[b]? = some (.cells c e (0, 0)) → off + us.length ≤ c.size →
    (w.setCells b off us).heap[b]? = some (.cells (c.toList.take off ++ us ++ c.toList.drop (off + us.length)).toArray e (0, 0)) ∧ (∀ k, k ≠ b → (w.setCells b off us).heap[k]? = w.heap[k]?) ∧
      (w.setCells b off us).heap.size = w.heap.size ∧ (w.setCells b off us).os = w.os ∧ (w.setCells b off us).tape = w.tape ∧ (w.setCells b off us).output = w.output
  | [], off, w, c, h, _ => by
    refine ⟨?_, fun _ _ => rfl, rfl, rfl, rfl, rfl⟩
    simp [World.setCells, h]
  | u :: us, off, w, c, h, hl => by
    simp only [List.length_cons] at hl
    have h1 := heap_setCell_same w b off c e u h
    obtain ⟨i1, i2, i3, i4, i5, i6⟩ := setCells_heap b e us (off + 1) (w.setCell ⟨b, off, none⟩ u) _ h1 (by simp; omega)
    refine ⟨?_, fun k hk => ?_, ?_, ?_, ?_, ?_⟩
    · rw [World.setCells, i1]
      congr 2
      apply Array.ext'
      simp only [Array.toList_setIfInBounds, List.length_cons]
      have e1 : (c.toList.set off u).take (off + 1) = c.toList.take off ++ [u] := by
        have hlt : off < c.toList.length := by simp; omega
        rw [List.take_set, List.take_succ_eq_append_getElem hlt, List.set_append_right _ _ (by simp; omega)]
        simp [Nat.min_eq_left (show off ≤ c.size by omega)]
      rw [e1, List.drop_set_of_lt (by omega)]
      simp [show off + 1 + us.length = off + (us.length + 1) by omega]
    · rw [World.setCells, i2 k hk, heap_setCell_other _ _ _ _ (by simpa using hk)]
    · rw [World.setCells, i3]; simp [World.setCell]
    · rw [World.setCells, i4]; rfl
    · rw [World.setCells, i5]; rfl
    · rw [World.setCells, i6]; rfl

theorem there_of {b off n : Nat} {c : Array Value} {e : TypeId} (h : w.heap[b]? = some (.cells c e (0, 0))) (hl : off + n ≤ c.size) : w.there b off n := fun j hj => by
  refine ⟨?_, frozen_of_row w b _ c e h⟩
  rw [cell_of_row w b _ c e _ h]
  simp; omega

/-- A row of zeros. -/
theorem zeros_eq (z : Array Value) (n : Nat) : ((Array.range (n * z.size)).map (z[· % z.size]!)).toList = (List.replicate n z.toList).flatten := by
  induction n with
  | zero => simp
  | succ n ih =>
    rw [List.replicate_succ, List.flatten_cons, ← ih]
    simp only [Array.toList_map, Array.toList_range]
    rw [show (n + 1) * z.size = z.size + n * z.size by rw [Nat.add_mul]; omega, List.range_add, List.map_append, List.map_map]
    congr 1
    · apply List.ext_getElem
      · simp
      · intro i h1 h2
        simp at h1 h2 ⊢
        rw [Nat.mod_eq_of_lt h1]
        simp [h1]
    · apply List.map_congr_left
      intro i hi
      simp [Nat.add_mod_left]

theorem RL.repl {vs as} (h : RL W φ w vs as) (n : Nat) : RL W φ w (List.replicate n vs).flatten (List.replicate n as).flatten := by
  induction n with
  | zero => exact .nil
  | succ n ih => rw [List.replicate_succ, List.replicate_succ, List.flatten_cons, List.flatten_cons]; exact h.app ih

theorem length_repl {β : Type} (l : List β) (n : Nat) : (List.replicate n l).flatten.length = n * l.length := by
  induction n with
  | zero => simp
  | succ n ih => rw [List.replicate_succ, List.flatten_cons, List.length_append, ih, Nat.add_mul]; omega

theorem all_repl (l : List AV) (h : l.all AV.ck = true) (n : Nat) : (List.replicate n l).flatten.all AV.ck = true := by
  induction n with
  | zero => rfl
  | succ n ih => rw [List.replicate_succ, List.flatten_cons, List.all_append, h, ih]; rfl
end
end Go.Proofs.Ytlgimmafejbmgaa.AM
