/- The abstract machine: which abstract values stand for which values in a world (RL), and how that is kept. -/
import Derived.Test.YtlgimmafejbmgaaAm0
import Derived.Deep.MidRow
import Derived.Deep.AppendSrc
import Derived.Laws.Cells
namespace Go.Proofs.Ytlgimmafejbmgaa.AM
set_option linter.all false
set_option autoImplicit true
set_option relaxedAutoImplicit true
open Go

/-- W: blocks that may still be written; φ: where objects lie (none: not made yet; some none: gone). -/
inductive RL (W : Nat → Prop) (φ : Nat → Option (Option Nat)) (w : World) : List Value → List AV → Prop
  | nil : RL W φ w [] []
  | junk (v) {vs as} : RL W φ w vs as → RL W φ w (v :: vs) (.junk :: as)
  | bool (b) {vs as} : RL W φ w vs as → RL W φ w (.bool b :: vs) (.bool b :: as)
  | int (k n) {vs as} : RL W φ w vs as → RL W φ w (.int k n :: vs) (.int k n :: as)
  | str (s) {vs as} : RL W φ w vs as → RL W φ w (.string s :: vs) (.str s :: as)
  | nilp {vs as} : RL W φ w vs as → RL W φ w (.pointer none :: vs) (.nilp :: as)
  | ref {r off b vs as} : φ r = some (some b) → RL W φ w vs as → RL W φ w (.pointer (some ⟨b, off, none⟩) :: vs) (.ref r off :: as)
  | gref {r off} (v) {vs as} : v.oneCell' = true → φ r = some none → RL W φ w vs as → RL W φ w (v :: vs) (.ref r off :: as)
  | fref {b o cs us vs as} : (us ≠ [] → ¬ W b) → (∀ j u, us[j]? = some u → w.cell? ⟨b, o + j, none⟩ = some u) → RL W φ w us cs → RL W φ w vs as →
      RL W φ w (.pointer (some ⟨b, o, none⟩) :: vs) (.fref cs :: as)
  | nils {vs as} : RL W φ w vs as → RL W φ w (.slice none 0 0 :: vs) (.nils :: as)
  | sl {r off n sz b cap vs as} : φ r = some (some b) → n ≤ cap → (∃ c e fr, w.heap[b]? = some (.cells c e fr) ∧ off + cap * sz ≤ c.size) → RL W φ w vs as →
      RL W φ w (.slice (some ⟨b, off, none⟩) n cap :: vs) (.sl r off n sz :: as)
  | gsl {r off n sz} (v) {vs as} : v.oneCell' = true → φ r = some none → RL W φ w vs as → RL W φ w (v :: vs) (.sl r off n sz :: as)
  | imm0 (a cap) {vs as} : RL W φ w vs as → RL W φ w (.slice a 0 cap :: vs) (.imm 0 [] :: as)
  | imm {b o n cap cs us vs as} : n ≤ cap → (us ≠ [] → ¬ W b) → (∀ j u, us[j]? = some u → w.cell? ⟨b, o + j, none⟩ = some u) → RL W φ w us cs → RL W φ w vs as →
      RL W φ w (.slice (some ⟨b, o, none⟩) n cap :: vs) (.imm n cs :: as)
  | nilf {vs as} : RL W φ w vs as → RL W φ w (.nilFunc :: vs) (.nilf :: as)
  | fn {f fs cs gs ds vs as} : RL W φ w fs gs → RL W φ w cs ds → RL W φ w vs as → RL W φ w (.func (.func f) fs.toArray cs.toArray :: vs) (.fn f gs ds :: as)
  | agg {cs ds vs as} : RL W φ w cs ds → RL W φ w vs as → RL W φ w (.agg cs.toArray :: vs) (.agg ds :: as)
  | tup {cs ds vs as} : RL W φ w cs ds → RL W φ w vs as → RL W φ w (.tuple cs.toArray :: vs) (.tup ds :: as)
  | opq {x us vs as l as'} : us.length = x.width → RL W φ w us x.open → RL W φ w vs as → l = us ++ vs → as' = List.replicate (x.width - 1) .pad ++ as → RL W φ w l (.opq x :: as')

variable {W : Nat → Prop} {φ : Nat → Option (Option Nat)} {w : World}

theorem Pay.width_pos (x : Pay) : 0 < x.width := by cases x <;> simp [Pay.width]

theorem RL.length {vs as} (h : RL W φ w vs as) : vs.length = as.length := by
  induction h with
  | nil => rfl
  | @opq x us vs as _ _ h1 _ _ e1 e2 _ ih => have := x.width_pos; subst e1 e2; simp [h1, ih]; omega
  | _ => simp_all

theorem RL.app {vs as us bs} (h : RL W φ w vs as) (h' : RL W φ w us bs) : RL W φ w (vs ++ us) (as ++ bs) := by
  induction h with
  | nil => exact h'
  | junk v _ ih => exact .junk v ih
  | bool b _ ih => exact .bool b ih
  | int k n _ ih => exact .int k n ih
  | str s _ ih => exact .str s ih
  | nilp _ ih => exact .nilp ih
  | ref a _ ih => exact .ref a ih
  | gref v a b _ ih => exact .gref v a b ih
  | fref a b c _ _ ih => exact .fref a b c ih
  | nils _ ih => exact .nils ih
  | sl a b c _ ih => exact .sl a b c ih
  | gsl v a b _ ih => exact .gsl v a b ih
  | imm0 a c _ ih => exact .imm0 a c ih
  | imm z a b c _ _ ih => exact .imm z a b c ih
  | nilf _ ih => exact .nilf ih
  | fn a b _ _ _ ih => exact .fn a b ih
  | agg a _ _ ih => exact .agg a ih
  | tup a _ _ ih => exact .tup a ih
  | opq a b _ e1 e2 _ ih => subst e1 e2; rw [List.append_assoc, List.cons_append, List.append_assoc]; exact .opq a b ih rfl rfl

/-- What is not a part of opaque data stands for one value. -/
theorem RL.uncons {vs a as} (h : RL W φ w vs (a :: as)) (ha : a.plain = true) : ∃ v vs', vs = v :: vs' ∧ RL W φ w [v] [a] ∧ RL W φ w vs' as := by
  cases h with
  | junk v t => exact ⟨_, _, rfl, .junk v .nil, t⟩
  | bool b t => exact ⟨_, _, rfl, .bool b .nil, t⟩
  | int k n t => exact ⟨_, _, rfl, .int k n .nil, t⟩
  | str s t => exact ⟨_, _, rfl, .str s .nil, t⟩
  | nilp t => exact ⟨_, _, rfl, .nilp .nil, t⟩
  | ref x t => exact ⟨_, _, rfl, .ref x .nil, t⟩
  | gref v x y t => exact ⟨_, _, rfl, .gref v x y .nil, t⟩
  | fref x y z t => exact ⟨_, _, rfl, .fref x y z .nil, t⟩
  | nils t => exact ⟨_, _, rfl, .nils .nil, t⟩
  | sl x y z t => exact ⟨_, _, rfl, .sl x y z .nil, t⟩
  | gsl v x y t => exact ⟨_, _, rfl, .gsl v x y .nil, t⟩
  | imm0 x y t => exact ⟨_, _, rfl, .imm0 x y .nil, t⟩
  | imm q x y z t => exact ⟨_, _, rfl, .imm q x y z .nil, t⟩
  | nilf t => exact ⟨_, _, rfl, .nilf .nil, t⟩
  | fn x y t => exact ⟨_, _, rfl, .fn x y .nil, t⟩
  | agg x t => exact ⟨_, _, rfl, .agg x .nil, t⟩
  | tup x t => exact ⟨_, _, rfl, .tup x .nil, t⟩
  | @opq x us vs' as' _ _ h1 h2 h3 e1 e2 =>
    simp [AV.plain] at ha
    rw [ha] at h1 e2
    obtain ⟨v, rfl⟩ := List.length_eq_one_iff.1 h1
    simp at e2
    subst e1 e2
    exact ⟨v, vs', rfl, .opq (by rw [ha]; rfl) h2 .nil rfl (by rw [ha]; rfl), h3⟩

theorem RL.cons {v a vs as} (h : RL W φ w [v] [a]) (h' : RL W φ w vs as) : RL W φ w (v :: vs) (a :: as) := by
  simpa using h.app h'

theorem RL.nil_of {vs} (h : RL W φ w vs []) : vs = [] := by cases h; rfl

theorem RL.one {vs a} (h : RL W φ w vs [a]) : ∃ v, vs = [v] ∧ RL W φ w [v] [a] := by
  have := h.length
  match vs, this with
  | [v], _ => exact ⟨v, rfl, h⟩

theorem not_pad {vs as} (h : RL W φ w vs (.pad :: as)) : False := by cases h

/-- Cells are cut where data begins. -/
theorem RL.split {vs as} (h : RL W φ w vs as) : ∀ n, n ≤ as.length → AV.head (as.drop n) = true → RL W φ w (vs.take n) (as.take n) ∧ RL W φ w (vs.drop n) (as.drop n) := by
  induction h with
  | nil => intro n _ _; simp; exact .nil
  | @opq x us vs as _ _ h1 h2 h3 e1 e2 _ ih =>
    subst e1 e2
    intro n hn hd
    have hw := x.width_pos
    rcases Nat.eq_zero_or_pos n with rfl | hpos
    · simp; exact ⟨.nil, .opq h1 h2 h3 rfl rfl⟩
    · by_cases hlt : n < x.width
      · exfalso
        obtain ⟨m, rfl⟩ : ∃ m, n = m + 1 := ⟨n - 1, by omega⟩
        rw [List.drop_succ_cons, List.drop_append_of_le_length (by simp; omega), List.drop_replicate] at hd
        obtain ⟨q, hq⟩ : ∃ q, x.width - 1 - m = q + 1 := ⟨x.width - 1 - m - 1, by omega⟩
        rw [hq, List.replicate_succ] at hd
        simp [AV.head] at hd
      · obtain ⟨m, rfl⟩ : ∃ m, n = x.width + m := ⟨n - x.width, by omega⟩
        have hlen : (AV.opq x :: (List.replicate (x.width - 1) AV.pad)).length = x.width := by simp; omega
        have e1 : (AV.opq x :: (List.replicate (x.width - 1) AV.pad ++ as)) = (AV.opq x :: List.replicate (x.width - 1) AV.pad) ++ as := by simp
        rw [e1] at hd hn ⊢
        rw [List.drop_append, List.drop_of_length_le (by omega), hlen, show x.width + m - x.width = m by omega, List.nil_append] at hd
        obtain ⟨ih1, ih2⟩ := ih m (by simp at hn; omega) hd
        have t1 : (us ++ vs).take (x.width + m) = us ++ vs.take m := by
          rw [List.take_append, List.take_of_length_le (by omega), h1, show x.width + m - x.width = m by omega]
        have t2 : (us ++ vs).drop (x.width + m) = vs.drop m := by
          rw [List.drop_append, List.drop_of_length_le (by omega), h1, show x.width + m - x.width = m by omega, List.nil_append]
        have t3 : ((AV.opq x :: List.replicate (x.width - 1) AV.pad) ++ as).take (x.width + m) = (AV.opq x :: List.replicate (x.width - 1) AV.pad) ++ as.take m := by
          rw [List.take_append, List.take_of_length_le (by omega), hlen, show x.width + m - x.width = m by omega]
        have t4 : ((AV.opq x :: List.replicate (x.width - 1) AV.pad) ++ as).drop (x.width + m) = as.drop m := by
          rw [List.drop_append, List.drop_of_length_le (by omega), hlen, show x.width + m - x.width = m by omega, List.nil_append]
        rw [t1, t2, t3, t4]
        exact ⟨.opq h1 h2 ih1 rfl rfl, ih2⟩
  | _ =>
    rename_i ih
    intro n hn hd
    cases n with
    | zero => simp; refine ⟨.nil, ?_⟩; constructor <;> assumption
    | succ m =>
      simp at hn hd
      obtain ⟨i1, i2⟩ := ih m (by omega) hd
      simp
      refine ⟨?_, i2⟩
      constructor <;> assumption

theorem RL.cut {vs as} (h : RL W φ w vs as) {off n : Nat} (hc : Cut as off n) : RL W φ w ((vs.drop off).take n) ((as.drop off).take n) := by
  obtain ⟨h1, h2, h3⟩ := hc
  have a := (h.split off (by omega) h2).2
  refine (a.split n (by simp; omega) ?_).1
  rwa [List.drop_drop]

/-- What stands at one place. -/
theorem RL.at {vs as} (h : RL W φ w vs as) {i : Nat} {a : AV} (hi : as[i]? = some a) (ha : a.plain = true) : ∃ v, vs[i]? = some v ∧ RL W φ w [v] [a] := by
  have hlt : i < as.length := (List.getElem?_eq_some_iff.1 hi).1
  have hd : as.drop i = a :: as.drop (i + 1) := by
    rw [List.drop_eq_getElem_cons hlt]; congr 1; exact (List.getElem?_eq_some_iff.1 hi).2
  have hh : AV.head (as.drop i) = true := by rw [hd]; cases a <;> simp_all [AV.head, AV.plain]
  have h2 := (h.split i (by omega) hh).2
  rw [hd] at h2
  obtain ⟨v, vs', e, hv, _⟩ := h2.uncons ha
  refine ⟨v, ?_, hv⟩
  have := congrArg (fun l => l[0]?) e
  simpa using this

theorem RL.set {vs as} (h : RL W φ w vs as) {i : Nat} {a b : AV} {v : Value} (hi : as[i]? = some a) (ha : a.plain = true) (hv : RL W φ w [v] [b]) : RL W φ w (vs.set i v) (as.set i b) := by
  have hlt : i < as.length := (List.getElem?_eq_some_iff.1 hi).1
  have hd : as.drop i = a :: as.drop (i + 1) := by
    rw [List.drop_eq_getElem_cons hlt]; congr 1; exact (List.getElem?_eq_some_iff.1 hi).2
  have hh : AV.head (as.drop i) = true := by rw [hd]; cases a <;> simp_all [AV.head, AV.plain]
  obtain ⟨h1, h2⟩ := h.split i (by omega) hh
  rw [hd] at h2
  obtain ⟨u, vs', e, _, h3⟩ := h2.uncons ha
  have hl := h.length
  have hv' : vs.drop (i + 1) = vs' := by
    have : vs.drop (i + 1) = (vs.drop i).drop 1 := by rw [List.drop_drop]
    rw [this, e]; rfl
  have e1 : vs.set i v = vs.take i ++ v :: vs.drop (i + 1) := by rw [List.set_eq_take_append_cons_drop, if_pos (by omega)]
  have e2 : as.set i b = as.take i ++ b :: as.drop (i + 1) := by rw [List.set_eq_take_append_cons_drop, if_pos (by omega)]
  rw [e1, e2, hv']
  exact h1.app (hv.cons h3)

theorem RL.over {vs as us bs} (h : RL W φ w vs as) {off n : Nat} (hc : Cut as off n) (h' : RL W φ w us bs) (hn : bs.length = n) :
    RL W φ w (vs.take off ++ us ++ vs.drop (off + us.length)) (over as off bs) := by
  obtain ⟨h1, h2, h3⟩ := hc
  have a := (h.split off (by omega) h2).1
  have b := (h.split (off + n) (by omega) h3).2
  unfold AM.over
  rw [hn, h'.length, hn]
  exact (a.app h').app b

/-- The world, and what may be written, changes. -/
structure Ext (W : Nat → Prop) (φ : Nat → Option (Option Nat)) (w : World) (W' : Nat → Prop) (φ' : Nat → Option (Option Nat)) (w' : World) : Prop where
  phi : ∀ r x, φ r = some x → φ' r = some x ∨ φ' r = some none
  old : ∀ b, b < w.heap.size → ¬ W b → w'.heap[b]? = w.heap[b]?
  wr : ∀ b, b < w.heap.size → W' b → W b
  size : ∀ r b c e fr, φ r = some (some b) → φ' r = some (some b) → w.heap[b]? = some (.cells c e fr) → ∃ c' e' fr', w'.heap[b]? = some (.cells c' e' fr') ∧ c.size ≤ c'.size

theorem cell_block {b o : Nat} {u : Value} (h : w.cell? ⟨b, o, none⟩ = some u) : b < w.heap.size := block_lt_of_cell h

theorem Ext.cell {W' φ' w'} (E : Ext W φ w W' φ' w') {b o : Nat} {us : List Value} (h1 : us ≠ [] → ¬ W b) (h2 : ∀ j u, us[j]? = some u → w.cell? ⟨b, o + j, none⟩ = some u) :
    (us ≠ [] → ¬ W' b) ∧ (∀ j u, us[j]? = some u → w'.cell? ⟨b, o + j, none⟩ = some u) := by
  have hb : us ≠ [] → b < w.heap.size := fun hne => by
    obtain ⟨u, t, rfl⟩ := List.exists_cons_of_ne_nil hne
    exact cell_block (h2 0 u rfl)
  refine ⟨fun hne hW => h1 hne (E.wr b (hb hne) hW), fun j u hj => ?_⟩
  have hne : us ≠ [] := by rintro rfl; simp at hj
  rw [World.cell?_of_block (w := w) (E.old b (hb hne) (h1 hne))]
  exact h2 j u hj

theorem RL.mono {W' φ' w' vs as} (h : RL W φ w vs as) (E : Ext W φ w W' φ' w') : RL W' φ' w' vs as := by
  induction h with
  | nil => exact .nil
  | junk v _ ih => exact .junk v ih
  | bool b _ ih => exact .bool b ih
  | int k n _ ih => exact .int k n ih
  | str s _ ih => exact .str s ih
  | nilp _ ih => exact .nilp ih
  | ref a _ ih => rcases E.phi _ _ a with h | h; exact .ref h ih; exact .gref _ rfl h ih
  | gref v o a _ ih => rcases E.phi _ _ a with h | h <;> exact .gref v o h ih
  | fref a b _ _ i1 i2 => obtain ⟨x, y⟩ := E.cell a b; exact .fref x y i1 i2
  | nils _ ih => exact .nils ih
  | sl a b c _ ih =>
    rcases E.phi _ _ a with h | h
    · obtain ⟨c, e, fr, hc, hs⟩ := c
      obtain ⟨c', e', fr', hc', hs'⟩ := E.size _ _ _ _ _ a h hc
      exact .sl h b ⟨c', e', fr', hc', by omega⟩ ih
    · exact .gsl _ rfl h ih
  | gsl v o a _ ih => rcases E.phi _ _ a with h | h <;> exact .gsl v o h ih
  | imm0 a c _ ih => exact .imm0 a c ih
  | imm z a b _ _ i1 i2 => obtain ⟨x, y⟩ := E.cell a b; exact .imm z x y i1 i2
  | nilf _ ih => exact .nilf ih
  | fn _ _ _ i1 i2 i3 => exact .fn i1 i2 i3
  | agg _ _ i1 i2 => exact .agg i1 i2
  | tup _ _ i1 i2 => exact .tup i1 i2
  | opq a _ _ e1 e2 i1 i2 => exact .opq a i1 i2 e1 e2

theorem onlyL_append (k : Nat → Bool) (a b : List AV) : onlyL k (a ++ b) = (onlyL k a && onlyL k b) := by
  induction a with
  | nil => simp [onlyL]
  | cons x xs ih => simp [onlyL, ih, Bool.and_assoc]

theorem onlyL_pads (k : Nat → Bool) (n : Nat) : onlyL k (List.replicate n .pad) = true := by
  induction n with
  | zero => rfl
  | succ n ih => rw [List.replicate_succ]; simp [onlyL, AV.only, ih]

theorem onlyL_ints (q : Nat → Bool) (k : IntKind) (l : List Nat) : onlyL q (l.map fun d : Nat => AV.int k (d : Int)) = true := by
  induction l with
  | nil => rfl
  | cons a l ih => simp [onlyL, AV.only, ih]

theorem Pay.open_only (k : Nat → Bool) (x : Pay) : onlyL k x.open = true := by
  cases x with
  | nat n => simp only [Pay.open]; split <;> simp [onlyL, AV.only, onlyL_ints]
  | rnat n => simp [Pay.open, onlyL, AV.only, onlyL_ints]
  | _ => simp [Pay.open, onlyL, AV.only]

/-- What points to some objects alone stands wherever others lie. -/
theorem RL.only {φ' k vs as} (h : RL W φ w vs as) (hk : ∀ r, k r = true → φ' r = φ r) (hg : onlyL k as = true) : RL W φ' w vs as := by
  induction h with
  | nil => exact .nil
  | junk v _ ih => exact .junk v (ih (by simpa [onlyL, AV.only] using hg))
  | bool b _ ih => exact .bool b (ih (by simpa [onlyL, AV.only] using hg))
  | int k n _ ih => exact .int k n (ih (by simpa [onlyL, AV.only] using hg))
  | str s _ ih => exact .str s (ih (by simpa [onlyL, AV.only] using hg))
  | nilp _ ih => exact .nilp (ih (by simpa [onlyL, AV.only] using hg))
  | ref a _ ih => simp [onlyL, AV.only] at hg; exact .ref (by rw [hk _ hg.1]; exact a) (ih hg.2)
  | gref v a b _ ih => simp [onlyL, AV.only] at hg; exact .gref v a (by rw [hk _ hg.1]; exact b) (ih hg.2)
  | fref a b _ _ i1 i2 => simp [onlyL, AV.only] at hg; exact .fref a b (i1 hg.1) (i2 hg.2)
  | nils _ ih => exact .nils (ih (by simpa [onlyL, AV.only] using hg))
  | sl a b c _ ih => simp [onlyL, AV.only] at hg; exact .sl (by rw [hk _ hg.1]; exact a) b c (ih hg.2)
  | gsl v a b _ ih => simp [onlyL, AV.only] at hg; exact .gsl v a (by rw [hk _ hg.1]; exact b) (ih hg.2)
  | imm0 a c _ ih => exact .imm0 a c (ih (by simpa [onlyL, AV.only] using hg))
  | imm z a b _ _ i1 i2 => simp [onlyL, AV.only] at hg; exact .imm z a b (i1 hg.1) (i2 hg.2)
  | nilf _ ih => exact .nilf (ih (by simpa [onlyL, AV.only] using hg))
  | fn _ _ _ i1 i2 i3 => simp [onlyL, AV.only] at hg; exact .fn (i1 hg.1.1) (i2 hg.1.2) (i3 hg.2)
  | agg _ _ i1 i2 => simp [onlyL, AV.only] at hg; exact .agg (i1 hg.1) (i2 hg.2)
  | tup _ _ i1 i2 => simp [onlyL, AV.only] at hg; exact .tup (i1 hg.1) (i2 hg.2)
  | @opq x _ _ _ _ _ a _ _ e1 e2 i1 i2 => subst e2; simp [onlyL, AV.only, onlyL_append, onlyL_pads] at hg; exact .opq a (i1 (x.open_only _)) (i2 hg) e1 rfl

/-- What points to nothing of the call's own stands wherever that lies. -/
theorem RL.ground {φ' vs as} (h : RL W φ w vs as) (hg : groundL as = true) : RL W φ' w vs as := h.only (k := fun _ => false) (by simp) hg

theorem ck_ints (k : IntKind) (l : List Nat) : (l.map fun d : Nat => AV.int k (d : Int)).all AV.ck = true := by
  simp [AV.ck, AV.one]

theorem Pay.open_ck (x : Pay) : x.open.all AV.ck = true := by
  cases x with
  | nat n => simp only [Pay.open]; split <;> simp [AV.ck, AV.one]
  | _ => simp [Pay.open, AV.ck, AV.one]

/-- Cells hold one value each. -/
theorem RL.cells {vs as} (h : RL W φ w vs as) (hk : as.all AV.ck = true) : ∀ v ∈ vs, v.oneCell' = true := by
  induction h with
  | nil => intro v hv; simp at hv
  | @opq x us vs as _ _ a _ _ e1 e2 i1 i2 =>
    subst e1 e2
    simp only [List.all_cons, List.all_append, Bool.and_eq_true] at hk
    intro v hv
    rcases List.mem_append.1 hv with h | h
    · exact i1 x.open_ck v h
    · exact i2 hk.2.2 v h
  | ref _ _ ih | fref _ _ _ _ _ ih | sl _ _ _ _ ih | imm _ _ _ _ _ _ ih | fn _ _ _ _ _ ih | bool _ _ ih | int _ _ _ ih | str _ _ ih | nilp _ ih | nils _ ih | imm0 _ _ _ ih | nilf _ ih =>
    simp only [List.all_cons, Bool.and_eq_true] at hk
    intro v hv
    rcases List.mem_cons.1 hv with rfl | h
    · rfl
    · exact ih hk.2 v h
  | gref u o _ _ ih | gsl u o _ _ ih =>
    simp only [List.all_cons, Bool.and_eq_true] at hk
    intro v hv
    rcases List.mem_cons.1 hv with rfl | h
    · exact o
    · exact ih hk.2 v h
  | junk | agg | tup => simp [AV.ck, AV.one] at hk

end Go.Proofs.Ytlgimmafejbmgaa.AM
