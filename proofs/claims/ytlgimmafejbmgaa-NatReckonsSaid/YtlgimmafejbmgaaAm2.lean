/- The abstract machine: what one operation does is sound (operations that change no memory). -/
import Derived.Test.YtlgimmafejbmgaaAm1
import Derived.DataBytes
namespace Go.Proofs.Ytlgimmafejbmgaa.AM
set_option linter.all false
set_option autoImplicit true
set_option relaxedAutoImplicit true
open Go

def TK.ok : TK → TypeDesc → Prop
  | .struct fs, .struct gs => gs.toList.map (fun f => (f.offset, f.type)) = fs
  | .array n e, .array n' e' => n = n' ∧ e = e'
  | .slice e, .slice e' => e = e'
  | .string, .string => True
  | .int k, .int k' => k = k'
  | .bool, .bool => True
  | .func, .func _ _ _ => True
  | .other, d => d.isRow = false
  | _, _ => False

structure TyD.ok (P : Program) (t : Nat) (d : TyD) (u : TypeDesc) (i : TypeInfo) (z : Value) : Prop where
  un : P.underlying t = some u
  k : d.k.ok u
  info : P.info? t = some i
  size : i.size = d.sz
  bytes : i.bytes = d.bytes
  zero : i.zero = some z
  rep : ∀ W φ w, RL W φ w z.cells.toList d.zero
  pos : 0 < d.sz
  sz1 : d.row = false → d.sz = 1
  len : z.cells.size = d.sz
  ck : d.zero.all AV.ck = true
  flds : (match u with | .struct gs => gs.toList.all fun g => (P.info? g.type).isSome | _ => true) = true

def TyOk (P : Program) (T : Nat → Option TyD) : Prop := ∀ t d, T t = some d → ∃ u i z, TyD.ok P t d u i z

def Wr (X : Nat → Prop) (φ : Nat → Option (Option Nat)) (m : Nat → AObj) : Nat → Prop := fun b => X b ∨ ∃ r cs, φ r = some (some b) ∧ m r = .live cs

def ObjAt (W : Nat → Prop) (φ : Nat → Option (Option Nat)) (w : World) (b : Nat) (cs : List AV) : Prop :=
  ∃ c e, w.heap[b]? = some (.cells c e (0, 0)) ∧ cs.length ≤ c.size ∧ RL W φ w (c.toList.take cs.length) cs ∧ cs.all AV.ck = true

def ObjOk (W : Nat → Prop) (φ : Nat → Option (Option Nat)) (w : World) (x : Option (Option Nat)) : AObj → Prop
  | .unused => x = none
  | .gone => x = some none
  | .live cs => ∃ b, x = some (some b) ∧ ObjAt W φ w b cs
  | .ro cs => ∃ b, x = some (some b) ∧ ObjAt W φ w b cs

structure RelM (X : Nat → Prop) (φ : Nat → Option (Option Nat)) (m : Nat → AObj) (w : World) : Prop where
  obj : ∀ r, ObjOk (Wr X φ m) φ w (φ r) (m r)
  inj : ∀ r r' b, φ r = some (some b) → φ r' = some (some b) → r = r'
  ext : ∀ r b, φ r = some (some b) → ¬ X b
  xlt : ∀ b, X b → b < w.heap.size

structure Rel (X : Nat → Prop) (φ : Nat → Option (Option Nat)) (s : St) (a : Act) (w : World) : Prop where
  tm : ∀ i, s.t i ≠ .junk → ∃ v, a.tmps[i]? = some v ∧ RL (Wr X φ s.m) φ w [v] [s.t i]
  df : a.defers = []
  n : a.tmps.size = s.n
  mem : RelM X φ s.m w

/-- Nothing but the call's own memory changes. -/
structure Fr (φ : Nat → Option (Option Nat)) (w : World) (φ' : Nat → Option (Option Nat)) (w' : World) : Prop where
  os : w'.os = w.os
  tape : w'.tape = w.tape
  output : w'.output = w.output
  size : w.heap.size ≤ w'.heap.size
  keep : ∀ b, b < w.heap.size → (∀ r, φ r ≠ some (some b)) → w'.heap[b]? = w.heap[b]?
  new : ∀ r b, φ' r = some (some b) → w.heap.size ≤ b ∨ ∃ r0, φ r0 = some (some b)

structure Stp (X : Nat → Prop) (φ : Nat → Option (Option Nat)) (m : Nat → AObj) (w : World) (φ' : Nat → Option (Option Nat)) (m' : Nat → AObj) (w' : World) : Prop where
  ext : Ext (Wr X φ m) φ w (Wr X φ' m') φ' w'
  fr : Fr φ w φ' w'

theorem Ext.trans {W φ w W1 φ1 w1 W2 φ2 w2} (h : Ext W φ w W1 φ1 w1) (k : Ext W1 φ1 w1 W2 φ2 w2) (hs : w.heap.size ≤ w1.heap.size) : Ext W φ w W2 φ2 w2 := by
  refine ⟨fun r x hx => ?_, fun b hb hW => ?_, fun b hb hW => ?_, fun r b c e fr h1 h2 h3 => ?_⟩
  · rcases h.phi r x hx with h1 | h1
    · exact k.phi r x h1
    · rcases k.phi r _ h1 with h2 | h2 <;> exact .inr h2
  · rw [k.old b (by omega) (fun hW1 => hW (h.wr b hb hW1)), h.old b hb hW]
  · exact h.wr b hb (k.wr b (by omega) hW)
  · have hφ1 : φ1 r = some (some b) := by
      rcases h.phi r _ h1 with h4 | h4
      · exact h4
      · rcases k.phi r _ h4 with h5 | h5 <;> rw [h5] at h2 <;> simp at h2
    obtain ⟨c1, e1, f1, hc1, hs1⟩ := h.size r b c e fr h1 hφ1 h3
    obtain ⟨c2, e2, f2, hc2, hs2⟩ := k.size r b c1 e1 f1 hφ1 h2 hc1
    exact ⟨c2, e2, f2, hc2, by omega⟩

theorem Fr.trans {φ w φ1 w1 φ2 w2} (h : Fr φ w φ1 w1) (k : Fr φ1 w1 φ2 w2) : Fr φ w φ2 w2 := by
  refine ⟨k.os.trans h.os, k.tape.trans h.tape, k.output.trans h.output, Nat.le_trans h.size k.size, fun b hb hr => ?_, fun r b hr => ?_⟩
  · rw [k.keep b (by have := h.size; omega) (fun r hr1 => ?_), h.keep b hb hr]
    rcases h.new r b hr1 with h1 | ⟨r0, h1⟩
    · omega
    · exact hr r0 h1
  · rcases k.new r b hr with h1 | ⟨r0, h1⟩
    · left; have := h.size; omega
    · exact h.new r0 b h1

theorem Stp.trans {X φ m w φ1 m1 w1 φ2 m2 w2} (h : Stp X φ m w φ1 m1 w1) (k : Stp X φ1 m1 w1 φ2 m2 w2) : Stp X φ m w φ2 m2 w2 :=
  ⟨h.ext.trans k.ext h.fr.size, h.fr.trans k.fr⟩

theorem Ext.refl (W φ w) : Ext W φ w W φ w := ⟨fun _ _ h => .inl h, fun _ _ _ => rfl, fun _ _ h => h, fun _ _ c e fr _ _ h => ⟨c, e, fr, h, Nat.le_refl _⟩⟩
theorem Fr.refl (φ w) : Fr φ w φ w := ⟨rfl, rfl, rfl, Nat.le_refl _, fun _ _ _ => rfl, fun r _ h => .inr ⟨r, h⟩⟩
theorem Stp.refl (X φ m w) : Stp X φ m w φ m w := ⟨.refl _ _ _, .refl _ _⟩

section
variable {X : Nat → Prop} {φ : Nat → Option (Option Nat)} {s : St} {a : Act} {w : World} {P : Program} {T : Nat → Option TyD}

theorem Rel.put {φ' m' w'} {v : Value} {u : AV} {dst : Option Nat} (R : Rel X φ s a w) (hst : Stp X φ s.m w φ' m' w') (hm : RelM X φ' m' w') (hv : RL (Wr X φ' m') φ' w' [v] [u])
    (hd : ∀ d, dst = some d → d < s.n) : Rel X φ' { (s.put dst u) with m := m' } (a.put dst v) w' := by
  refine ⟨fun i hi => ?_, ?_, ?_, hm⟩
  · cases dst with
    | none => obtain ⟨v', h1, h2⟩ := R.tm i hi; exact ⟨v', h1, h2.mono hst.ext⟩
    | some d =>
      simp only [St.put, upd] at hi ⊢
      by_cases e : i = d
      · subst e
        have := hd i rfl
        refine ⟨v, ?_, by simpa using hv⟩
        simp [Act.put, R.n, this]
      · rw [if_neg e] at hi ⊢
        obtain ⟨v', h1, h2⟩ := R.tm i hi
        refine ⟨v', ?_, h2.mono hst.ext⟩
        simp [Act.put, Ne.symm e, h1]
  · cases dst <;> exact R.df
  · cases dst <;> simp [Act.put, St.put, R.n]

theorem RL.ofV {W φ w} (v : Value) : RL W φ w [v] [ofV v] := by
  unfold AM.ofV
  split
  · exact .bool _ .nil
  · exact .int _ _ .nil
  · exact .str _ .nil
  · exact .nilp .nil
  · exact .nils .nil
  · exact .nilf .nil
  · exact .junk _ .nil

theorem Rel.ev (R : Rel X φ s a w) (x : Operand) : RL (Wr X φ s.m) φ w [a.eval x] [aev s x] := by
  cases x with
  | tmp i =>
    by_cases h : s.t i = .junk
    · simp only [aev, h]; exact .junk _ .nil
    · obtain ⟨v, h1, h2⟩ := R.tm i h
      simp only [aev, Act.eval, Array.getD_eq_getD_getElem?, h1, Option.getD_some]
      exact h2
  | const v => exact RL.ofV v
  | func f => exact .fn .nil .nil .nil
  | global g => exact .junk _ .nil

theorem Rel.evL (R : Rel X φ s a w) (l : List Operand) : RL (Wr X φ s.m) φ w (l.map a.eval) (l.map (aev s)) := by
  induction l with
  | nil => exact .nil
  | cons x l ih => exact (R.ev x).cons ih
end

/-! What a value is, by what stands for it. -/
section
variable {W : Nat → Prop} {φ : Nat → Option (Option Nat)} {w : World}
theorem RL.bool_inv {v b} (h : RL W φ w [v] [.bool b]) : v = .bool b := by cases h; rfl
theorem RL.int_inv {v k n} (h : RL W φ w [v] [.int k n]) : v = .int k n := by cases h; rfl
theorem RL.str_inv {v s} (h : RL W φ w [v] [.str s]) : v = .string s := by cases h; rfl
theorem RL.nils_inv {v} (h : RL W φ w [v] [.nils]) : v = .slice none 0 0 := by cases h; rfl
theorem RL.agg_inv {v ds} (h : RL W φ w [v] [.agg ds]) : ∃ cs, v = .agg cs ∧ RL W φ w cs.toList ds := by cases h with | agg h _ => exact ⟨_, rfl, by simpa using h⟩
theorem RL.tup_inv {v ds} (h : RL W φ w [v] [.tup ds]) : ∃ cs, v = .tuple cs ∧ RL W φ w cs.toList ds := by cases h with | tup h _ => exact ⟨_, rfl, by simpa using h⟩
theorem RL.fn_inv {v f gs ds} (h : RL W φ w [v] [.fn f gs ds]) : ∃ fs cs, v = .func (.func f) fs cs ∧ RL W φ w fs.toList gs ∧ RL W φ w cs.toList ds := by
  cases h with | fn h h' _ => exact ⟨_, _, rfl, by simpa using h, by simpa using h'⟩
theorem RL.ref_inv {v r off b} (h : RL W φ w [v] [.ref r off]) (hr : φ r = some (some b)) : v = .pointer (some ⟨b, off, none⟩) := by
  cases h with
  | ref h _ => rw [hr] at h; simp at h; rw [h]
  | gref _ _ h => rw [hr] at h; simp at h
theorem RL.fref_inv {v cs} (h : RL W φ w [v] [.fref cs]) : ∃ b o us, v = .pointer (some ⟨b, o, none⟩) ∧ (us ≠ [] → ¬ W b) ∧ (∀ j u, us[j]? = some u → w.cell? ⟨b, o + j, none⟩ = some u) ∧ RL W φ w us cs := by
  cases h with | fref a b c _ => exact ⟨_, _, _, rfl, a, b, c⟩
theorem RL.sl_inv {v r off n sz b} (h : RL W φ w [v] [.sl r off n sz]) (hr : φ r = some (some b)) :
    ∃ cap, v = .slice (some ⟨b, off, none⟩) n cap ∧ n ≤ cap ∧ ∃ c e fr, w.heap[b]? = some (.cells c e fr) ∧ off + cap * sz ≤ c.size := by
  cases h with
  | sl h h1 h2 _ => rw [hr] at h; simp at h; subst h; exact ⟨_, rfl, h1, h2⟩
  | gsl _ _ h => rw [hr] at h; simp at h
theorem RL.imm_inv {v n cs} (h : RL W φ w [v] [.imm n cs]) : (∃ a cap, v = .slice a 0 cap ∧ n = 0 ∧ cs = []) ∨
    ∃ b o cap us, v = .slice (some ⟨b, o, none⟩) n cap ∧ n ≤ cap ∧ (us ≠ [] → ¬ W b) ∧ (∀ j u, us[j]? = some u → w.cell? ⟨b, o + j, none⟩ = some u) ∧ RL W φ w us cs := by
  cases h with
  | imm0 a c _ => exact .inl ⟨a, c, rfl, rfl, rfl⟩
  | imm z a b c _ => exact .inr ⟨_, _, _, _, rfl, z, a, b, c⟩
/-- The cells of a value. -/
theorem RL.cellsV {v d} (h : RL W φ w [v] [d]) (hd : d.cells.all AV.ck = true) : RL W φ w v.cells.toList d.cells := by
  cases h with
  | agg h _ => simpa [AV.cells, Value.cells] using h
  | junk => simp [AV.cells, AV.ck, AV.one] at hd
  | tup => simp [AV.cells, AV.ck, AV.one] at hd
  | gref v o h _ => cases v <;> first | (simp [Value.oneCell'] at o; done) | exact .gref _ o h .nil
  | gsl v o h _ => cases v <;> first | (simp [Value.oneCell'] at o; done) | exact .gsl _ o h .nil
  | @opq x us vs as _ _ h1 h2 h3 e1 e2 =>
    have hx : x.width = 1 := by
      have := congrArg List.length e2
      have := x.width_pos
      simp at *; omega
    have hus : us = [v] := by
      have := congrArg List.length e1
      cases us with
      | nil => simp [hx] at h1
      | cons u us => cases us with
        | nil => simp at e1; rw [e1.1]
        | cons => simp at this
    cases x <;> simp [Pay.width] at hx
    subst hus
    have hc : v.cells.toList = [v] := by
      rcases RL.imm_inv h2 with ⟨_, _, rfl, _⟩ | ⟨_, _, _, _, rfl, _⟩ <;> rfl
    rw [hc]
    exact .opq h1 h2 h3 e1 e2
  | bool b t => exact .bool b .nil
  | int k n t => exact .int k n .nil
  | str s t => exact .str s .nil
  | nilp t => exact .nilp .nil
  | ref x t => exact .ref x .nil
  | fref x y z t => exact .fref x y z .nil
  | nils t => exact .nils .nil
  | sl x y z t => exact .sl x y z .nil
  | imm0 x y t => exact .imm0 x y .nil
  | imm q x y z t => exact .imm q x y z .nil
  | nilf t => exact .nilf .nil
  | fn x y t => exact .fn x y .nil
end
end Go.Proofs.Ytlgimmafejbmgaa.AM
