/- The abstract machine: a region whose order is drawn. -/
import Derived.Test.YtlgimmafejbmgaaAm9
namespace Go.Proofs.Ytlgimmafejbmgaa.AM
set_option linter.all false
set_option autoImplicit true
set_option relaxedAutoImplicit true
open Go
section
variable {W : Nat → Prop} {X : Nat → Prop} {φ : Nat → Option (Option Nat)} {m : Nat → AObj} {s : St} {a : Act} {w w' : World} {P : Program} {T : Nat → Option TyD} {E : Env} {o : Oper}

theorem RL.used {vs as} (h : RL W φ w vs as) : ∀ v ∈ as, ∀ r, top v = some r → φ r ≠ none := by
  induction h with
  | nil => intro v hv; simp at hv
  | @opq x us vs as _ _ a b _ e1 e2 _ ih =>
    subst e2
    intro v hv r hr
    rcases List.mem_cons.1 hv with rfl | hv
    · simp [top] at hr
    · rcases List.mem_append.1 hv with hv | hv
      · rw [List.eq_of_mem_replicate hv] at hr; simp [top] at hr
      · exact ih v hv r hr
  | ref a _ ih =>
    intro v hv r hr
    rcases List.mem_cons.1 hv with rfl | hv
    · simp [top] at hr; subst hr; rw [a]; simp
    · exact ih v hv r hr
  | gref u o a _ ih =>
    intro v hv r hr
    rcases List.mem_cons.1 hv with rfl | hv
    · simp [top] at hr; subst hr; rw [a]; simp
    · exact ih v hv r hr
  | sl a _ _ _ ih =>
    intro v hv r hr
    rcases List.mem_cons.1 hv with rfl | hv
    · simp [top] at hr; subst hr; rw [a]; simp
    · exact ih v hv r hr
  | gsl u o a _ ih =>
    intro v hv r hr
    rcases List.mem_cons.1 hv with rfl | hv
    · simp [top] at hr; subst hr; rw [a]; simp
    · exact ih v hv r hr
  | junk _ _ ih | bool _ _ ih | int _ _ _ ih | str _ _ ih | nilp _ ih | fref _ _ _ _ _ ih | nils _ ih | imm0 _ _ _ ih | imm _ _ _ _ _ _ ih | nilf _ ih | fn _ _ _ _ _ ih | agg _ _ _ ih | tup _ _ _ ih =>
    intro v hv r hr
    rcases List.mem_cons.1 hv with rfl | hv
    · simp [top] at hr
    · exact ih v hv r hr

theorem RL.usedCells {vs as} (h : RL W φ w vs as) : ∀ v ∈ as.flatMap AV.cells, ∀ r, top v = some r → φ r ≠ none := by
  induction h with
  | nil => intro v hv; simp at hv
  | @opq x us vs as _ _ a b _ e1 e2 _ ih =>
    subst e2
    intro v hv r hr
    simp only [List.flatMap_cons, List.flatMap_append, List.mem_append] at hv
    rcases hv with hv | hv | hv
    · simp [AV.cells] at hv; subst hv; simp [top] at hr
    · obtain ⟨y, hy, hv⟩ := List.mem_flatMap.1 hv
      rw [List.eq_of_mem_replicate hy] at hv
      simp [AV.cells] at hv; subst hv; simp [top] at hr
    · exact ih v hv r hr
  | ref a _ ih | gref _ _ a _ ih | sl a _ _ _ ih | gsl _ _ a _ ih =>
    intro v hv r hr
    simp only [List.flatMap_cons, List.mem_append] at hv
    rcases hv with hv | hv
    · simp [AV.cells] at hv; subst hv; simp [top] at hr; subst hr; rw [a]; simp
    · exact ih v hv r hr
  | agg a _ _ ih =>
    intro v hv r hr
    simp only [List.flatMap_cons, List.mem_append] at hv
    rcases hv with hv | hv
    · exact a.used v hv r hr
    · exact ih v hv r hr
  | junk _ _ ih | bool _ _ ih | int _ _ _ ih | str _ _ ih | nilp _ ih | fref _ _ _ _ _ ih | nils _ ih | imm0 _ _ _ ih | imm _ _ _ _ _ _ ih | nilf _ ih | fn _ _ _ _ _ ih | tup _ _ _ ih =>
    intro v hv r hr
    simp only [List.flatMap_cons, List.mem_append] at hv
    rcases hv with hv | hv
    · simp [AV.cells] at hv; subst hv; simp [top] at hr
    · exact ih v hv r hr

theorem Rel.used (R : Rel X φ s a w) (x : Operand) : ∀ r ∈ ids (aev s x), s.m r ≠ .unused := by
  intro r hr hu
  have hn := R.mem.unused hu
  have hx := R.ev x
  unfold ids at hr
  split at hr
  · rename_i f fs cs he
    rw [he] at hx
    obtain ⟨fs', cs', _, h1, h2⟩ := hx.fn_inv
    obtain ⟨v, hv, ht⟩ := List.mem_filterMap.1 hr
    exact (h1.app h2).usedCells v hv r ht hn
  · obtain ⟨v, hv, ht⟩ := List.mem_filterMap.1 hr
    exact hx.usedCells v (by simpa using hv) r ht hn

/-- What two states have in common for an operation. -/
structure Alike (s s2 : St) (o : Oper) : Prop where
  ev : ∀ x ∈ o.op.operands, aev s2 x = aev s x
  mem : looks o.op = true → ∀ x ∈ o.op.operands, ∀ r ∈ ids (aev s x), ∀ cs, objCells (s.m r) = some cs → objCells (s2.m r) = some cs
  al : ∀ x ∈ o.op.operands, ∀ r ∈ ids (aev s x), AM.alive s.m r → AM.alive s2.m r

theorem ids_ref {r off} : r ∈ ids (.ref r off) := by simp [ids, AV.cells, top]
theorem ids_sl {r off n sz} : r ∈ ids (.sl r off n sz) := by simp [ids, AV.cells, top]

theorem lenOp_alike {s2 : St} {x : AV} {p n} (h : lenOp s.m x = some (p, n)) (hp : p) (hm : ∀ r ∈ ids x, ∀ cs, objCells (s.m r) = some cs → objCells (s2.m r) = some cs) : ∃ p2, lenOp s2.m x = some (p2, n) ∧ p2 := by
  cases x <;> simp only [lenOp, Option.some.injEq, Prod.mk.injEq, reduceCtorEq] at h ⊢
  · obtain ⟨rfl, rfl⟩ := h; exact ⟨True, ⟨rfl, rfl⟩, trivial⟩
  · obtain ⟨rfl, rfl⟩ := h
    refine ⟨_, ⟨rfl, rfl⟩, ?_⟩
    unfold AM.alive at *
    obtain ⟨cs, hc⟩ := Option.isSome_iff_exists.1 hp
    rw [hm _ ids_sl cs hc]; rfl
  · obtain ⟨rfl, rfl⟩ := h; exact ⟨True, ⟨rfl, rfl⟩, trivial⟩
  · exact ⟨p, h, hp⟩

theorem alive_alike {s2 : St} {r} (h : AM.alive s.m r) (hm : ∀ cs, objCells (s.m r) = some cs → objCells (s2.m r) = some cs) : AM.alive s2.m r := by
  unfold AM.alive at *
  obtain ⟨cs, hc⟩ := Option.isSome_iff_exists.1 h
  rw [hm cs hc]; rfl

theorem indexAddr_alike {s2 : St} {x : AV} {d i p v} (h : indexAddr T s.m x d i = some (p, v)) (hp : p) (hm : ∀ r ∈ ids x, AM.alive s.m r → AM.alive s2.m r) : ∃ p2, indexAddr T s2.m x d i = some (p2, v) ∧ p2 := by
  unfold indexAddr at h ⊢
  split at h
  · simp only [Option.map_eq_some_iff, Prod.mk.injEq] at h ⊢
    obtain ⟨ed, h1, rfl, rfl⟩ := h
    exact ⟨_, ⟨ed, h1, rfl, rfl⟩, hp.1, hm _ ids_ref hp.2⟩
  · exact ⟨p, h, hp⟩
  · simp only [Option.map_eq_some_iff, Prod.mk.injEq] at h ⊢
    obtain ⟨ed, h1, rfl, rfl⟩ := h
    exact ⟨_, ⟨ed, h1, rfl, rfl⟩, hp.1, hp.2.1, hm _ ids_sl hp.2.2⟩
  · exact ⟨p, h, hp⟩
  · simp at h

theorem sliceOp_alike {s2 : St} {x : AV} {d lo hi mx p v} (h : sliceOp T s.m x d lo hi mx = some (p, v)) (hp : p) (hm : ∀ r ∈ ids x, ∀ cs, objCells (s.m r) = some cs → objCells (s2.m r) = some cs) : ∃ p2, sliceOp T s2.m x d lo hi mx = some (p2, v) ∧ p2 := by
  unfold sliceOp at h ⊢
  split at h
  · exact ⟨p, h, hp⟩
  · simp only [Option.bind_eq_some_iff, Option.map_eq_some_iff, Prod.mk.injEq] at h ⊢
    obtain ⟨ed, h1, l, h2, hh, h3, q, h4, rfl, rfl⟩ := h
    exact ⟨_, ⟨ed, h1, l, h2, hh, h3, q, h4, rfl, rfl⟩, hp.1, alive_alike hp.2.1 (hm _ ids_sl), hp.2.2⟩
  · exact ⟨p, h, hp⟩
  · simp at h

theorem peek_alike {s2 : St} {x : AV} {z} (h : peek s.m x = some z) (hm : ∀ r ∈ ids x, ∀ cs, objCells (s.m r) = some cs → objCells (s2.m r) = some cs) : peek s2.m x = some z := by
  cases x <;> simp only [peek, Option.map_eq_some_iff, reduceCtorEq] at h ⊢
  · obtain ⟨cs, h1, h2⟩ := h; exact ⟨cs, hm _ ids_ref cs h1, h2⟩
  · exact h

theorem pev_alike {s2 : St} (A : Alike s s2 o) {p v} (h : pev T s o = some (p, v)) (hp : p) : ∃ p2, pev T s2 o = some (p2, v) ∧ p2 := by
  have op1 : ∀ {x}, x ∈ o.op.operands → aev s2 x = aev s x := fun {x} => A.ev x
  unfold pev at h ⊢
  split at h
  case h_1 x ho => rw [op1 (by simp [ho, Op.operands])]; exact ⟨p, h, hp⟩
  case h_2 x ho => rw [op1 (by simp [ho, Op.operands])]; exact ⟨p, h, hp⟩
  case h_3 c x y ho => rw [op1 (x := c) (by simp [ho, Op.operands]), op1 (x := x) (by simp [ho, Op.operands]), op1 (x := y) (by simp [ho, Op.operands])]; exact ⟨p, h, hp⟩
  case h_4 t ps ho =>
    have e : (ps.toList.map fun x => (x.1, aev s2 x.2)) = (ps.toList.map fun x => (x.1, aev s x.2)) := List.map_congr_left fun x hx => by
      rw [op1 (by simp only [ho, Op.operands, List.mem_toArray]; simp; exact ⟨x.1, by simpa using hx⟩)]
    rw [e]; exact ⟨p, h, hp⟩
  case h_5 t x ho =>
    rw [op1 (x := x) (by simp [ho, Op.operands])]
    simp only [Option.bind_eq_some_iff, Option.map_eq_some_iff, Prod.exists] at h ⊢
    obtain ⟨d, hT, cs, off, h1, h2⟩ := h
    exact ⟨p, ⟨d, hT, cs, off, peek_alike h1 (A.mem (by simp [ho, looks]) x (by simp [ho, Op.operands])), h2⟩, hp⟩
  case h_6 x ho =>
    rw [op1 (x := x) (by simp [ho, Op.operands])]
    have hm := A.mem (by simp [ho, looks]) x (by simp [ho, Op.operands])
    split at h
    · exact ⟨p, h, hp⟩
    · rename_i r off he
      rw [he] at hm
      simp only [Option.some.injEq, Prod.mk.injEq] at h ⊢
      obtain ⟨rfl, rfl⟩ := h
      exact ⟨_, ⟨rfl, rfl⟩, alive_alike hp (hm _ ids_ref)⟩
    · exact ⟨p, h, hp⟩
    · simp at h
  case h_7 op t x y t' ho => rw [op1 (x := x) (by simp [ho, Op.operands]), op1 (x := y) (by simp [ho, Op.operands])]; exact ⟨p, h, hp⟩
  case h_8 op t x ho => rw [op1 (x := x) (by simp [ho, Op.operands])]; exact ⟨p, h, hp⟩
  case h_9 t t' x ho =>
    rw [op1 (x := x) (by simp [ho, Op.operands])]
    have hm := A.mem (by simp [ho, looks]) x (by simp [ho, Op.operands])
    simp only [Option.bind_eq_some_iff] at h ⊢
    obtain ⟨d, hT, d', hT', h⟩ := h
    refine ⟨p, ⟨d, hT, d', hT', ?_⟩, hp⟩
    cases he : aev s x <;> rw [he] at h hm <;> try exact h
    rename_i r off n k
    simp only [strM] at h ⊢
    split at h
    · split at h
      · rename_i hu
        simp only [Option.map_eq_some_iff] at h
        obtain ⟨cs, h1, h2⟩ := h
        rw [if_pos hu, hm r ids_sl cs h1]
        simp only [Option.map_some, Option.some.injEq]; exact h2
      · simp at h
    · simp at h
  case h_10 f fs cs ho =>
    have e : ∀ l : Array Operand, (∀ x ∈ l, x ∈ o.op.operands) → l.toList.map (aev s2) = l.toList.map (aev s) := fun l hl => List.map_congr_left fun x hx => op1 (hl x (by simpa using hx))
    rw [e fs (fun x hx => by simp [ho, Op.operands, hx]), e cs (fun x hx => by simp [ho, Op.operands, hx])]; exact ⟨p, h, hp⟩
  case h_11 t x lo hi mx ho =>
    have e : ∀ l : Option Operand, (∀ x, l = some x → x ∈ o.op.operands) → l.map (aev s2) = l.map (aev s) := fun l hl => by
      cases l with
      | none => rfl
      | some x => simp [op1 (hl x rfl)]
    rw [op1 (x := x) (by simp [ho, Op.operands]), e lo (fun x hx => by simp [ho, Op.operands, hx]), e hi (fun x hx => by simp [ho, Op.operands, hx]), e mx (fun x hx => by simp [ho, Op.operands, hx])]
    split at h
    · simp at h
    · rename_i hh
      rw [if_neg hh]
      simp only [Option.bind_eq_some_iff] at h ⊢
      obtain ⟨d, hT, h⟩ := h
      obtain ⟨p2, h2, h3⟩ := sliceOp_alike h hp (A.mem (by simp [ho, looks]) x (by simp [ho, Op.operands]))
      exact ⟨p2, ⟨d, hT, h2⟩, h3⟩
  case h_12 t x f ho =>
    rw [op1 (x := x) (by simp [ho, Op.operands])]
    have hm := A.mem (by simp [ho, looks]) x (by simp [ho, Op.operands])
    simp only [Option.bind_eq_some_iff, Prod.exists] at h ⊢
    obtain ⟨off, d', hf, h⟩ := h
    split at h
    · rename_i r o' he
      rw [he] at hm
      simp only [Option.some.injEq, Prod.mk.injEq] at h
      obtain ⟨rfl, rfl⟩ := h
      exact ⟨_, ⟨off, d', hf, rfl⟩, alive_alike hp (hm _ ids_ref)⟩
    · rename_i cs he
      exact ⟨p, ⟨off, d', hf, h⟩, hp⟩
    · simp at h
  case h_13 t x f ho => rw [op1 (x := x) (by simp [ho, Op.operands])]; exact ⟨p, h, hp⟩
  case h_14 t x i ho =>
    rw [op1 (x := x) (by simp [ho, Op.operands]), op1 (x := i) (by simp [ho, Op.operands])]
    have hm := A.al x (by simp [ho, Op.operands])
    simp only [Option.bind_eq_some_iff] at h ⊢
    obtain ⟨d, hT, h⟩ := h
    split at h
    · rename_i k j he
      obtain ⟨p2, h2, h3⟩ := indexAddr_alike h hp hm
      exact ⟨p2, ⟨d, hT, h2⟩, h3⟩
    · simp at h
  case h_15 t x i ho => rw [op1 (x := x) (by simp [ho, Op.operands]), op1 (x := i) (by simp [ho, Op.operands])]; exact ⟨p, h, hp⟩
  case h_16 x i ho => rw [op1 (x := x) (by simp [ho, Op.operands])]; exact ⟨p, h, hp⟩
  case h_17 c ho =>
    split at h
    · rename_i x hc hx
      have hmem : x ∈ o.op.operands := by
        have ha : c.args = #[x] := by apply Array.ext'; simpa using hx
        simp [ho, Op.operands, Call.operands, hc, ha]
      rw [op1 hmem]
      have hm := A.mem (by simp [ho, looks]) x hmem
      split at h
      · rename_i t hts
        simp only [Option.bind_eq_some_iff] at h ⊢
        obtain ⟨d, hT, h⟩ := h
        split at h
        · exact ⟨p, ⟨d, hT, by simp [*] at h ⊢; try exact h⟩, hp⟩
        · rename_i e hk
          simp only [Option.map_eq_some_iff, Prod.exists, Prod.mk.injEq] at h
          obtain ⟨q, n, h1, rfl, rfl⟩ := h
          obtain ⟨p2, h2, h3⟩ := lenOp_alike h1 hp hm
          exact ⟨p2, ⟨d, hT, by simp [hk, h2]⟩, h3⟩
        · simp at h
      · simp at h
    · simp at h
  case h_18 => simp at h
end
end Go.Proofs.Ytlgimmafejbmgaa.AM
