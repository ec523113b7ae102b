/- The abstract machine: an operation that changes no memory yields what pev says. -/
import Derived.Test.YtlgimmafejbmgaaAm3
import Derived.Laws.Small
import Derived.Lib.LazyBuf
import Derived.Laws.Cover3
import Derived.Lib.SliceRun
namespace Go.Proofs.Ytlgimmafejbmgaa.AM
set_option linter.all false
set_option autoImplicit true
set_option relaxedAutoImplicit true
open Go
section
variable {W : Nat → Prop} {X : Nat → Prop} {φ : Nat → Option (Option Nat)} {s : St} {a : Act} {w : World} {P : Program} {T : Nat → Option TyD}

theorem intOp_sound {op k x y p v} (h : intOp op k x y = some (p, v)) (hp : p) (t : TypeId) :
    ∃ u, (Go.binOp op t (.int k x) (.int k y)).run P w = .ok u w ∧ RL W φ w [u] [v] := by
  cases op <;> simp only [intOp, Option.some.injEq, Prod.mk.injEq, reduceCtorEq] at h <;> obtain ⟨rfl, rfl⟩ := h
  case quo | rem => simp [Go.binOp, Op.intDiv, hp]; exact .int _ _ .nil
  all_goals (simp [Go.binOp, Op.intArith, Op.intBits, Op.intCmp]; first | exact .bool _ .nil | exact .int _ _ .nil)

theorem shiftOp_sound {op k k' x y p v} (h : shiftOp op k x y = some (p, v)) (hp : p) (t : TypeId) :
    ∃ u, (Go.binOp op t (.int k x) (.int k' y)).run P w = .ok u w ∧ RL W φ w [u] [v] := by
  cases op <;> simp only [shiftOp, Option.some.injEq, Prod.mk.injEq, reduceCtorEq] at h <;> obtain ⟨rfl, rfl⟩ := h <;>
    (have : ¬ y < 0 := by omega
     simp [Go.binOp, Op.shift, this]; exact .int _ _ .nil)

theorem strOp_sound {op x y p v} (h : strOp op x y = some (p, v)) (hp : p) (t : TypeId) :
    ∃ u, (Go.binOp op t (.string x) (.string y)).run P w = .ok u w ∧ RL W φ w [u] [v] := by
  cases op <;> simp only [strOp, Option.some.injEq, Prod.mk.injEq, reduceCtorEq] at h <;> obtain ⟨rfl, rfl⟩ := h
  · have : ¬ (9223372036854775807 : Int) < (x.size : Int) + (y.size : Int) := by omega
    simp [Go.binOp, Op.stringOp, this]
    exact .str _ .nil
  · simp [Go.binOp, Op.stringOp]; exact .bool _ .nil
  · simp [Go.binOp, Op.stringOp]; exact .bool _ .nil

theorem isNil_sound {x v p b} (h : isNil x = some (p, b)) (hp : p) (hx : RL W φ w [v] [x]) : ∃ ad n c, v = .slice ad n c ∧ ad.isNone = b := by
  cases x <;> simp only [isNil, Option.some.injEq, Prod.mk.injEq, reduceCtorEq] at h <;> obtain ⟨rfl, rfl⟩ := h
  · exact ⟨_, _, _, hx.nils_inv, rfl⟩
  · rcases hx.imm_inv with ⟨_, _, _, rfl, _⟩ | ⟨_, _, _, _, rfl, _⟩
    · exact absurd rfl hp
    · exact ⟨_, _, _, rfl, rfl⟩

theorem eqGuard_pure {op t x y} {u v : Value} (h : ∀ cs, u ≠ .agg cs) (h' : u ≠ .nilIface) : (eqGuard op t x y u v).run P w = .ok () w := by
  unfold eqGuard
  cases op <;> simp <;> cases u <;> simp_all

theorem binOp_sound (HT : TyOk P T) {op t u v x y p z} (h : binOp (T t) op x y = some (p, z)) (hp : p) (hu : RL W φ w [u] [x]) (hv : RL W φ w [v] [y]) (xo yo : Operand) :
    ∃ r, (do eqGuard op t xo yo u v; Go.binOp op t u v : Sem Value).run P w = .ok r w ∧ RL W φ w [r] [z] := by
  unfold binOp at h
  split at h
  · rename_i k a k' b
    rw [hu.int_inv, hv.int_inv]
    rw [Sem.run_bind, eqGuard_pure (by simp) (by simp), Result.andThen_ok]
    split at h
    · exact shiftOp_sound h hp t
    · exact shiftOp_sound h hp t
    · split at h
      · rename_i e; subst e; exact intOp_sound h hp t
      · simp at h
  · rw [hu.str_inv, hv.str_inv]
    rw [Sem.run_bind, eqGuard_pure (by simp) (by simp), Result.andThen_ok]
    exact strOp_sound h hp t
  · rw [hu.bool_inv, hv.bool_inv]
    rw [Sem.run_bind, eqGuard_pure (by simp) (by simp), Result.andThen_ok]
    split at h
    · rename_i h1
      cases hT : T t with
      | none => simp [hT] at h1
      | some d =>
        rw [hT] at h1; simp at h1
        obtain ⟨u', i, z', ht⟩ := HT _ _ hT
        simp only [Option.some.injEq, Prod.mk.injEq] at h; obtain ⟨rfl, rfl⟩ := h
        rw [run_eql_bool w t _ _ (ht.boolT h1 ▸ ht.un)]
        exact ⟨_, rfl, .bool _ .nil⟩
    · rename_i h1
      cases hT : T t with
      | none => simp [hT] at h1
      | some d =>
        rw [hT] at h1; simp at h1
        obtain ⟨u', i, z', ht⟩ := HT _ _ hT
        simp only [Option.some.injEq, Prod.mk.injEq] at h; obtain ⟨rfl, rfl⟩ := h
        rw [run_neq_bool w t _ _ (ht.boolT h1 ▸ ht.un)]
        exact ⟨_, rfl, .bool _ .nil⟩
    · simp at h
  · rw [hv.nils_inv]
    split at h
    all_goals
      first
      | (simp at h; done)
      | skip
    all_goals
      rename_i e h1
      cases hT : T t with
      | none => simp [hT] at h1
      | some d =>
        rw [hT] at h1; simp at h1
        obtain ⟨u', i, z', ht⟩ := HT _ _ hT
        have hs := ht.slice h1
        simp only [Option.map_eq_some_iff, Prod.exists] at h
        obtain ⟨q, b, h2, h3⟩ := h
        simp only [Prod.mk.injEq] at h3
        obtain ⟨rfl, rfl⟩ := h3
        obtain ⟨ad, n, c, rfl, rfl⟩ := isNil_sound h2 hp hu
        rw [Sem.run_bind, eqGuard_pure (by simp) (by simp), Result.andThen_ok]
        first
        | (rw [Lib.run_eql_slice_nil w t e ad n c 0 0 (hs ▸ ht.un)]; exact ⟨_, rfl, .bool _ .nil⟩)
        | (rw [Go.run_neq_slice_nil w t e ad n c (hs ▸ ht.un)]; exact ⟨_, rfl, .bool _ .nil⟩)
  · simp at h

theorem unOp_sound {op u x p z} (h : unOp op x = some (p, z)) (hu : RL W φ w [u] [x]) : ∃ r, (Op.unary op u).run P w = .ok r w ∧ RL W φ w [r] [z] := by
  unfold unOp at h
  split at h <;> simp only [Option.some.injEq, Prod.mk.injEq, reduceCtorEq] at h
  · obtain ⟨rfl, rfl⟩ := h
    rw [hu.int_inv]
    simp [Op.unary, Op.intArith]; exact .int _ _ .nil
  · obtain ⟨rfl, rfl⟩ := h
    rw [hu.bool_inv]
    simp [Op.unary]; exact .bool _ .nil

theorem convert_sound {t t' d d' u i z u' i' z'} (h1 : TyD.ok P t d u i z) (h2 : TyD.ok P t' d' u' i' z') {v x p r} (h : convert d d' x = some (p, r)) (hp : p) (hv : RL W φ w [v] [x]) :
    ∃ y, (Go.convert t t' v).run P w = .ok y w ∧ RL W φ w [y] [r] := by
  unfold AM.convert at h
  split at h
  · rename_i k q n hk
    simp only [Option.some.injEq, Prod.mk.injEq] at h
    obtain ⟨rfl, rfl⟩ := h
    rw [hv.int_inv]
    have e2 := h2.int hk
    subst e2
    refine ⟨_, ?_, .int _ _ .nil⟩
    cases u <;> simp [Go.convert, run_underlying h1.un, run_underlying h2.un, Conv.intToInt]
  · split at h
    · rename_i hk' _ hk
      simp only [Option.some.injEq, Prod.mk.injEq] at h
      obtain ⟨rfl, rfl⟩ := h
      rw [hv.str_inv]
      have e2 := h2.string hk'
      have e1 := h1.string hk
      subst e1; subst e2
      exact ⟨_, by simp [Go.convert, run_underlying h1.un, run_underlying h2.un], .str _ .nil⟩
    · simp at h
  · simp at h

theorem run_fieldAt {t d u i z f off d'} (HT : TyOk P T) (hT : T t = some d) (h : TyD.ok P t d u i z) (hf : fieldOf T t f = some (off, d')) (b o : Nat) :
    (Instr.fieldAt t (.pointer (some ⟨b, o, none⟩)) f).run P w = .ok (.pointer (some ⟨b, o + off, none⟩)) w := by
  unfold fieldOf at hf
  simp only [hT, Option.bind_some] at hf
  split at hf
  · rename_i fs hk
    simp only [Option.bind_eq_some_iff, Option.map_eq_some_iff, Prod.exists, Prod.mk.injEq] at hf
    obtain ⟨o', t', h1, e, h2, rfl, rfl⟩ := hf
    obtain ⟨gs, rfl, hgs⟩ := h.struct hk
    obtain ⟨g, hg, rfl, rfl⟩ := get_map_fields hgs h1
    obtain ⟨u', i', z', h4⟩ := HT _ _ h2
    have hs : (sizeOf g.type).run P w = .ok i'.size w := run_sizeOf' h4.info w
    have hp : i'.size ≠ 0 := by have := h4.pos; rw [h4.size]; omega
    simp [Instr.fieldAt, run_underlying h.un, hg, Instr.sureAddr, fieldPlace, hs, hp, Addr.add_mid]
  · simp at hf

theorem run_field {t d u i z f off d' cs as} (HT : TyOk P T) (hT : T t = some d) (h : TyD.ok P t d u i z) (hf : fieldOf T t f = some (off, d')) (hr : RL W φ w cs as) (hp : (rd d' as off).1) :
    ∃ y, (Instr.field t (.agg cs.toArray) f).run P w = .ok y w ∧ RL W φ w [y] [(rd d' as off).2] := by
  unfold fieldOf at hf
  simp only [hT, Option.bind_some] at hf
  split at hf
  · rename_i fs hk
    simp only [Option.bind_eq_some_iff, Option.map_eq_some_iff, Prod.exists, Prod.mk.injEq] at hf
    obtain ⟨o', t', h1, e, h2, rfl, rfl⟩ := hf
    obtain ⟨gs, rfl, hgs⟩ := h.struct hk
    obtain ⟨g, hg, rfl, rfl⟩ := get_map_fields hgs h1
    obtain ⟨u', i', z', h4⟩ := HT _ _ h2
    obtain ⟨y, h5, h6⟩ := run_part h4 hr hp
    refine ⟨y, ?_, h6⟩
    simp [Instr.field, run_underlying h.un, hg, asAgg, h5]
  · simp at hf

theorem index_sound {t d u i z} (HT : TyOk P T) (h : TyD.ok P t d u i z) {v x j k p r} (hx : index T x d j = some (p, r)) (hp : p) (hv : RL W φ w [v] [x]) :
    ∃ y, (Instr.index t v (.int k j)).run P w = .ok y w ∧ RL W φ w [y] [r] := by
  unfold index at hx
  split at hx
  · rename_i cs n e hk
    simp only [Option.map_eq_some_iff, Prod.mk.injEq] at hx
    obtain ⟨ed, h1, rfl, rfl⟩ := hx
    obtain ⟨u', i', z', h4⟩ := HT _ _ h1
    obtain ⟨us, rfl, hr⟩ := hv.agg_inv
    obtain ⟨y, h5, h6⟩ := run_part h4 hr hp.2
    refine ⟨y, ?_, h6⟩
    have hu := h.array hk
    subst hu
    have hs : (sizeOf e).run P w = .ok i'.size w := run_sizeOf' h4.info w
    simp [Instr.index, asIntOf, run_underlying h.un, hp.1.1, hp.1.2, hs, h4.size]
    simpa using h5
  · rename_i s hk
    simp only [Option.some.injEq, Prod.mk.injEq] at hx
    obtain ⟨rfl, rfl⟩ := hx
    rw [hv.str_inv]
    have hu := h.string hk
    subst hu
    have hlt : j.toNat < s.size := by omega
    refine ⟨_, ?_, .int _ _ .nil⟩
    have e1 : s[j.toNat]? = some s[j.toNat] := getElem?_pos s _ hlt
    have e2 : s.get! j.toNat = s[j.toNat] := by
      show s.data[j.toNat]! = s.data[j.toNat]
      rw [getElem!_pos]
    simp only [Instr.index, asIntOf, Sem.run_bind, Sem.run_pure, run_underlying h.un, Result.andThen_ok, if_pos hp.1, e1, e2]
  · simp at hx
end
end Go.Proofs.Ytlgimmafejbmgaa.AM
