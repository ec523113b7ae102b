/- The abstract machine: one operation is sound. -/
import Derived.Test.YtlgimmafejbmgaaAm6
namespace Go.Proofs.Ytlgimmafejbmgaa.AM
set_option linter.all false
set_option autoImplicit true
set_option relaxedAutoImplicit true
open Go

/-- A function value is called. -/
def Invk (P : Program) (f : Nat) (vs : Array Value) (w : World) (R : Value → World → Prop) : Prop :=
  match (callFunc f vs).run P w with
  | .ok (.value v) w' => R v w'
  | .ok (.enter g as) w' => Calls P g as w' fun e w'' => ∃ v, e = .returned v ∧ R v w''
  | _ => False

theorem Invk.mono {P f vs w R R'} (h : Invk P f vs w R) (hr : ∀ v w', R v w' → R' v w') : Invk P f vs w R' := by
  unfold Invk at *
  split at h
  · exact hr _ _ h
  · exact h.mono fun e w'' ⟨v, he, hv⟩ => ⟨v, he, hr _ _ hv⟩
  · exact h.elim

/-- What a function answers, whatever memory lies about. -/
def CSpec (P : Program) (f : Nat) (args : List AV) (r : AV) : Prop :=
  ∀ X φ w vs, (∀ b, X b → b < w.heap.size) → RL X φ w vs args → Invk P f vs.toArray w fun v w' => RL X φ w' [v] [r] ∧ RowKit.Below w.heap.size w w'

structure EnvOk (P : Program) (E : Env) : Prop where
  ty : TyOk P E.T
  sp : ∀ f args p r, E.S f args = some (p, r) → p → CSpec P f args r

section
variable {W : Nat → Prop} {X : Nat → Prop} {φ : Nat → Option (Option Nat)} {m : Nat → AObj} {s : St} {a : Act} {w w' : World} {P : Program} {T : Nat → Option TyD} {E : Env} {o : Oper}

theorem upon_call {f : Operand} {args : Array Operand} {ts} {g : Nat} {fs cs : Array Value} {K : Act → World → Prop} {Q : Exit → Act → World → Prop} (ho : o.op = .call { callee := .value f, args := args, argTypes := ts })
    (hf : a.eval f = .func (.func g) fs cs) {R : Value → World → Prop} (h : Invk P g (fs ++ args.map a.eval ++ cs) w R) (hk : ∀ v w', R v w' → K (a.put o.dst v) w') : o.wp P a w K Q := by
  have e : (execOp a.eval o) = callFunc g (fs ++ args.map a.eval ++ cs) := by
    simp only [execOp, ho, resolve, hf, Deferred.ofValue]
    rfl
  unfold Oper.wp
  rw [e]
  unfold Invk at h
  split at h
  · rename_i v w' he
    rw [he]; exact hk _ _ h
  · rename_i g' as w' he
    rw [he]
    exact h.mono fun e w'' ⟨v, he', hv⟩ => by subst he'; exact hk _ _ hv
  · exact h.elim

theorem aal_sound (HT : TyOk P T) (R : Rel X φ s a w) {p cs f} (h : aal T s o = some (p, cs, f)) (hp : p) :
    ∃ C e v, (execOp a.eval o).run P w = .ok (.value v) (w.alloc (.cells C e)) ∧ RL (Wr X φ s.m) φ w (C.toList.take cs.length) cs ∧ cs.length ≤ C.size ∧
      (∀ W' φ' w' r, φ' r = some (some w.heap.size) → w'.heap[w.heap.size]? = some (.cells C e (0, 0)) → RL W' φ' w' [v] [f r]) := by
  unfold aal at h
  split at h
  · rename_i t ho
    simp only [Option.map_eq_some_iff, Prod.mk.injEq] at h
    obtain ⟨d, hT, rfl, rfl, rfl⟩ := h
    obtain ⟨u, i, z, ht⟩ := HT _ _ hT
    have hr := ht.rep (Wr X φ s.m) φ w
    have hlen := hr.length
    refine ⟨z.cells, t, .pointer (some ⟨w.heap.size, 0, none⟩), ?_, ?_, ?_, fun W' φ' w' r h1 _ => .ref h1 .nil⟩
    · simp [execOp, ho, Instr.alloc, zeroValue, typeInfo, ht.info, ht.zero, newVar, newRow]
    · rw [← hlen, List.take_length]; exact hr
    · rw [← hlen]; simp
  · rename_i t x ho
    simp only [Option.map_eq_some_iff, Prod.mk.injEq] at h
    obtain ⟨d, hT, rfl, rfl, rfl⟩ := h
    have hr := (R.ev x).cellsV hp.2
    have hlen := hr.length
    refine ⟨(a.eval x).cells, t, .pointer (some ⟨w.heap.size, 0, none⟩), ?_, ?_, ?_, fun W' φ' w' r h1 _ => .ref h1 .nil⟩
    · simp [execOp, ho, Instr.box, newVar, newRow]
    · rw [← hlen, List.take_length]; exact hr
    · rw [← hlen]; simp
  · rename_i t n ps ho
    simp only [Option.bind_eq_some_iff] at h
    obtain ⟨d, hT, h⟩ := h
    obtain ⟨u, i, z, ht⟩ := HT _ _ hT
    split at h
    · rename_i e hk
      simp only [Option.bind_eq_some_iff, Option.map_eq_some_iff, Prod.exists, Prod.mk.injEq] at h
      obtain ⟨ed, hTe, q, cs', hf, rfl, rfl, rfl⟩ := h
      obtain ⟨u', i', z', he⟩ := HT _ _ hTe
      have hu := ht.slice hk
      subst hu
      have hz := (he.rep (Wr X φ s.m) φ w).repl n
      have hzl : z'.cells.size = ed.sz := he.len
      obtain ⟨_, cs2, h1, h2, h3, _⟩ := fill_sound R (fun j => some (j * i'.size, i'.size)) _ (fun j x hx => by
        simp at hx
        obtain ⟨_, rfl⟩ := hx
        exact ⟨by simp [he.size], he.sz1⟩) ps.toList _ _ _ _ _ hz hf hp.1
      have h2l := h2.length
      rw [h3, length_repl, ← (he.rep (Wr X φ s.m) φ w).length] at h2l
      simp only [Array.length_toList, hzl] at h2l
      refine ⟨cs2.toArray, e, .slice (some ⟨w.heap.size, 0, none⟩) n n, ?_, ?_, ?_, fun W' φ' w' r h1 h4 => ?_⟩
      · have hpp : (ps.map fun (i, x) => (i, a.eval x)).toList = (ps.toList.map fun x => (x.1, a.eval x.2)) := by simp
        have hsz : (sizeOf e).run P w = .ok i'.size w := run_sizeOf' he.info w
        have hn : ¬ (2 ^ 24 : Nat) < n * i'.size := by rw [he.size]; have := hp.2; omega
        have hn' : ¬ (16777216 : Nat) < n * i'.size := by rw [he.size]; have := hp.2; omega
        have hzero : (zeroValue e).run P w = .ok z' w := by simp [zeroValue, typeInfo, he.info, he.zero]
        have hrow : (if n * i'.size = 0 then (pure #[] : Sem (Array Value)) else (do pure (← zeroValue e).cells)).run P w = .ok (if n * i'.size = 0 then #[] else z'.cells) w := by
          split
          · rfl
          · rw [Sem.run_bind, hzero]; rfl
        have hfill : Instr.fill (fun j => some (j * i'.size, i'.size)) ((Array.range (n * i'.size)).map ((if n * i'.size = 0 then #[] else z'.cells)[· % (if n * i'.size = 0 then #[] else z'.cells).size]!)) (ps.map fun (i, x) => (i, a.eval x)).toList = some cs2.toArray := by
          rw [hpp, ← h1]
          congr 1
          apply Array.ext'
          by_cases hz0 : n * i'.size = 0
          · have : n = 0 := by have := he.pos; rw [he.size] at hz0; rcases Nat.mul_eq_zero.1 hz0 with h | h <;> omega
            subst this
            simp
          · rw [if_neg hz0, show i'.size = z'.cells.size by rw [he.size, hzl], zeros_eq]
        have hb : (Instr.buildSlice t n (ps.map fun (i, x) => (i, a.eval x))).run P w = .ok (.slice (some ⟨w.heap.size, 0, none⟩) n n) (w.alloc (.cells cs2.toArray e)) := by
          simp only [Instr.buildSlice, Sem.run_bind, run_underlying ht.un, Result.andThen_ok, hsz, if_neg hn]
          by_cases hz0 : n * i'.size = 0
          · simp only [hz0, if_true] at hfill ⊢
            simp only [Sem.run_pure, Sem.run_bind, Result.andThen_ok, hfill]
            simp [newRow]
          · simp only [hz0, if_false] at hfill ⊢
            simp only [Sem.run_pure, Sem.run_bind, Result.andThen_ok, hzero, hfill]
            simp [newRow]
        simp only [execOp, ho, Sem.run_bind, hb]
        rfl
      · have e1 : cs'.length = cs2.length := h2.length.symm
        simp [e1]; exact h2
      · simp [h2.length]
      · refine .sl h1 (Nat.le_refl _) ⟨_, _, _, h4, ?_⟩ .nil
        simp; rw [h2l]; exact Nat.le_refl _
    · simp at h
  · rename_i t l c ho
    simp only [Option.bind_eq_some_iff] at h
    obtain ⟨d, hT, h⟩ := h
    obtain ⟨u, i, z, ht⟩ := HT _ _ hT
    split at h
    · rename_i e l' c' hk hl hc
      simp only [Option.map_eq_some_iff, Prod.mk.injEq] at h
      obtain ⟨ed, hTe, rfl, rfl, rfl⟩ := h
      obtain ⟨rfl, h0, hmax, hby⟩ := hp
      obtain ⟨u', i', z', he⟩ := HT _ _ hTe
      have hu := ht.slice hk
      subst hu
      have hL := R.ev l
      have hC := R.ev c
      rw [hl] at hL; rw [hc] at hC
      have hzl : z'.cells.size = ed.sz := he.len
      have hzr := he.rep (Wr X φ s.m) φ w
      have hb : i'.bytes ≤ 128 := by rw [he.bytes]; exact hby
      have hwr : IntKind.i64.wrap l' = l' := by
        unfold IntKind.wrap
        simp [IntKind.bits, IntKind.signed]
        omega
      have hbl : (i'.bytes : Int) * l' ≤ 140737488355328 := by
        have : (i'.bytes : Int) * l' ≤ 128 * 1099511627776 := Int.mul_le_mul (by omega) hmax h0 (by omega)
        omega
      have hsz : (sizeOf e).run P w = .ok i'.size w := run_sizeOf' he.info w
      have hzero : (zeroValue e).run P w = .ok z' w := by simp [zeroValue, typeInfo, he.info, he.zero]
      have hlen : (List.replicate l'.toNat ed.zero).flatten.length = l'.toNat * ed.sz := by
        rw [length_repl, ← hzr.length]; simp [hzl]
      refine ⟨(List.replicate l'.toNat z'.cells.toList).flatten.toArray, e, .slice (some ⟨w.heap.size, 0, none⟩) l'.toNat l'.toNat, ?_, ?_, ?_, fun W' φ' w' r h1 h4 => ?_⟩
      · have hm : (Instr.makeSlice t (.int .i64 l') (.int .i64 l')).run P w = .ok (.slice (some ⟨w.heap.size, 0, none⟩) l'.toNat l'.toNat) (w.alloc (.cells (List.replicate l'.toNat z'.cells.toList).flatten.toArray e)) := by
          have hroom : ¬ (l'.toNat * i'.bytes > roomBytes) := by
            have : ((l'.toNat * i'.bytes : Nat) : Int) ≤ 140737488355328 := by
              rw [Int.natCast_mul, Int.toNat_of_nonneg h0, Int.mul_comm]; exact hbl
            unfold roomBytes
            omega
          have hrow : ((Array.range (l'.toNat * i'.size)).map ((if l'.toNat * i'.size = 0 then #[] else z'.cells)[· % (if l'.toNat * i'.size = 0 then #[] else z'.cells).size]!)) = (List.replicate l'.toNat z'.cells.toList).flatten.toArray := by
            apply Array.ext'
            by_cases hz0 : l'.toNat * i'.size = 0
            · have : l'.toNat = 0 := by have := he.pos; rw [he.size] at hz0; rcases Nat.mul_eq_zero.1 hz0 with h | h <;> omega
              rw [this]; simp
            · rw [if_neg hz0, show i'.size = z'.cells.size by rw [he.size, hzl], zeros_eq]
          have hneg : ¬ (l' < 0) := by omega
          have hbig : ¬ ((i'.bytes : Int) * l' > 2 ^ 48) := by omega
          have hbig' : ¬ (281474976710656 < (i'.bytes : Int) * l') := by omega
          by_cases hz0 : l'.toNat * i'.size = 0
          · simp only [hz0, if_true] at hrow
            simp [Instr.makeSlice, run_underlying ht.un, asInt, asIntOf, typeInfo, he.info, hwr, hneg, hbig', askRoom, sizeOf, hz0, newRow]
            rw [← hrow]
            simp
          · simp only [hz0, if_false] at hrow
            simp [Instr.makeSlice, run_underlying ht.un, asInt, asIntOf, typeInfo, he.info, hwr, hneg, hbig', askRoom, sizeOf, hz0, newRow, zeroValue, he.zero]
            rw [← hrow]
        simp only [execOp, ho, Sem.run_bind, hL.int_inv, hC.int_inv, hm]
        rfl
      · rw [hlen]
        have := hzr.repl l'.toNat
        show RL _ _ _ (List.take _ (List.replicate l'.toNat z'.cells.toList).flatten) _
        rw [List.take_of_length_le (by rw [length_repl, Array.length_toList, hzl]; exact Nat.le_refl _)]
        exact this
      · rw [hlen, List.size_toArray, length_repl, Array.length_toList, hzl]; exact Nat.le_refl _
      · refine .sl h1 (Nat.le_refl _) ⟨_, _, _, h4, ?_⟩ .nil
        rw [List.size_toArray, length_repl, Array.length_toList, hzl]; omega
    · simp at h
  · simp at h

theorem ast_sound (HT : TyOk P T) (R : Rel X φ s a w) {p r cs'} (h : ast T s o = some (p, r, cs')) (hp : p) :
    ∃ b cs c c' e w', (execOp a.eval o).run P w = .ok .skip w' ∧ s.m r = .live cs ∧ φ r = some (some b) ∧ w.heap[b]? = some (.cells c e (0, 0)) ∧ w'.heap[b]? = some (.cells c' e (0, 0)) ∧
      (∀ k, k ≠ b → w'.heap[k]? = w.heap[k]?) ∧ w'.heap.size = w.heap.size ∧ c'.size = c.size ∧ cs'.length ≤ c.size ∧ RL (Wr X φ s.m) φ w (c'.toList.take cs'.length) cs' ∧ cs'.all AV.ck = true ∧ w'.os = w.os ∧ w'.tape = w.tape ∧ w'.output = w.output := by
  unfold ast at h
  split at h
  · rename_i t x y ho
    simp only [Option.bind_eq_some_iff] at h
    obtain ⟨d, hT, h⟩ := h
    obtain ⟨u, i, z, ht⟩ := HT _ _ hT
    split at h
    · rename_i r' off hx
      split at h
      · rename_i cs hm
        simp only [Option.some.injEq, Prod.mk.injEq] at h
        obtain ⟨rfl, rfl, rfl⟩ := h
        have ho' := R.mem.obj r'
        rw [hm] at ho'
        obtain ⟨b, hb, c, e, hc, hl, hr, hk⟩ := ho'
        have hxr := R.ev x
        rw [hx] at hxr
        obtain ⟨k1, k2, k3, k4, k5, k6⟩ := wr_sound ht.sz1 hr (R.ev y) hp
        have hlen : (c.toList.take cs.length).length = cs.length := by simp; omega
        rw [hlen] at k2
        obtain ⟨s1, s2, s3, s4, s5, s6⟩ := setCells_heap b e (a.eval y).cells.toList off w c hc (by simp [k1]; omega)
        refine ⟨b, cs, c, _, e, w.setCells b off (a.eval y).cells.toList, ?_, hm, hb, hc, s1, s2, s3, ?_, ?_, ?_, k6 hk, s4, s5, s6⟩
        · have hst : (storeVar t ⟨b, off, none⟩ (a.eval y)).run P w = .ok () (w.setCells b off (a.eval y).cells.toList) := by
            have := run_storeCells_cells (P := P) b off (a.eval y).cells.toList 0 w (fun j hj => by
              have := (there_of (off := off) (n := d.sz) hc (by omega) j (by simp [k1] at hj; exact hj)).1; simpa using this) (fun j hj => by
              have := (there_of (off := off) (n := d.sz) hc (by omega) j (by simp [k1] at hj; exact hj)).2; simpa using this) k5
            simp only [Nat.add_zero] at this
            simp [storeVar, run_sizeOf' ht.info, k1, ht.size, this]
          simp [execOp, ho, hxr.ref_inv hb, Instr.storeAt, Instr.sureAddr, hst]
        · simp [k1]; omega
        · rw [k4]; exact hl
        · have e1 : (List.take (wr d cs off (aev s y)).2.length ((c.toList.take off ++ (a.eval y).cells.toList ++ c.toList.drop (off + (a.eval y).cells.toList.length)).toArray).toList) =
              (c.toList.take cs.length).take off ++ (a.eval y).cells.toList ++ (c.toList.take cs.length).drop (off + d.sz) := by
            rw [k4]
            simp only [Array.length_toList, k1]
            rw [List.take_append, List.take_append, List.take_of_length_le (l := c.toList.take off) (by simp; omega), List.take_of_length_le (l := (a.eval y).cells.toList) (by simp [k1]; omega)]
            simp only [List.length_append, List.length_take, Array.length_toList, k1, Nat.min_eq_left (show off ≤ c.size by omega)]
            rw [List.take_take, Nat.min_eq_left (by omega), List.drop_take]
          rw [e1]; exact k3
      · simp at h
    · simp at h
  · simp at h
end
end Go.Proofs.Ytlgimmafejbmgaa.AM
