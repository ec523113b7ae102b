/- The abstract machine: append and copy. -/
import Derived.Test.YtlgimmafejbmgaaAm7
namespace Go.Proofs.Ytlgimmafejbmgaa.AM
set_option linter.all false
set_option autoImplicit true
set_option relaxedAutoImplicit true
open Go
section
variable {W : Nat → Prop} {X : Nat → Prop} {φ : Nat → Option (Option Nat)} {m : Nat → AObj} {s : St} {a : Act} {w w' : World} {P : Program} {T : Nat → Option TyD} {E : Env} {o : Oper}

/-- An object goes: nothing is said of it any more. -/
theorem gone_rel (R : RelM X φ m w) {r : Nat} {cs} (hm : m r = .live cs) :
    RelM X (upd φ r (some none)) (upd m r .gone) w ∧ Stp X φ m w (upd φ r (some none)) (upd m r .gone) w := by
  have E : Ext (Wr X φ m) φ w (Wr X (upd φ r (some none)) (upd m r .gone)) (upd φ r (some none)) w := by
    refine ⟨fun q x hx => ?_, fun _ _ _ => rfl, fun b _ hW => ?_, fun _ _ c e fr _ _ h => ⟨c, e, fr, h, Nat.le_refl _⟩⟩
    · unfold upd; split
      · exact .inr rfl
      · exact .inl hx
    · rcases hW with h | ⟨q, cs', h, h'⟩
      · exact .inl h
      · unfold upd at h h'; split at h
        · simp at h
        · rename_i hne; rw [if_neg hne] at h'; exact .inr ⟨q, cs', h, h'⟩
  refine ⟨⟨fun q => ?_, fun q q' b h4 h5 => ?_, fun q b h4 => ?_, R.xlt⟩, E, ⟨rfl, rfl, rfl, Nat.le_refl _, fun _ _ _ => rfl, fun q b h4 => ?_⟩⟩
  · by_cases hq : q = r
    · subst hq; simp [upd, ObjOk]
    · simp only [upd, if_neg hq]; exact (R.obj q).mono E (fun _ _ => rfl)
  · unfold upd at h4 h5
    split at h4 <;> split at h5 <;> first | (simp at h4; done) | (simp at h5; done) | exact R.inj _ _ _ h4 h5
  · unfold upd at h4; split at h4
    · simp at h4
    · exact R.ext _ _ h4
  · unfold upd at h4; split at h4
    · simp at h4
    · exact .inr ⟨q, h4⟩

/-- An object gets another number. -/
theorem rename_rel (R : RelM X φ m w) {r nx b : Nat} {cs} (hm : m r = .live cs) (hb : φ r = some (some b)) (hu : m nx = .unused) :
    RelM X (upd (upd φ r (some none)) nx (some (some b))) (upd (upd m r .gone) nx (.live cs)) w ∧ Stp X φ m w (upd (upd φ r (some none)) nx (some (some b))) (upd (upd m r .gone) nx (.live cs)) w := by
  have hne : nx ≠ r := fun e => by rw [e, hm] at hu; simp at hu
  have hφ := R.unused hu
  have E : Ext (Wr X φ m) φ w (Wr X (upd (upd φ r (some none)) nx (some (some b))) (upd (upd m r .gone) nx (.live cs))) (upd (upd φ r (some none)) nx (some (some b))) w := by
    refine ⟨fun q x hx => ?_, fun _ _ _ => rfl, fun k _ hW => ?_, fun _ _ c e fr _ _ h => ⟨c, e, fr, h, Nat.le_refl _⟩⟩
    · unfold upd; split
      · rename_i e; rw [e, hφ] at hx; simp at hx
      · split
        · exact .inr rfl
        · exact .inl hx
    · rcases hW with h | ⟨q, cs', h, h'⟩
      · exact .inl h
      · unfold upd at h h'; split at h
        · simp at h; subst h; exact .inr ⟨r, cs, hb, hm⟩
        · rename_i hn; rw [if_neg hn] at h'
          split at h
          · simp at h
          · rename_i hn'; rw [if_neg hn'] at h'; exact .inr ⟨q, cs', h, h'⟩
  refine ⟨⟨fun q => ?_, fun q q' k h4 h5 => ?_, fun q k h4 => ?_, R.xlt⟩, E, ⟨rfl, rfl, rfl, Nat.le_refl _, fun _ _ _ => rfl, fun q k h4 => ?_⟩⟩
  · by_cases hq : q = nx
    · subst hq
      simp only [upd, if_true]
      have := (R.obj r).mono E (fun _ _ => rfl)
      rw [hm, hb] at this
      exact this
    · by_cases hq' : q = r
      · subst hq'; simp [upd, hq, ObjOk]
      · simp only [upd, if_neg hq, if_neg hq']; exact (R.obj q).mono E (fun _ _ => rfl)
  · unfold upd at h4 h5
    split at h4 <;> split at h5
    · simp_all
    · split at h5
      · simp at h5
      · simp at h4; subst h4; rename_i hq _ hn; exact absurd (R.inj _ _ _ h5 hb) hn
    · split at h4
      · simp at h4
      · simp at h5; subst h5; rename_i hn; exact absurd (R.inj _ _ _ h4 hb) hn
    · split at h4
      · simp at h4
      · split at h5
        · simp at h5
        · exact R.inj _ _ _ h4 h5
  · unfold upd at h4; split at h4
    · simp at h4; subst h4; exact R.ext _ _ hb
    · split at h4
      · simp at h4
      · exact R.ext _ _ h4
  · unfold upd at h4; split at h4
    · simp at h4; subst h4; exact .inr ⟨r, hb⟩
    · split at h4
      · simp at h4
      · exact .inr ⟨q, h4⟩

theorem RL.strCells (x : ByteArray) : RL W φ w (byteCells x) (strCells x) := by
  unfold byteCells AM.strCells
  generalize x.data.toList = l
  induction l with
  | nil => exact .nil
  | cons b l ih => exact .int _ _ ih

/-- An object's cells, as read. -/
theorem obj_reads (R : RelM X φ m w) {r cs} (h : objCells (m r) = some cs) : ∃ b c e, φ r = some (some b) ∧ w.heap[b]? = some (.cells c e (0, 0)) ∧ cs.length ≤ c.size ∧ RL (Wr X φ m) φ w (c.toList.take cs.length) cs ∧ Reads w b 0 (c.toList.take cs.length) ∧ cs.all AV.ck = true := by
  obtain ⟨b, cs', c, e, h1, h2, h3, h4, h5, h6⟩ := R.alive (alive_of h)
  rw [h] at h2; simp at h2; subst h2
  refine ⟨b, c, e, h1, h3, h4, h5, fun j u hj => ?_, h6⟩
  rw [List.getElem?_take] at hj
  split at hj
  · rw [cell_of_row w b _ c e _ h3]; simpa using hj
  · simp at hj

theorem apSrc_sound (R : Rel X φ s a w) {t d u i z sz g y q k news} (ht : TyD.ok P t d u i z) (h : apSrc s sz g d.k (aev s y) = some (q, k, news)) (hq : q) (hk : news.all AV.ck = true) :
    ∃ vs, Src P sz t (a.eval y) k vs w ∧ RL (Wr X φ s.m) φ w vs news ∧ vs.length = k * sz := by
  have hy := R.ev y
  unfold apSrc at h
  split at h
  · rename_i e hd he
    simp only [Option.some.injEq, Prod.mk.injEq] at h
    obtain ⟨rfl, rfl, rfl⟩ := h
    rw [he] at hy
    rw [hy.nils_inv]
    have hu := ht.slice hd
    subst hu
    exact ⟨[], Src.ofNil w ht.un 0, .nil, by simp⟩
  · rename_i e n cs hd he
    simp only [Option.some.injEq, Prod.mk.injEq] at h
    obtain ⟨rfl, rfl, rfl⟩ := h
    rw [he] at hy
    have hu := ht.slice hd
    subst hu
    rcases hy.imm_inv with ⟨ad, cap, hv, rfl, rfl⟩ | ⟨b, o', cap, us, hv, hcap, h5, h6, h7⟩
    · rw [hv]
      cases ad with
      | none => exact ⟨[], Src.ofNil w ht.un cap, .nil, by simp⟩
      | some ad => exact ⟨[], Src.ofSlice w ht.un ad 0 cap [] (by simp) (by simp) (by simp), .nil, by simp⟩
    · rw [hv]
      have hl : us.length = n * sz := by rw [h7.length, hq]
      exact ⟨us, Src.ofSlice w ht.un _ n cap us hl (fun j u hj => by rw [Addr.add_mid]; exact h6 j u hj) (h7.cells hk), h7, hl⟩
  · rename_i e r off n k' hd he
    simp only [Option.map_eq_some_iff, Prod.mk.injEq] at h
    obtain ⟨cs, h1, rfl, rfl, rfl⟩ := h
    obtain ⟨hc, rfl, _⟩ := hq
    rw [he] at hy
    have hu := ht.slice hd
    subst hu
    obtain ⟨b, c, e', hb, hh, hl, hr, hrd, _⟩ := obj_reads R.mem h1
    obtain ⟨cap, hv, _⟩ := hy.sl_inv hb
    rw [hv]
    have hr' := hr.cut hc
    have hlen : (((c.toList.take cs.length).drop off).take (n * k')).length = n * k' := by
      rw [hr'.length]; have := hc.1; simp; omega
    exact ⟨_, Src.ofSlice w ht.un _ n cap _ hlen (fun j u hj => by
      rw [Addr.add_mid]
      rw [List.getElem?_take] at hj
      split at hj
      · have := hrd (off + j) u (by simpa using hj)
        simpa using this
      · simp at hj) (hr'.cells hk), hr', hlen⟩
  · rename_i x hd he
    simp only [Option.some.injEq, Prod.mk.injEq] at h
    obtain ⟨rfl, rfl, rfl⟩ := h
    rw [he] at hy
    rw [hy.str_inv]
    have hu := ht.string hd
    subst hu
    subst hq
    exact ⟨_, Src.ofString w ht.un x, RL.strCells x, by rw [byteCells_length]; omega⟩
  · simp at h

theorem List.to2 {x y : Operand} {l : Array Operand} (h : l.toList = [x, y]) : l = #[x, y] := by apply Array.ext'; simpa using h
theorem List.to2' {x y : Nat} {l : Array Nat} (h : l.toList = [x, y]) : l = #[x, y] := by apply Array.ext'; simpa using h

theorem exec_builtin {b : Builtin} {c : Call} {x y : Operand} (ho : o.op = .call c) (hc : c.callee = .builtin b) (hx : c.args.toList = [x, y]) (R : Value) (w' : World)
    (f : Array TypeId → TypeId → Array Value → Sem Value) (hf : ∀ ats ty cs as, builtin b ats ty cs as = (do pure (.value (← f ats ty as)) : Sem Next)) (h : (f c.argTypes o.type #[a.eval x, a.eval y]).run P w = .ok R w') :
    (execOp a.eval o).run P w = .ok (.value R) w' := by
  have ha := List.to2 hx
  simp [execOp, ho, resolve, hc, ha, invoke, hf, h]

theorem acp_sound (HT : TyOk P T) (R : Rel X φ s a w) {p s'} {c : Call} (ho : o.op = .call c) (hc : c.callee = .builtin .copy) (h : acp T s o = some (p, s')) (hp : p) (hd : ∀ d, o.dst = some d → d < s.n) :
    ∃ v w', (execOp a.eval o).run P w = .ok (.value v) w' ∧ Rel X φ s' (a.put o.dst v) w' ∧ Stp X φ s.m w φ s'.m w' := by
  unfold acp at h
  simp only [ho] at h
  split at h
  · rename_i x y t t' hx hts
    simp only [Option.bind_eq_some_iff] at h
    obtain ⟨d, hT, h⟩ := h
    obtain ⟨u, i, z, ht⟩ := HT _ _ hT
    split at h
    · rename_i e hk
      simp only [Option.bind_eq_some_iff] at h
      obtain ⟨ed, hTe, d', hT', h⟩ := h
      obtain ⟨u1, i1, z1, he⟩ := HT _ _ hTe
      obtain ⟨u2, i2, z2, ht'⟩ := HT _ _ hT'
      have hu := ht.slice hk
      subst hu
      split at h
      · rename_i r off n k hxe
        split at h
        · rename_i cs hm
          simp only [Option.map_eq_some_iff, Prod.exists, Prod.mk.injEq] at h
          obtain ⟨q, l, news, hsrc, rfl, rfl⟩ := h
          obtain ⟨hq, rfl, hln, hcut, hnk⟩ := hp
          obtain ⟨vs, hS, hvs, hvl⟩ := apSrc_sound R ht' hsrc hq hnk
          have ho' := R.mem.obj r
          rw [hm] at ho'
          obtain ⟨b, hb, C, e', hC, hl, hr, hk'⟩ := ho'
          have hxv := R.ev x
          rw [hxe] at hxv
          obtain ⟨cap, hv, _⟩ := hxv.sl_inv hb
          have hnl : news.length = l * ed.sz := by rw [← hvs.length, hvl]
          have hcl := hcut.1
          obtain ⟨s1, s2, s3, s4, s5, s6⟩ := setCells_heap b e' vs off w C hC (by rw [hvl]; omega)
          have hlen : (C.toList.take cs.length).length = cs.length := by simp; omega
          have hov : (over cs off news).length = cs.length := by unfold over; simp [hnl]; omega
          have hmem : RelM X φ (upd s.m r (.live (over cs off news))) (w.setCells b off vs) ∧ Stp X φ s.m w φ (upd s.m r (.live (over cs off news))) (w.setCells b off vs) := by
            refine write_rel R.mem hm hb hC s1 s2 s3 ?_ ?_ ?_ ?_ s4 s5 s6
            · simp [hvl]; omega
            · rw [hov]; exact hl
            · have := hr.over hcut hvs hnl
              have e1 : (List.take (over cs off news).length ((C.toList.take off ++ vs ++ C.toList.drop (off + vs.length)).toArray).toList) =
                  (C.toList.take cs.length).take off ++ vs ++ (C.toList.take cs.length).drop (off + vs.length) := by
                rw [hov]
                simp only []
                rw [List.take_append, List.take_append, List.take_of_length_le (l := C.toList.take off) (by simp; omega), List.take_of_length_le (l := vs) (by simp [hvl]; omega)]
                simp only [List.length_append, List.length_take, Array.length_toList, hvl, Nat.min_eq_left (show off ≤ C.size by omega)]
                rw [List.take_take, Nat.min_eq_left (by omega), List.drop_take]
              rw [e1]; exact this
            · unfold over
              simp only [List.all_append, Bool.and_eq_true]
              simp only [List.all_eq_true] at hk' hnk ⊢
              exact ⟨⟨fun x hx => hk' x (List.mem_of_mem_take hx), hnk⟩, fun x hx => hk' x (List.mem_of_mem_drop hx)⟩
          refine ⟨.int .i64 l, w.setCells b off vs, ?_, R.put hmem.2 hmem.1 (.int _ _ .nil) hd, hmem.2⟩
          refine exec_builtin ho hc hx _ _ Builtin.copy_ (fun _ _ _ _ => rfl) ?_
          have hts' := List.to2' hts
          have hst := run_storeCells_cells (P := P) b off vs 0 w (fun j hj => by
              have := (there_of (off := off) (n := vs.length) hC (by rw [hvl]; omega) j hj).1; simpa using this) (fun j hj => by
              have := (there_of (off := off) (n := vs.length) hC (by rw [hvl]; omega) j hj).2; simpa using this) hS.one
          simp only [Nat.add_zero] at hst
          have hmin : Nat.min l n = l := Nat.min_eq_left hln
          have hsz : (sizeOf e).run P w = .ok i1.size w := run_sizeOf' he.info w
          simp [Builtin.copy_, hts', hv, run_underlying ht.un, hS.len, hmin, hsz, he.size, hS.cells, hst, goInt]
        · simp at h
      · simp at h
    · simp at h
  · simp at h

theorem zeroCells_size (z : Array Value) (n : Nat) : (Builtin.zeroCells z n).size = n * z.size := by simp [Builtin.zeroCells]

theorem isNils_eq {v : AV} (h : v.isNils = true) : v = .nils := by cases v <;> simp [AV.isNils] at h; rfl

theorem Stp.trans' {φ1 m1 w1 φ2 m2 w2} (h : Stp X φ m w φ1 m1 w1) (k : Stp X φ1 m1 w1 φ2 m2 w2) : Stp X φ m w φ2 m2 w2 := h.trans k

theorem aap_sound (HT : TyOk P T) (R : Rel X φ s a w) {p s' nx} {c : Call} (ho : o.op = .call c) (hc : c.callee = .builtin .append) (h : aap T nx s o = some (p, s')) (hp : p) (hd : ∀ d, o.dst = some d → d < s.n) :
    ∃ v w' φ', (execOp a.eval o).run P w = .ok (.value v) w' ∧ Rel X φ' s' (a.put o.dst v) w' ∧ Stp X φ s.m w φ' s'.m w' := by
  unfold aap at h
  simp only [ho] at h
  split at h
  · rename_i x y t t' hx hts
    simp only [Option.bind_eq_some_iff] at h
    obtain ⟨d, hT, h⟩ := h
    obtain ⟨u, i, z, ht⟩ := HT _ _ hT
    have hts' := List.to2' hts
    split at h
    · rename_i e hk
      simp only [Option.bind_eq_some_iff] at h
      obtain ⟨ed, hTe, d', hT', h⟩ := h
      obtain ⟨u1, i1, z1, he⟩ := HT _ _ hTe
      obtain ⟨u2, i2, z2, ht'⟩ := HT _ _ hT'
      have hu := ht.slice hk
      subst hu
      split at h
      · rename_i hnn
        simp only [Bool.and_eq_true] at hnn
        have e1 := isNils_eq hnn.1
        have e2 := isNils_eq hnn.2
        split at h
        · rename_i e' hk'
          simp only [Option.some.injEq, Prod.mk.injEq] at h
          obtain ⟨rfl, rfl⟩ := h
          have hu2 := ht'.slice hk'
          subst hu2
          have hxv := R.ev x
          have hyv := R.ev y
          rw [e1] at hxv; rw [e2] at hyv
          refine ⟨.slice none 0 0, w, φ, ?_, R.put (.refl _ _ _ _) R.mem (.nils .nil) hd, .refl _ _ _ _⟩
          refine exec_builtin ho hc hx _ _ Builtin.append_ (fun _ _ _ _ => rfl) ?_
          have hsz : (sizeOf e).run P w = .ok i1.size w := run_sizeOf' he.info w
          simp [Builtin.append_, hts', hxv.nils_inv, hyv.nils_inv, run_underlying ht.un, run_underlying ht'.un, hsz, Builtin.lenOf, Builtin.firstCells]
        · simp at h
      · simp only [Option.bind_eq_some_iff, Option.map_eq_some_iff, Prod.exists, Prod.mk.injEq] at h
        obtain ⟨q1, n, olds, g, hdst, q2, k, news, hsrc, rfl, rfl⟩ := h
        obtain ⟨hq1, hq2, hg, hnx, hmax, hby, hok, hnk⟩ := hp
        obtain ⟨vs, hS, hvs, hvl⟩ := apSrc_sound R ht' hsrc hq2 hnk
        have hS' : Src P i1.size t' (a.eval y) k vs w := by rw [he.size]; exact hS
        have hnl : news.length = k * ed.sz := by rw [← hvs.length, hvl]
        have h63 : ((n + k : Nat) : Int) ≤ 9223372036854775807 := by
          have : (n + k) * 1 ≤ (n + k) * ed.bytes := Nat.mul_le_mul_left _ hby
          omega
        have hxv := R.ev x
        have hzr := he.rep (Wr X φ s.m) φ w
        unfold apDst at hdst
        split at hdst
        · rename_i hxe
          simp only [Option.some.injEq, Prod.mk.injEq] at hdst
          obtain ⟨rfl, rfl, rfl, rfl⟩ := hdst
          rw [hxe] at hxv
          have hk0 := hg rfl
          have hrun := run_append_grow_src (P := P) w t t' o.type e i1 z1 ht.un he.info he.zero none 0 0 [] (run_firstCells_none w.drew i1.size 0 0 0) (a.eval y) k vs hS' (by omega) h63 (growslice_fits (by omega) (by rw [he.bytes]; omega))
          have hal := alloc_rel (w' := w.drew.alloc (.cells (([] ++ vs).toArray ++ Builtin.zeroCells z1.cells (grownCap w (0 + k) 0 e - (0 + k))) e)) R.mem hnx (C := (([] ++ vs).toArray ++ Builtin.zeroCells z1.cells (grownCap w (0 + k) 0 e - (0 + k)))) (e := e) (cs := [] ++ news) (by
            have : (List.take ([] ++ news).length (([] ++ vs).toArray ++ Builtin.zeroCells z1.cells (grownCap w (0 + k) 0 e - (0 + k))).toList) = vs := by
              simp [← hvs.length]
            rw [this]; exact hvs) (by simp [hvs.length]) hnk rfl rfl rfl rfl
          refine ⟨_, _, _, exec_builtin ho hc hx _ _ Builtin.append_ (fun _ _ _ _ => rfl) (by rw [hts', hxv.nils_inv]; exact hrun), R.put hal.2 hal.1 ?_ hd, hal.2⟩
          have hcap : 0 + k ≤ grownCap w (0 + k) 0 e := by unfold grownCap Question.cut; simp
          refine .sl (upd_same _ _ _) hcap ⟨_, e, (0, 0), heap_alloc_new w.drew _, ?_⟩ .nil
          rw [Array.size_append, List.size_toArray, List.length_append, hvl, zeroCells_size, he.len, List.length_nil]
          generalize grownCap w (0 + k) 0 e = G at hcap ⊢
          have := Nat.mul_le_mul_right ed.sz (show G ≤ k + (G - (0 + k)) by omega)
          rw [Nat.add_mul] at this
          omega
        · rename_i r off n' k' hxe
          split at hdst
          · rename_i cs hm
            simp only [Option.some.injEq, Prod.mk.injEq] at hdst
            obtain ⟨rfl, rfl, rfl, rfl⟩ := hdst
            obtain ⟨rfl, rfl, hcl⟩ := hq1
            rw [hxe] at hxv
            have ho' := R.mem.obj r
            rw [hm] at ho'
            obtain ⟨b, hb, C, e', hC, hl, hr, hk'⟩ := ho'
            obtain ⟨cap, hv, hcap, C', e'', fr, hC', hsz⟩ := hxv.sl_inv hb
            rw [hC] at hC'
            simp at hC'
            obtain ⟨rfl, rfl, rfl⟩ := hC'
            by_cases hroom : n' + k ≤ cap
            · have hfit : (n' + k) * ed.sz ≤ C.size := by
                have := Nat.mul_le_mul_right ed.sz hroom
                omega
              have hfit' : n' * ed.sz + k * ed.sz ≤ C.size := by rw [← Nat.add_mul]; exact hfit
              have hth := there_of (w := w) (b := b) (off := n' * ed.sz) (n := vs.length) hC (by rw [hvl]; exact hfit')
              have hrun := run_append_room_src (P := P) w t t' o.type e i1 ht.un he.info b 0 n' cap (a.eval y) k vs hS' hroom (fun j hj => by rw [he.size]; have := (hth j hj).1; simpa using this) (fun j hj => by rw [he.size]; have := (hth j hj).2; simpa using this)
              rw [he.size] at hrun
              simp only [Nat.zero_add] at hrun
              obtain ⟨s1, s2, s3, s4, s5, s6⟩ := setCells_heap b e' vs (n' * ed.sz) w C hC (by rw [hvl]; exact hfit')
              have hwr : RelM X φ (upd s.m r (.live (cs ++ news))) (w.setCells b (n' * ed.sz) vs) ∧ Stp X φ s.m w φ (upd s.m r (.live (cs ++ news))) (w.setCells b (n' * ed.sz) vs) := by
                refine write_rel R.mem hm hb hC s1 s2 s3 ?_ ?_ ?_ ?_ s4 s5 s6
                · simp [hvl]; omega
                · simp [hnl, hcl]; exact hfit'
                · have e1 : (List.take (cs ++ news).length ((C.toList.take (n' * ed.sz) ++ vs ++ C.toList.drop (n' * ed.sz + vs.length)).toArray).toList) = C.toList.take cs.length ++ vs := by
                    rw [List.length_append, hnl, hcl]
                    simp only []
                    rw [List.take_append, List.take_of_length_le (by simp [hvl]; omega)]
                    simp [hvl]; omega
                  rw [e1]; exact hr.app hvs
                · simp only [List.all_append, Bool.and_eq_true]; exact ⟨hok, hnk⟩
              have hnx' : upd s.m r (.live (cs ++ news)) nx = .unused := by
                unfold upd; rw [if_neg]; exact hnx
                intro e; rw [e, hm] at hnx; simp at hnx
              have hren := rename_rel hwr.1 (upd_same _ _ _) hb hnx'
              have em : upd (upd (upd s.m r (.live (cs ++ news))) r .gone) nx (.live (cs ++ news)) = upd (upd s.m r .gone) nx (.live (cs ++ news)) := by
                funext j; simp only [upd]; by_cases h1 : j = nx <;> by_cases h2 : j = r <;> simp [h1, h2]
              rw [em] at hren
              have hst := hwr.2.trans hren.2
              refine ⟨_, _, _, exec_builtin ho hc hx _ _ Builtin.append_ (fun _ _ _ _ => rfl) (by rw [hts', hv]; exact hrun), R.put hst hren.1 ?_ hd, hst⟩
              refine .sl (upd_same _ _ _) hroom ⟨_, e', (0, 0), s1, ?_⟩ .nil
              simp [hvl]; omega
            · have holds : (Builtin.firstCells i1.size n' (.slice (some ⟨b, 0, none⟩) n' cap)).run P w.drew = .ok (C.toList.take cs.length).toArray w.drew := by
                refine run_firstCells_some w.drew i1.size n' _ n' cap _ ?_ ?_
                · rw [he.size]; simp; omega
                · intro j u hj
                  rw [Addr.add_mid]
                  rw [List.getElem?_take] at hj
                  split at hj
                  · show w.cell? _ = _
                    rw [cell_of_row w b _ C e' _ hC]; simpa using hj
                  · simp at hj
              have hrun := run_append_grow_src (P := P) w t t' o.type e i1 z1 ht.un he.info he.zero (some ⟨b, 0, none⟩) n' cap (C.toList.take cs.length) holds (a.eval y) k vs hS' (by omega) h63 (growslice_fits (by omega) (by rw [he.bytes]; omega))
              have hgo := gone_rel R.mem hm
              have hnx' : upd s.m r .gone nx = .unused := by
                unfold upd; rw [if_neg]; exact hnx
                intro e; rw [e, hm] at hnx; simp at hnx
              have hal := alloc_rel (w' := w.drew.alloc (.cells ((C.toList.take cs.length ++ vs).toArray ++ Builtin.zeroCells z1.cells (grownCap w (n' + k) cap e - (n' + k))) e)) hgo.1 hnx' (C := ((C.toList.take cs.length ++ vs).toArray ++ Builtin.zeroCells z1.cells (grownCap w (n' + k) cap e - (n' + k)))) (e := e) (cs := cs ++ news) (by
                have : (List.take (cs ++ news).length ((C.toList.take cs.length ++ vs).toArray ++ Builtin.zeroCells z1.cells (grownCap w (n' + k) cap e - (n' + k))).toList) = C.toList.take cs.length ++ vs := by
                  rw [Array.toList_append, List.take_append_of_le_length]
                  · exact List.take_of_length_le (by simp [hvs.length]; omega)
                  · simp [hvs.length]; omega
                rw [this]; exact (hr.app hvs).mono hgo.2.ext) (by simp [hvs.length]; omega) (by simp only [List.all_append, Bool.and_eq_true]; exact ⟨hok, hnk⟩) rfl rfl rfl rfl
              have hst := hgo.2.trans hal.2
              have hcap : n' + k ≤ grownCap w (n' + k) cap e := by unfold grownCap Question.cut; simp
              refine ⟨_, _, _, exec_builtin ho hc hx _ _ Builtin.append_ (fun _ _ _ _ => rfl) (by rw [hts', hv]; exact hrun), R.put hst hal.1 ?_ hd, hst⟩
              refine .sl (upd_same _ _ _) hcap ⟨_, e, (0, 0), heap_alloc_new w.drew _, ?_⟩ .nil
              have e9 : (C.toList.take cs.length).length = n' * ed.sz := by simp; omega
              rw [Array.size_append, List.size_toArray, List.length_append, hvl, zeroCells_size, he.len, e9]
              generalize grownCap w (n' + k) cap e = G at hcap ⊢
              have := Nat.mul_le_mul_right ed.sz (show G ≤ n' + k + (G - (n' + k)) by omega)
              rw [Nat.add_mul, Nat.add_mul] at this
              omega
          · simp at hdst
        · simp at hdst
    · simp at h
  · simp at h
end
end Go.Proofs.Ytlgimmafejbmgaa.AM
