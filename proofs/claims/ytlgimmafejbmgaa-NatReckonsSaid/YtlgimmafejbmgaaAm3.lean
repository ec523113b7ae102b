/- The abstract machine: operations that change no memory are sound. -/
import Derived.Test.YtlgimmafejbmgaaAm2
namespace Go.Proofs.Ytlgimmafejbmgaa.AM
set_option linter.all false
set_option autoImplicit true
set_option relaxedAutoImplicit true
open Go
section
variable {W : Nat → Prop} {X : Nat → Prop} {φ : Nat → Option (Option Nat)} {s : St} {a : Act} {w : World} {P : Program} {T : Nat → Option TyD}

theorem run_sizeOf' {t : TypeId} {i : TypeInfo} (h : P.info? t = some i) (w : World) : (sizeOf t).run P w = .ok i.size w := by
  simp [sizeOf, typeInfo, h]

theorem run_isAgg' {t : TypeId} {u : TypeDesc} (h : P.underlying t = some u) (w : World) : (isAgg t).run P w = .ok u.isRow w := by
  unfold isAgg
  rw [Sem.run_bind, run_underlying h w]
  cases u <;> simp

theorem TyD.ok.row_eq {t d u i z} (h : TyD.ok P t d u i z) : u.isRow = d.row := by
  have := h.k
  unfold TyD.row
  cases hk : d.k <;> rw [hk] at this <;> cases u <;> simp_all [TK.ok]

/-- A part of an aggregate. -/
theorem run_part {t d u i z cs as off} (h : TyD.ok P t d u i z) (hr : RL W φ w cs as) (hp : (rd d as off).1) :
    ∃ v, (part t cs.toArray off).run P w = .ok v w ∧ RL W φ w [v] [(rd d as off).2] := by
  unfold part
  rw [Sem.run_bind, run_isAgg' h.un, h.row_eq]
  unfold rd at hp ⊢
  cases hd : d.row
  · rw [hd] at hp
    simp at hp ⊢
    obtain ⟨h1, h2⟩ := hp
    obtain ⟨v, h3, h4⟩ := hr.at (i := off) (a := as[off]) (by simp) (by
      have : as[off]?.getD .junk = as[off] := by simp [h1]
      rw [this] at h2
      revert h2; cases as[off] <;> simp [AV.one, AV.plain])
    rw [h3]
    refine ⟨v, rfl, ?_⟩
    simpa [h1] using h4
  · rw [hd] at hp
    simp at hp ⊢
    rw [run_sizeOf' h.info, h.size]
    refine ⟨_, rfl, ?_⟩
    have := hr.cut hp
    exact .agg this .nil

/-- Cells that can be read. -/
def Reads (w : World) (b o : Nat) (us : List Value) : Prop := ∀ j u, us[j]? = some u → w.cell? ⟨b, o + j, none⟩ = some u

theorem run_loadVar' {t d u i z b o us as} (off : Nat) (h : TyD.ok P t d u i z) (hc : Reads w b o us) (hr : RL W φ w us as) (hp : (rd d as off).1) :
    ∃ v, (loadVar t ⟨b, o + off, none⟩).run P w = .ok v w ∧ RL W φ w [v] [(rd d as off).2] := by
  unfold rd at hp ⊢
  cases hd : d.row
  · rw [hd] at hp
    simp at hp ⊢
    obtain ⟨h1, h2⟩ := hp
    obtain ⟨v, h3, h4⟩ := hr.at (i := off) (a := as[off]) (by simp) (by
      have : as[off]?.getD .junk = as[off] := by simp [h1]
      rw [this] at h2
      revert h2; cases as[off] <;> simp [AV.one, AV.plain])
    refine ⟨v, ?_, by simpa [h1] using h4⟩
    unfold loadVar
    rw [Sem.run_bind, run_isAgg' h.un, h.row_eq, hd]
    simp [load, Sem.run, hc _ _ h3]
  · rw [hd] at hp
    simp at hp ⊢
    have hl := hr.length
    refine ⟨.agg ((us.drop off).take d.sz).toArray, ?_, .agg (hr.cut hp) .nil⟩
    refine run_loadVar_mid w b (o + off) t _ u (fun j v hj => ?_) h.un (by rw [h.row_eq, hd]) ?_
    · rw [List.getElem?_take] at hj
      split at hj
      · rw [List.getElem?_drop] at hj
        rw [Nat.add_assoc]; exact hc _ _ hj
      · simp at hj
    · simp [h.info, h.size]
      have := hp.1
      omega

/-- What a live or read-only object's cells read as. -/
theorem RelM.peek (R : RelM X φ s.m w) {x : AV} {cs off v} (hp : peek s.m x = some (cs, off)) (hx : RL (Wr X φ s.m) φ w [v] [x]) :
    ∃ b o us, v = .pointer (some ⟨b, o + off, none⟩) ∧ Reads w b o us ∧ RL (Wr X φ s.m) φ w us cs := by
  cases x <;> simp [AM.peek] at hp
  case ref r off' =>
    obtain ⟨q, hc, rfl, rfl⟩ := hp
    have ho := R.obj r
    cases hm : s.m r <;> rw [hm] at hc ho <;> simp [objCells] at hc
    all_goals
      subst hc
      obtain ⟨b, hb, c, e, hh, hl, hr, _⟩ := ho
      refine ⟨b, 0, _, ?_, ?_, hr⟩
      · rw [RL.ref_inv hx hb]; simp
      · intro j u hj
        rw [List.getElem?_take] at hj
        split at hj
        · rw [cell_of_row w b _ c e _ hh]; simpa using hj
        · simp at hj
  case fref cs' =>
    obtain ⟨rfl, rfl⟩ := hp
    obtain ⟨b, o, us, rfl, h1, h2, h3⟩ := RL.fref_inv hx
    exact ⟨b, o, us, rfl, h2, h3⟩

theorem set_all (off : Nat) : ∀ (l : List Value) (k : Nat) (cs : Array Value), off + k + l.length ≤ cs.size →
    ((l.zipIdx k).foldl (fun cs (x : Value × Nat) => cs.setIfInBounds (off + x.2) x.1) cs).toList = cs.toList.take (off + k) ++ l ++ cs.toList.drop (off + k + l.length)
  | [], k, cs, h => by simp
  | v :: l, k, cs, h => by
    simp only [List.length_cons] at h
    rw [List.zipIdx_cons, List.foldl_cons, set_all off l (k + 1) _ (by simp; omega)]
    simp only [Array.toList_setIfInBounds, List.length_cons]
    rw [List.take_set, List.drop_set_of_lt (by omega)]
    have e : (cs.toList.take (off + (k + 1))).set (off + k) v = cs.toList.take (off + k) ++ [v] := by
      have hlt : off + k < cs.toList.length := by simp; omega
      rw [show off + (k + 1) = off + k + 1 by omega, List.take_succ_eq_append_getElem hlt, List.set_append_right _ _ (by simp; omega)]
      simp [Nat.min_eq_left (show off + k ≤ cs.size by omega)]
    rw [e]
    simp [show off + (k + 1) + l.length = off + k + (l.length + 1) by omega]

theorem AV.one_ck {v : AV} (h : v.one = true) : v.ck = true := by cases v <;> simp_all [AV.one, AV.ck]
theorem AV.one_plain {v : AV} (h : v.one = true) : v.plain = true := by cases v <;> simp_all [AV.one, AV.plain]

theorem RL.one_cell {u v} (h : RL W φ w [u] [v]) (hv : v.one = true) : u.cells = #[u] := by
  have := h.cells (by simp [AV.one_ck hv]) u (by simp)
  cases u <;> simp_all [Value.oneCell', Value.cells]

theorem wr_sound {d : TyD} {cs as off u v} (hd : d.row = false → d.sz = 1) (hr : RL W φ w cs as) (hu : RL W φ w [u] [v]) (hp : (wr d as off v).1) :
    u.cells.size = d.sz ∧ off + d.sz ≤ cs.length ∧ RL W φ w (cs.take off ++ u.cells.toList ++ cs.drop (off + d.sz)) (wr d as off v).2 ∧ (wr d as off v).2.length = as.length ∧ (∀ c ∈ u.cells.toList, c.oneCell' = true) ∧
      (as.all AV.ck = true → (wr d as off v).2.all AV.ck = true) := by
  have hl := hr.length
  unfold wr at hp ⊢
  cases hrow : d.row <;> rw [hrow] at hp <;> simp at hp ⊢
  · obtain ⟨h1, h2, h3⟩ := hp
    have hc := hu.one_cell h3
    rw [hc]
    have h2' : as[off].plain = true := by simpa [h1] using h2
    refine ⟨by simp [hd hrow], by rw [hd hrow]; omega, ?_, ?_, ?_⟩
    · have := hr.set (i := off) (a := as[off]) (by simp) h2' hu
      rw [List.set_eq_take_append_cons_drop, if_pos (by omega)] at this
      simpa [hd hrow] using this
    · have := hu.cells (by simp [AV.one_ck h3]) u (by simp)
      simpa using this
    · intro hk x hx
      rcases List.mem_or_eq_of_mem_set hx with h | rfl
      · exact hk x h
      · exact AV.one_ck h3
  · obtain ⟨h1, h2, h3⟩ := hp
    have hu' := hu.cellsV (by simpa using h3)
    have hl' := hu'.length
    have hsz : u.cells.size = d.sz := by simpa [h2] using hl'
    refine ⟨hsz, by have := h1.1; omega, ?_, ?_, ?_, ?_⟩
    · have := hr.over h1 hu' h2
      simpa [hsz] using this
    · unfold over; have := h1.1; simp [h2]; omega
    · exact fun c hc => hu'.cells (by simpa using h3) c (by simpa using hc)
    · intro hk x hx
      unfold over at hx
      simp only [List.mem_append] at hx
      rcases hx with (h | h) | h
      · exact hk x (List.mem_of_mem_take h)
      · exact h3 x h
      · exact hk x (List.mem_of_mem_drop h)

theorem fill_cond (pl : Nat → Option (Nat × TyD)) : ∀ (l : List (Nat × AV)) (p p' : Prop) (as as' : List AV), fill pl (p, as) l = some (p', as') → p' → p
  | [], p, p', as, as', h, hp => by simp [fill] at h; rw [h.1]; exact hp
  | (i, v) :: l, p, p', as, as', h, hp => by
    simp only [fill] at h
    cases hi : pl i with
    | none => simp [hi] at h
    | some y => simp only [hi] at h; exact (fill_cond pl l _ _ _ _ h hp).1

theorem fill_sound (R : Rel X φ s a w) (place : Nat → Option (Nat × Nat)) (pl : Nat → Option (Nat × TyD))
    (hpl : ∀ i x, pl i = some x → place i = some (x.1, x.2.sz) ∧ (x.2.row = false → x.2.sz = 1)) :
    ∀ (l : List (Nat × Operand)) (cs : List Value) (as : List AV) (p p' : Prop) (as' : List AV), RL (Wr X φ s.m) φ w cs as → fill pl (p, as) (l.map fun x => (x.1, aev s x.2)) = some (p', as') → p' →
    p ∧ ∃ cs', Instr.fill place cs.toArray (l.map fun x => (x.1, a.eval x.2)) = some cs'.toArray ∧ RL (Wr X φ s.m) φ w cs' as' ∧ as'.length = as.length ∧ (as.all AV.ck = true → as'.all AV.ck = true)
  | [], cs, as, p, p', as', hr, hf, hp => by
    simp [fill] at hf
    obtain ⟨hpp, rfl⟩ := hf
    exact ⟨hpp.2 hp, cs, rfl, hr, rfl, id⟩
  | (i, x) :: l, cs, as, p, p', as', hr, hf, hp => by
    simp only [List.map_cons, fill] at hf
    cases hi : pl i with
    | none => simp [hi] at hf
    | some y =>
      obtain ⟨off, d⟩ := y
      simp only [hi] at hf
      have hq := fill_cond _ _ _ _ _ _ hf hp
      obtain ⟨h1, h2⟩ := hpl i _ hi
      obtain ⟨k1, k2, k3, k4, k5, k6⟩ := wr_sound h2 hr (R.ev x) hq.2
      obtain ⟨hq1, cs', hq2, hq3, hq4, hq5⟩ := fill_sound R place pl hpl l (cs.take off ++ (a.eval x).cells.toList ++ cs.drop (off + d.sz)) (wr d as off (aev s x)).2 (p ∧ (wr d as off (aev s x)).1) p' as' k3 hf hp
      refine ⟨hq1.1, cs', ?_, hq3, by rw [hq4, k4], fun hk => hq5 (k6 hk)⟩
      simp only [List.map_cons, Instr.fill, h1]
      rw [if_neg (by simp [k1]; omega)]
      rw [← hq2]
      congr 1
      apply Array.ext'
      rw [← Array.foldl_toList, Array.toList_zipIdx, set_all off _ 0 _ (by simp; omega)]
      simp [k1]

theorem place_struct {d : TyD} {fs} (hk : d.k = .struct fs) {j x} (hx : place T d j = some x) : ∃ o t', fs[j]? = some (o, t') ∧ T t' = some x.2 ∧ x.1 = o := by
  simp only [place, hk, Option.bind_eq_some_iff, Option.map_eq_some_iff] at hx
  obtain ⟨⟨o, t'⟩, h1, y, h2, rfl⟩ := hx
  exact ⟨o, t', h1, h2, rfl⟩
theorem place_array {d : TyD} {n e} (hk : d.k = .array n e) {j x} (hx : place T d j = some x) : j < n ∧ T e = some x.2 ∧ x.1 = j * x.2.sz := by
  simp only [place, hk] at hx
  simp at hx
  obtain ⟨h1, y, h2, rfl⟩ := hx
  exact ⟨h1, h2, rfl⟩

theorem TyD.ok.struct {t d u i z fs} (h : TyD.ok P t d u i z) (hk : d.k = .struct fs) : ∃ gs, u = .struct gs ∧ gs.toList.map (fun f : Field => (f.offset, f.type)) = fs := by
  have := h.k; rw [hk] at this; cases u <;> simp [TK.ok] at this; exact ⟨_, rfl, this⟩
theorem TyD.ok.array {t d u i z n e} (h : TyD.ok P t d u i z) (hk : d.k = .array n e) : u = .array n e := by
  have := h.k; rw [hk] at this; cases u <;> simp [TK.ok] at this; obtain ⟨rfl, rfl⟩ := this; rfl
theorem TyD.ok.slice {t d u i z e} (h : TyD.ok P t d u i z) (hk : d.k = .slice e) : u = .slice e := by
  have := h.k; rw [hk] at this; cases u <;> simp [TK.ok] at this; subst this; rfl
theorem TyD.ok.string {t d u i z} (h : TyD.ok P t d u i z) (hk : d.k = .string) : u = .string := by
  have := h.k; rw [hk] at this; cases u <;> simp [TK.ok] at this; rfl
theorem TyD.ok.int {t d u i z k} (h : TyD.ok P t d u i z) (hk : d.k = .int k) : u = .int k := by
  have := h.k; rw [hk] at this; cases u <;> simp [TK.ok] at this; subst this; rfl
theorem TyD.ok.boolT {t d u i z} (h : TyD.ok P t d u i z) (hk : d.k = .bool) : u = .bool := by
  have := h.k; rw [hk] at this; cases u <;> simp [TK.ok] at this; rfl
theorem TyD.ok.not_row {t d u i z} (h : TyD.ok P t d u i z) (hk : d.k = .other) : u.isRow = false := by
  have := h.k; rw [hk] at this; exact this

theorem get_map_fields {gs : Array Field} {fs : List (Nat × Nat)} (h : gs.toList.map (fun f : Field => (f.offset, f.type)) = fs) {j o t' : Nat} (hj : fs[j]? = some (o, t')) :
    ∃ g : Field, gs[j]? = some g ∧ g.offset = o ∧ g.type = t' := by
  subst h
  rw [List.getElem?_map] at hj
  cases hg : gs.toList[j]? with
  | none => simp [hg] at hj
  | some g => simp [hg] at hj; exact ⟨g, by simpa using hg, hj.1, hj.2⟩

theorem build_sound (HT : TyOk P T) (R : Rel X φ s a w) {t d u i z} (h : TyD.ok P t d u i z) (ps : List (Nat × Operand)) {p cs} (hf : fill (place T d) (True, d.zero) (ps.map fun x => (x.1, aev s x.2)) = some (p, cs)) (hp : p) (hrow : d.row = true) (he : elemOk T d = true) :
    ∃ v, (Instr.build t (ps.map fun x => (x.1, a.eval x.2)).toArray).run P w = .ok v w ∧ RL (Wr X φ s.m) φ w [v] [.agg cs] := by
  have hz := h.rep (Wr X φ s.m) φ w
  cases hk : d.k with
  | struct fs =>
    obtain ⟨gs, rfl, hgs⟩ := h.struct hk
    have hm := mapM_some_of_forall (f := fun f : Field => (P.info? f.type).map fun i => (f.offset, i.size)) (g := fun f => (f.offset, P.cellsOf f.type)) gs.toList (fun g hg => by
      have := List.all_eq_true.1 h.flds g hg
      obtain ⟨i, hi⟩ := Option.isSome_iff_exists.1 this
      simp [hi, Program.cellsOf])
    have hpl : ∀ j x, place T d j = some x → (((gs.toList.map fun f : Field => (f.offset, P.cellsOf f.type)).toArray : Array (Nat × Nat))[j]? : Option (Nat × Nat)) = some (x.1, x.2.sz) ∧ (x.2.row = false → x.2.sz = 1) := by
      intro j x hx
      obtain ⟨o, t', h1, h2, h3⟩ := place_struct hk hx
      obtain ⟨u', i', z', h4⟩ := HT _ _ h2
      obtain ⟨g, hg, rfl, rfl⟩ := get_map_fields hgs h1
      refine ⟨?_, h4.sz1⟩
      simp [hg, Program.cellsOf, h4.info, h4.size, h3]
    obtain ⟨_, cs', h1, h2, _, _⟩ := fill_sound R _ _ hpl ps _ _ _ _ _ hz hf hp
    refine ⟨_, Go.run_build w t _ cs'.toArray ?_, .agg h2 .nil⟩
    unfold Program.built
    simp only [h.info, h.un, h.zero, hm]
    exact h1
  | array n e =>
    have := h.array hk
    subst this
    cases hTe : T e with
    | none => simp [elemOk, hk, hTe] at he
    | some ed =>
      obtain ⟨u', i', z', h4⟩ := HT _ _ hTe
      have hpl : ∀ j x, place T d j = some x → (fun i => some (i * ed.sz, ed.sz)) j = some (x.1, x.2.sz) ∧ (x.2.row = false → x.2.sz = 1) := by
        intro j x hx
        obtain ⟨h1, h2, h3⟩ := place_array hk hx
        rw [hTe] at h2; simp at h2; subst h2
        exact ⟨by simp [h3], h4.sz1⟩
      obtain ⟨_, cs', h1, h2, _, _⟩ := fill_sound R _ _ hpl ps _ _ _ _ _ hz hf hp
      refine ⟨_, Go.run_build w t _ cs'.toArray ?_, .agg h2 .nil⟩
      unfold Program.built
      simp only [h.info, h.un, h.zero, h4.info, h4.size]
      exact h1
  | _ => simp [TyD.row, hk] at hrow


theorem RL.z_nat : RL W φ w [.int .u64 0, .slice none 0 0] [.opq (.nat 0), .pad] := .opq (us := [.int .u64 0, .slice none 0 0]) (vs := []) rfl (.int _ _ (.nils .nil)) .nil rfl rfl
theorem RL.z_rnat : RL W φ w [.slice none 0 0] [.opq (.rnat 0)] :=
  .opq (us := [.slice none 0 0]) (vs := []) rfl (by rw [show (Pay.rnat 0).open = [.imm 0 []] by simp [Pay.open, digs]]; exact .imm0 _ _ .nil) .nil rfl rfl
theorem RL.z_whole : RL W φ w [.bool false, .int .u64 0, .slice none 0 0] [.opq (.whole 0), .pad, .pad] :=
  .opq (us := [.bool false, .int .u64 0, .slice none 0 0]) (vs := []) rfl (.bool false RL.z_nat) .nil rfl rfl
theorem RL.z_frac : RL W φ w [.bool false, .int .u64 0, .slice none 0 0, .int .u64 0, .slice none 0 0] [.opq (.frac 0), .pad, .pad, .pad, .pad] :=
  .opq (us := [.bool false, .int .u64 0, .slice none 0 0, .int .u64 0, .slice none 0 0]) (vs := []) rfl (RL.z_whole.app RL.z_nat) .nil rfl rfl
theorem RL.z_vec : RL W φ w [.bool false, .int .u64 0, .slice none 0 0, .int .u64 0, .slice none 0 0, .bool false, .int .u64 0, .slice none 0 0, .int .u64 0, .slice none 0 0, .bool false, .int .u64 0, .slice none 0 0, .int .u64 0, .slice none 0 0]
    [.opq (.vec 0 0 0), .pad, .pad, .pad, .pad, .pad, .pad, .pad, .pad, .pad, .pad, .pad, .pad, .pad, .pad] :=
  .opq (us := [.bool false, .int .u64 0, .slice none 0 0, .int .u64 0, .slice none 0 0, .bool false, .int .u64 0, .slice none 0 0, .int .u64 0, .slice none 0 0, .bool false, .int .u64 0, .slice none 0 0, .int .u64 0, .slice none 0 0]) (vs := []) rfl (RL.z_frac.app (RL.z_frac.app RL.z_frac)) .nil rfl rfl
end
end Go.Proofs.Ytlgimmafejbmgaa.AM
