/- The abstract machine: a region whose order is drawn (2): operations that do not write may be done in either order. -/
import Derived.Test.YtlgimmafejbmgaaAm10
namespace Go.Proofs.Ytlgimmafejbmgaa.AM
set_option linter.all false
set_option autoImplicit true
set_option relaxedAutoImplicit true
open Go
section
variable {X : Nat → Prop} {φ : Nat → Option (Option Nat)} {m : Nat → AObj} {s s1 s2 s' F : St} {a : Act} {w w' : World} {P : Program} {T : Nat → Option TyD} {E : Env} {o x y : Oper} {ops : Array Oper}

inductive Eff where
  | keep
  | new (nx : Nat) (cs : List AV)
  | frz (l : List AV)

def Eff.app (m : Nat → AObj) : Eff → (Nat → AObj)
  | .keep => m
  | .new nx cs => upd m nx (.live cs)
  | .frz l => snapM m l

def sls (l : List AV) : List Nat := l.filterMap fun | .sl r _ _ _ => some r | _ => none

theorem freeze_freeze (x : AObj) : x.freeze.freeze = x.freeze := by cases x <;> rfl

theorem snapM_eq : ∀ (l : List AV) (m : Nat → AObj) (r : Nat), snapM m l r = if r ∈ sls l then (m r).freeze else m r
  | [], m, r => by simp [snapM, sls]
  | x :: l, m, r => by
    cases x
    case sl q off n sz =>
      simp only [snapM]
      rw [snapM_eq l]
      have e : sls (.sl q off n sz :: l) = q :: sls l := rfl
      rw [e]
      by_cases h : r = q
      · subst h; simp [upd_same, freeze_freeze]
      · simp [upd, h]
    all_goals simp only [snapM]; rw [snapM_eq l]; rfl

theorem mem_sls {l : List AV} {r : Nat} (h : r ∈ sls l) : ∃ off n sz, AV.sl r off n sz ∈ l := by
  obtain ⟨v, hv, ht⟩ := List.mem_filterMap.1 h
  cases v <;> simp at ht
  subst ht
  exact ⟨_, _, _, hv⟩

/-- What two states have in common for an operation, its guard too. -/
structure AlikeG (ops : Array Oper) (s s2 : St) (o : Oper) : Prop where
  slots : ∀ d ∈ o.looksAt ops, s2.t d = s.t d
  mem : looks o.op = true → ∀ x ∈ o.op.operands, ∀ r ∈ ids (aev s x), ∀ cs, objCells (s.m r) = some cs → objCells (s2.m r) = some cs
  al : ∀ x ∈ o.op.operands, ∀ r ∈ ids (aev s x), AM.alive s.m r → AM.alive s2.m r

theorem AlikeG.alike (A : AlikeG ops s s2 o) : Alike s s2 o := by
  refine ⟨fun x hx => ?_, A.mem, A.al⟩
  cases x with
  | tmp i =>
    simp only [aev]
    refine A.slots i ?_
    unfold Oper.looksAt
    refine List.mem_append_left _ (List.mem_filterMap.2 ⟨.tmp i, by simpa using hx, rfl⟩)
  | _ => rfl

def wantV (want : Bool) : AV → Option Bool
  | .bool b => some (b == want)
  | .tup _ => some false
  | _ => none
def wantedA (ops : Array Oper) (o : Oper) (s : St) : Option Bool :=
  match o.guard with
  | none => some true
  | some (j, want) => (((ops[j]?).bind (·.dst)).map s.t).bind (wantV want)

theorem AlikeG.wanted (A : AlikeG ops s s2 o) : wantedA ops o s2 = wantedA ops o s := by
  unfold wantedA
  cases hg : o.guard with
  | none => rfl
  | some g =>
    obtain ⟨j, want⟩ := g
    simp only []
    cases hd : (ops[j]?).bind (·.dst) with
    | none => rfl
    | some d =>
      simp only [Option.map_some]
      rw [A.slots d (by unfold Oper.looksAt; refine List.mem_append_right _ ?_; simp [hg, hd])]

def AStepG (E : Env) (ops : Array Oper) (o : Oper) (s s' : St) : Prop :=
  (wantedA ops o s = some true ∧ ∃ nx p, aStep E nx s o = some (p, s') ∧ p) ∨ (wantedA ops o s = some false ∧ s' = s.put o.dst (.tup []))

/-- The objects that an operation looks at are there. -/
def Closed (s : St) (o : Oper) : Prop := ∀ x ∈ o.op.operands, ∀ r ∈ ids (aev s x), s.m r ≠ .unused

theorem aal_alike (A : Alike s s2 o) : aal T s2 o = aal T s o := by
  have op1 : ∀ {x}, x ∈ o.op.operands → aev s2 x = aev s x := fun {x} => A.ev x
  unfold aal
  cases ho : o.op <;> try rfl
  case box t x => simp only []; rw [op1 (x := x) (by simp [ho, Op.operands])]
  case buildSlice t n ps =>
    have e : (ps.toList.map fun x => (x.1, aev s2 x.2)) = (ps.toList.map fun x => (x.1, aev s x.2)) := List.map_congr_left fun x hx => by
      rw [op1 (by simp only [ho, Op.operands, List.mem_toArray]; simp; exact ⟨x.1, by simpa using hx⟩)]
    simp only [e]
  case makeSlice t l c => simp only []; rw [op1 (x := l) (by simp [ho, Op.operands]), op1 (x := c) (by simp [ho, Op.operands])]

theorem callee_alike (A : Alike s s2 o) : callee s2 o = callee s o := by
  unfold callee
  split
  · rename_i f args ts ho
    rw [A.ev f (by simp [ho, Op.operands, Call.operands])]
    have e : args.toList.map (aev s2) = args.toList.map (aev s) := List.map_congr_left fun x hx => A.ev x (by simp [ho, Op.operands, Call.operands]; right; simpa using hx)
    simp only [e]
  · rfl

theorem callee_ids {f args} (h : callee s o = some (f, args)) {r} (hr : r ∈ sls (args.flatMap AV.cells)) : ∃ x ∈ o.op.operands, r ∈ ids (aev s x) := by
  obtain ⟨off, n, sz, hm⟩ := mem_sls hr
  unfold callee at h
  split at h
  · rename_i g as ts ho
    split at h
    · rename_i f' fs cs he
      simp only [Option.some.injEq, Prod.mk.injEq] at h
      obtain ⟨rfl, rfl⟩ := h
      simp only [List.flatMap_append, List.mem_append] at hm
      have hfn : ∀ v, v ∈ fs.flatMap AV.cells ∨ v ∈ cs.flatMap AV.cells → top v = some r → ∃ x ∈ o.op.operands, r ∈ ids (aev s x) := by
        intro v hv ht
        refine ⟨g, by simp [ho, Op.operands, Call.operands], ?_⟩
        rw [he]
        simp only [ids, List.flatMap_append]
        exact List.mem_filterMap.2 ⟨v, List.mem_append.2 hv, ht⟩
      rcases hm with (hm | hm) | hm
      · exact hfn _ (.inl hm) rfl
      · obtain ⟨v, hv, hc⟩ := List.mem_flatMap.1 hm
        obtain ⟨x, hx, rfl⟩ := List.mem_map.1 hv
        refine ⟨x, by simp [ho, Op.operands, Call.operands]; right; simpa using hx, ?_⟩
        unfold ids
        split
        · rename_i f2 fs2 cs2 he2
          rw [he2] at hc; simp [AV.cells] at hc
        · exact List.mem_filterMap.2 ⟨_, hc, rfl⟩
      · exact hfn _ (.inr hm) rfl
    · simp at h
  · simp at h

theorem snap1_alike {v : AV} (hc : snapC1 s.m v) (hm : ∀ r off n sz, v = .sl r off n sz → ∀ cs, objCells (s.m r) = some cs → objCells (s2.m r) = some cs) : snap1 s2.m v = snap1 s.m v ∧ snapC1 s2.m v := by
  cases v <;> try exact ⟨rfl, trivial⟩
  rename_i r off n sz
  simp only [snapC1] at hc
  split at hc
  · rename_i cs he
    have := hm r off n sz rfl cs he
    exact ⟨by simp [snap1, he, this], by simp only [snapC1, this]; exact hc⟩
  · exact hc.elim

theorem snapL_alike : ∀ {l : List AV}, snapC s.m l → (∀ r ∈ sls l, ∀ cs, objCells (s.m r) = some cs → objCells (s2.m r) = some cs) → (∀ v ∈ l, snap1 s2.m v = snap1 s.m v) ∧ snapC s2.m l
  | [], _, _ => ⟨by simp, trivial⟩
  | v :: l, h, hm => by
    obtain ⟨h1, h2⟩ := snapL_alike (l := l) h.2 (fun r hr => hm r (by cases v <;> first | exact hr | exact List.mem_cons_of_mem _ hr))
    obtain ⟨h3, h4⟩ := snap1_alike (s2 := s2) h.1 (fun r off n sz e => hm r (by subst e; exact List.mem_cons_self))
    refine ⟨fun u hu => ?_, h4, h2⟩
    rcases List.mem_cons.1 hu with rfl | hu
    · exact h3
    · exact h1 u hu

theorem snapV_alike {l : List AV} (hc : snapC s.m (l.flatMap AV.cells)) (hm : ∀ r ∈ sls (l.flatMap AV.cells), ∀ cs, objCells (s.m r) = some cs → objCells (s2.m r) = some cs) : l.map (snapV s2.m) = l.map (snapV s.m) := by
  obtain ⟨h1, _⟩ := snapL_alike hc hm
  refine List.map_congr_left fun v hv => ?_
  cases v
  case agg cs =>
    simp only [snapV]
    congr 1
    exact List.map_congr_left fun u hu => h1 u (List.mem_flatMap.2 ⟨_, hv, hu⟩)
  all_goals simp only [snapV]; exact h1 _ (List.mem_flatMap.2 ⟨_, hv, by simp [AV.cells]⟩)

/-- An operation that does not write: what it does is the same in an alike state. -/
theorem nw_step (hk : (kind o.op).writes = false) {nx p} (h : aStep E nx s o = some (p, s')) (hp : p) :
    ∃ v e, s' = { (s.put o.dst v) with m := Eff.app s.m e } ∧ (∀ q cs, e = .new q cs → s.m q = .unused) ∧
      (∀ l, e = .frz l → ∀ r ∈ sls l, s.m r ≠ .unused ∧ ∃ x ∈ o.op.operands, r ∈ ids (aev s x)) ∧
      (∀ s2, Alike s s2 o → (∀ q cs, e = .new q cs → s2.m q = .unused) → ∃ nx2 p2, aStep E nx2 s2 o = some (p2, { (s2.put o.dst v) with m := Eff.app s2.m e }) ∧ p2) := by
  unfold aStep at h
  cases hkd : kind o.op <;> rw [hkd] at hk <;> simp [Kd.writes] at hk <;> simp only [hkd] at h
  · simp only [Option.map_eq_some_iff, Prod.exists, Prod.mk.injEq] at h
    obtain ⟨q, v, h1, rfl, rfl⟩ := h
    refine ⟨v, .keep, rfl, by simp, by simp, fun s2 A _ => ?_⟩
    obtain ⟨p2, h2, h3⟩ := pev_alike A h1 hp
    refine ⟨0, p2, ?_, h3⟩
    simp only [aStep, hkd, h2, Option.map_some]; rfl
  · simp only [Option.map_eq_some_iff, Prod.exists, Prod.mk.injEq] at h
    obtain ⟨q, cs, f, h1, rfl, rfl⟩ := h
    refine ⟨f nx, .new nx cs, rfl, fun q' cs' e => by simp at e; rw [← e.1]; exact hp.2.1, fun l e => by simp at e, fun s2 A hu => ?_⟩
    refine ⟨nx, q ∧ s2.m nx = .unused ∧ cs.all AV.ck = true, ?_, hp.1, hu nx cs rfl, hp.2.2⟩
    simp only [aStep, hkd, aal_alike A, h1, Option.map_some]; rfl
  · simp only [Option.bind_eq_some_iff, Option.map_eq_some_iff, Prod.exists, Prod.mk.injEq] at h
    obtain ⟨f, args, h1, q, r, h2, rfl, rfl⟩ := h
    have hids : ∀ r ∈ sls (args.flatMap AV.cells), ∃ x ∈ o.op.operands, r ∈ ids (aev s x) := fun r hr => callee_ids h1 hr
    refine ⟨r, .frz (args.flatMap AV.cells), rfl, by simp, fun l e r hr => ?_, fun s2 A _ => ?_⟩
    · simp at e; subst e
      refine ⟨fun hu => ?_, hids r hr⟩
      obtain ⟨off, n, sz, hm⟩ := mem_sls hr
      obtain ⟨cs, hc, _⟩ := snapC_at hp.2 hm
      rw [hu] at hc; simp [objCells] at hc
    · have hm : ∀ r ∈ sls (args.flatMap AV.cells), ∀ cs, objCells (s.m r) = some cs → objCells (s2.m r) = some cs := fun r hr => by
        obtain ⟨x, hx, hi⟩ := hids r hr
        exact A.mem (by revert hkd; cases o.op <;> simp [kind, looks]) x hx r hi
      refine ⟨0, q ∧ snapC s2.m (args.flatMap AV.cells), ?_, hp.1, (snapL_alike hp.2 hm).2⟩
      simp only [aStep, hkd, callee_alike A, h1, Option.bind_some, snapV_alike hp.2 hm, h2, Option.map_some]; rfl

theorem nw_stepG (hk : (kind o.op).writes = false) (h : AStepG E ops o s s') :
    ∃ v e, s' = { (s.put o.dst v) with m := Eff.app s.m e } ∧ (∀ q cs, e = .new q cs → s.m q = .unused) ∧
      (∀ l, e = .frz l → ∀ r ∈ sls l, s.m r ≠ .unused ∧ ∃ x ∈ o.op.operands, r ∈ ids (aev s x)) ∧
      (∀ s2, AlikeG ops s s2 o → (∀ q cs, e = .new q cs → s2.m q = .unused) → AStepG E ops o s2 { (s2.put o.dst v) with m := Eff.app s2.m e }) := by
  rcases h with ⟨hw, nx, p, h1, hp⟩ | ⟨hw, rfl⟩
  · obtain ⟨v, e, h2, h3, h4, h5⟩ := nw_step hk h1 hp
    refine ⟨v, e, h2, h3, h4, fun s2 A hu => .inl ⟨by rw [A.wanted]; exact hw, ?_⟩⟩
    obtain ⟨nx2, p2, h6, h7⟩ := h5 s2 A.alike hu
    exact ⟨nx2, p2, h6, h7⟩
  · exact ⟨.tup [], .keep, rfl, by simp, by simp, fun s2 A _ => .inr ⟨by rw [A.wanted]; exact hw, rfl⟩⟩

theorem put_t (s : St) (d : Option Nat) (v : AV) {j : Nat} (h : d ≠ some j) : (s.put d v).t j = s.t j := by
  cases d with
  | none => rfl
  | some d => simp only [St.put, upd]; rw [if_neg]; exact fun e => h (by rw [e])

theorem app_unused {e : Eff} {r : Nat} (h : Eff.app m e r = .unused) : m r = .unused := by
  cases e with
  | keep => exact h
  | new q cs =>
    simp only [Eff.app, upd] at h
    split at h
    · simp at h
    · exact h
  | frz l =>
    simp only [Eff.app, snapM_eq] at h
    split at h
    · revert h; cases m r <;> simp [AObj.freeze]
    · exact h

theorem app_unused' {e : Eff} {r : Nat} (h : m r = .unused) (hn : ∀ cs, e ≠ .new r cs) : Eff.app m e r = .unused := by
  cases e with
  | keep => exact h
  | new q cs =>
    simp only [Eff.app, upd]
    rw [if_neg]; exact h
    rintro rfl; exact hn cs rfl
  | frz l => simp only [Eff.app, snapM_eq, h]; split <;> rfl

theorem app_cells {e : Eff} {r : Nat} {cs} (he : ∀ q cs, e = .new q cs → m q = .unused) (h : objCells (m r) = some cs) : objCells (Eff.app m e r) = some cs := by
  cases e with
  | keep => exact h
  | new q cs' =>
    simp only [Eff.app, upd]
    rw [if_neg]; exact h
    rintro rfl
    rw [he _ _ rfl] at h; simp [objCells] at h
  | frz l => simp only [Eff.app]; rw [snapM_cells]; exact h

theorem app_cells' {e : Eff} {r : Nat} {cs} (he : ∀ q cs, e = .new q cs → m q = .unused) (hu : m r ≠ .unused) (h : objCells (Eff.app m e r) = some cs) : objCells (m r) = some cs := by
  cases e with
  | keep => exact h
  | new q cs' =>
    simp only [Eff.app, upd] at h
    rw [if_neg] at h; exact h
    rintro rfl
    exact hu (he _ _ rfl)
  | frz l => simp only [Eff.app] at h; rw [snapM_cells] at h; exact h

theorem app_comm {e e' : Eff} (h1 : ∀ q cs, e = .new q cs → m q = .unused) (h2 : ∀ q cs, e' = .new q cs → m q = .unused)
    (h3 : ∀ l, e = .frz l → ∀ r ∈ sls l, m r ≠ .unused) (h4 : ∀ l, e' = .frz l → ∀ r ∈ sls l, m r ≠ .unused) (h5 : ∀ q cs cs', e = .new q cs → e' ≠ .new q cs') :
    Eff.app (Eff.app m e) e' = Eff.app (Eff.app m e') e := by
  cases e with
  | keep => rfl
  | new q cs =>
    cases e' with
    | keep => rfl
    | new q' cs' =>
      funext j
      have : q ≠ q' := fun e => h5 q cs cs' rfl (by rw [e])
      simp only [Eff.app, upd]
      by_cases a : j = q
      · subst a; simp [this]
      · by_cases b : j = q'
        · subst b; simp [a]
        · simp [a, b]
    | frz l =>
      funext j
      simp only [Eff.app, snapM_eq, upd]
      by_cases a : j = q
      · subst a
        have : j ∉ sls l := fun hm => h4 l rfl j hm (h1 _ _ rfl)
        simp [this]
      · simp [a]
  | frz l =>
    cases e' with
    | keep => rfl
    | new q' cs' =>
      funext j
      simp only [Eff.app, snapM_eq, upd]
      by_cases a : j = q'
      · subst a
        have : j ∉ sls l := fun hm => h3 l rfl j hm (h2 _ _ rfl)
        simp [this]
      · simp [a]
    | frz l' =>
      funext j
      simp only [Eff.app, snapM_eq]
      by_cases a : j ∈ sls l <;> by_cases b : j ∈ sls l' <;> simp [a, b]

theorem operand_slot {z : Operand} (hz : z ∈ o.op.operands) {i} (e : z = .tmp i) : i ∈ o.looksAt ops := by
  subst e
  unfold Oper.looksAt
  exact List.mem_append_left _ (List.mem_filterMap.2 ⟨.tmp i, by simpa using hz, rfl⟩)

/-- Two that do not write and look at nothing of one another may be done in either order. -/
theorem swap (hx : (kind x.op).writes = false) (hy : (kind y.op).writes = false) (hap : Oper.apart ops x y = true) (hc : Closed s y) (h1 : AStepG E ops x s s1) (h2 : AStepG E ops y s1 s2) :
    ∃ s', AStepG E ops y s s' ∧ AStepG E ops x s' s2 := by
  obtain ⟨a1, a2, a3⟩ := Oper.apart_spec hap
  obtain ⟨vx, ex, rfl, x2, x3, x4⟩ := nw_stepG hx h1
  obtain ⟨vy, ey, rfl, y2, y3, y4⟩ := nw_stepG hy h2
  have evy : ∀ z ∈ y.op.operands, aev { (s.put x.dst vx) with m := Eff.app s.m ex } z = aev s z := fun z hz => by
    cases z with
    | tmp i => exact put_t _ _ _ (fun e => a1 _ e (operand_slot hz rfl))
    | _ => rfl
  have k1 : AStepG E ops y s { (s.put y.dst vy) with m := Eff.app s.m ey } := by
    have hcl : ∀ z ∈ y.op.operands, ∀ r ∈ ids (aev { (s.put x.dst vx) with m := Eff.app s.m ex } z), ∀ cs, objCells (({ (s.put x.dst vx) with m := Eff.app s.m ex } : St).m r) = some cs → objCells (s.m r) = some cs := fun z hz r hr cs hcs => by
      rw [evy z hz] at hr
      exact app_cells' x2 (hc z hz r hr) hcs
    exact y4 s ⟨fun d hd => (put_t _ _ _ (fun e => a1 _ e hd)).symm, fun _ => hcl, fun z hz r hr h => alive_alike h (hcl z hz r hr)⟩ (fun q cs e => app_unused (y2 q cs e))
  have y2' : ∀ q cs, ey = .new q cs → s.m q = .unused := fun q cs e => app_unused (y2 q cs e)
  have hne : ∀ q cs cs', ex = .new q cs → ey ≠ .new q cs' := fun q cs cs' e e' => by
    have := y2 q cs' e'
    simp [e, Eff.app, upd] at this
  refine ⟨_, k1, ?_⟩
  have k2 := x4 { (s.put y.dst vy) with m := Eff.app s.m ey } ⟨fun d hd => put_t _ _ _ (fun e => a3 _ e hd), fun _ z hz r hr cs hcs => app_cells y2' hcs, fun z hz r hr h => alive_alike h (fun cs hcs => app_cells y2' hcs)⟩ (fun q cs e => app_unused' (x2 q cs e) (fun cs' e' => hne q cs cs' e e'))
  have key : ({ ((({ (s.put x.dst vx) with m := Eff.app s.m ex } : St)).put y.dst vy) with m := Eff.app (({ (s.put x.dst vx) with m := Eff.app s.m ex } : St)).m ey } : St) = { ((({ (s.put y.dst vy) with m := Eff.app s.m ey } : St)).put x.dst vx) with m := Eff.app (({ (s.put y.dst vy) with m := Eff.app s.m ey } : St)).m ex } := by
    have em : Eff.app (Eff.app s.m ex) ey = Eff.app (Eff.app s.m ey) ex := app_comm x2 y2' (fun l e r hr => (x3 l e r hr).1) (fun l e r hr => by
      obtain ⟨_, z, hz, hi⟩ := y3 l e r hr
      rw [evy z hz] at hi
      exact hc z hz r hi) hne
    simp only [em, St.put]
    congr 1
    cases hxd : x.dst with
    | none => rfl
    | some dx =>
      cases hyd : y.dst with
      | none => rfl
      | some dy =>
        have : dx ≠ dy := fun e => a2 dx hxd (by rw [hyd, e])
        funext j
        simp only [upd]
        by_cases a : j = dx
        · subst a; simp [this]
        · by_cases b : j = dy
          · subst b; simp [a]
          · simp [a, b]
  rw [key]; exact k2

/-! A store before what does not look at it. -/
def setO (m : Nat → AObj) : Option (Nat × List AV) → Nat → AObj
  | none => m
  | some (r, cs) => upd m r (.live cs)
/-- Where a store writes. -/
def tgt (y : Oper) (s : St) : Option Nat :=
  match y.op with
  | .store _ a _ => match aev s a with
    | .ref r _ => some r
    | _ => none
  | _ => none

theorem tgt_alike (h : ∀ z ∈ y.op.operands, aev s2 z = aev s z) : tgt y s2 = tgt y s := by
  unfold tgt
  split
  · rename_i t a x ho
    rw [h a (by simp [ho, Op.operands])]
  · rfl

theorem st_step (hk : kind y.op = .store) {nx p} (h : aStep E nx s y = some (p, s')) (hp : p) :
    ∃ r cs, s' = { (s.put y.dst (.tup [])) with m := upd s.m r (.live cs) } ∧ tgt y s = some r ∧ (∃ cs0, s.m r = .live cs0) ∧
      (∀ s2, (∀ z ∈ y.op.operands, aev s2 z = aev s z) → s2.m r = s.m r → ∃ nx2 p2, aStep E nx2 s2 y = some (p2, { (s2.put y.dst (.tup [])) with m := upd s2.m r (.live cs) }) ∧ p2) := by
  unfold aStep at h
  simp only [hk, Option.map_eq_some_iff, Prod.exists, Prod.mk.injEq] at h
  obtain ⟨q, r, cs, h1, rfl, rfl⟩ := h
  have h1' := h1
  unfold ast at h1
  split at h1
  · rename_i t a x ho
    simp only [Option.bind_eq_some_iff] at h1
    obtain ⟨d, hT, h1⟩ := h1
    split at h1 <;> try (simp at h1; done)
    rename_i r' off he
    split at h1 <;> try (simp at h1; done)
    rename_i cs0 hm
    simp only [Option.some.injEq, Prod.mk.injEq] at h1
    obtain ⟨e1, rfl, e2⟩ := h1
    refine ⟨r', cs, rfl, by simp [tgt, ho, he], ⟨cs0, hm⟩, fun s2 hev hm2 => ⟨0, q, ?_, hp⟩⟩
    have : ast E.T s2 y = some (q, r', cs) := by
      rw [← h1']
      unfold ast
      simp only [ho]
      rw [hev a (by simp [ho, Op.operands]), hev x (by simp [ho, Op.operands]), he]
      simp only [hm2]
    simp only [aStep, hk, this, Option.map_some]
  · simp at h1

theorem late_kind (h : (kind y.op).late = false) (h' : (kind y.op).writes = true) : kind y.op = .store := by
  revert h h'; cases kind y.op <;> simp [Kd.late, Kd.writes]

theorem swap_st (hx : (kind x.op).writes = false) (hy : kind y.op = .store) (hap : Oper.apart ops x y = true) (hc : Closed s y) (h1 : AStepG E ops x s s1) (h2 : AStepG E ops y s1 s2)
    (hl : looks x.op = true → ∀ r, tgt y s = some r → ∀ z ∈ x.op.operands, r ∉ ids (aev s z)) :
    ∃ s', AStepG E ops y s s' ∧ AStepG E ops x s' s2 := by
  obtain ⟨a1, a2, a3⟩ := Oper.apart_spec hap
  obtain ⟨vx, ex, rfl, x2, x3, x4⟩ := nw_stepG hx h1
  have evy : ∀ z ∈ y.op.operands, aev { (s.put x.dst vx) with m := Eff.app s.m ex } z = aev s z := fun z hz => by
    cases z with
    | tmp i => exact put_t _ _ _ (fun e => a1 _ e (operand_slot hz rfl))
    | _ => rfl
  have wy : wantedA ops y { (s.put x.dst vx) with m := Eff.app s.m ex } = wantedA ops y s := by
    unfold wantedA
    cases hg : y.guard with
    | none => rfl
    | some g =>
      obtain ⟨j, want⟩ := g
      simp only []
      cases hd : (ops[j]?).bind (·.dst) with
      | none => rfl
      | some d =>
        simp only [Option.map_some]
        rw [put_t _ _ _ (fun e => a1 _ e (by unfold Oper.looksAt; refine List.mem_append_right _ ?_; simp [hg, hd]))]
  have key : ∃ g : Option (Nat × List AV), s2 = { ((({ (s.put x.dst vx) with m := Eff.app s.m ex } : St)).put y.dst (.tup [])) with m := setO (Eff.app s.m ex) g } ∧ (∀ r cs, g = some (r, cs) → (∃ cs0, s.m r = .live cs0) ∧ tgt y s = some r ∧ ∀ l, ex = .frz l → r ∉ sls l) ∧
      AStepG E ops y s { (s.put y.dst (.tup [])) with m := setO s.m g } := by
    rcases h2 with ⟨hw, nx, p, k1, hp⟩ | ⟨hw, rfl⟩
    · obtain ⟨r, cs, rfl, k3, ⟨cs0, k4⟩, k5⟩ := st_step hy k1 hp
      rw [tgt_alike evy] at k3
      simp only [] at k4
      have hu : s.m r ≠ .unused := by
        unfold tgt at k3
        split at k3
        · rename_i t a v ho
          split at k3
          · rename_i r' off he
            simp only [Option.some.injEq] at k3
            subst k3
            exact hc a (by simp [ho, Op.operands]) _ (by rw [he]; exact ids_ref)
          · simp at k3
        · simp at k3
      have hs : s.m r = .live cs0 ∧ ∀ l, ex = .frz l → r ∉ sls l := by
        cases ex with
        | keep => exact ⟨k4, by simp⟩
        | new q cs' =>
          have hne : r ≠ q := fun e => hu (by rw [e]; exact x2 q cs' rfl)
          simp only [Eff.app, upd, if_neg hne] at k4
          exact ⟨k4, by simp⟩
        | frz l =>
          simp only [Eff.app, snapM_eq] at k4
          split at k4
          · revert k4; cases s.m r <;> simp [AObj.freeze]
          · rename_i hn
            exact ⟨k4, fun l' e => by simp at e; rw [← e]; exact hn⟩
      refine ⟨some (r, cs), rfl, fun r' cs' e => ?_, .inl ⟨by rw [← wy]; exact hw, ?_⟩⟩
      · simp only [Option.some.injEq, Prod.mk.injEq] at e
        obtain ⟨rfl, rfl⟩ := e
        exact ⟨⟨cs0, hs.1⟩, k3, hs.2⟩
      · obtain ⟨nx2, p2, k6, k7⟩ := k5 s (fun z hz => (evy z hz).symm) (by rw [hs.1]; exact k4.symm)
        exact ⟨nx2, p2, k6, k7⟩
    · exact ⟨none, rfl, fun r cs e => by simp at e, .inr ⟨by rw [← wy]; exact hw, rfl⟩⟩
  obtain ⟨g, rfl, hg, k1⟩ := key
  refine ⟨_, k1, ?_⟩
  have k2 := x4 { (s.put y.dst (.tup [])) with m := setO s.m g } ⟨fun d hd => put_t _ _ _ (fun e => a3 _ e hd), fun hlx z hz r hr cs hcs => by
    cases g with
    | none => exact hcs
    | some g =>
      obtain ⟨r', cs'⟩ := g
      obtain ⟨_, ht, _⟩ := hg r' cs' rfl
      have hne : r ≠ r' := fun e => hl hlx r' ht z hz (by rw [← e]; exact hr)
      simp only [setO, upd, if_neg hne]; exact hcs, fun z hz r hr h => by
    cases g with
    | none => exact h
    | some g =>
      obtain ⟨r', cs'⟩ := g
      by_cases e : r = r'
      · subst e; simp [AM.alive, setO, upd, objCells]
      · simpa [AM.alive, setO, upd, if_neg e] using h⟩ (fun q cs e => by
    have hq := x2 q cs e
    cases g with
    | none => exact hq
    | some g =>
      obtain ⟨r', cs'⟩ := g
      obtain ⟨⟨cs0, h0⟩, _, _⟩ := hg r' cs' rfl
      have hne : q ≠ r' := fun e => by rw [← e, hq] at h0; simp at h0
      simp only [setO, upd, if_neg hne]; exact hq)
  have key : ({ ((({ (s.put x.dst vx) with m := Eff.app s.m ex } : St)).put y.dst (.tup [])) with m := setO (Eff.app s.m ex) g } : St) = { ((({ (s.put y.dst (.tup [])) with m := setO s.m g } : St)).put x.dst vx) with m := Eff.app (({ (s.put y.dst (.tup [])) with m := setO s.m g } : St)).m ex } := by
    have em : setO (Eff.app s.m ex) g = Eff.app (setO s.m g) ex := by
      cases g with
      | none => rfl
      | some g =>
        obtain ⟨r', cs'⟩ := g
        obtain ⟨⟨cs0, h0⟩, _, hf⟩ := hg r' cs' rfl
        cases ex with
        | keep => rfl
        | new q cs =>
          have hne : q ≠ r' := fun e => by rw [← e, x2 q cs rfl] at h0; simp at h0
          funext j
          simp only [setO, Eff.app, upd]
          by_cases a : j = q
          · subst a; simp [hne]
          · by_cases b : j = r'
            · subst b; simp [a]
            · simp [a, b]
        | frz l =>
          have hn := hf l rfl
          funext j
          simp only [setO, Eff.app, snapM_eq, upd]
          by_cases b : j = r'
          · subst b; simp [hn]
          · simp [b]
    simp only [em, St.put]
    congr 1
    cases hxd : x.dst with
    | none => rfl
    | some dx =>
      cases hyd : y.dst with
      | none => rfl
      | some dy =>
        have : dx ≠ dy := fun e => a2 dx hxd (by rw [hyd, e])
        funext j
        simp only [upd]
        by_cases a : j = dx
        · subst a; simp [this]
        · by_cases b : j = dy
          · subst b; simp [a]
          · simp [a, b]
  rw [key]; exact k2
end
end Go.Proofs.Ytlgimmafejbmgaa.AM
