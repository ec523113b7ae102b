/- The statements of layer 3: their helpers. -/
import Derived.Test.YtjnhekedclcbfaaDoorB8
import Derived.Test.YtjnhekedclcbfaaDoorB5
namespace Go.Proofs.YtjnhekedclcbfaaDoor.AM
set_option linter.all false
set_option autoImplicit true
set_option relaxedAutoImplicit true
open Go Go.Proofs
set_option maxRecDepth 100000
set_option maxHeartbeats 8000000
set_option linter.unusedSimpArgs false
variable {P : Program}

theorem beyond3_spec (hP : PrgOk P) (l : List ByteArray) (hl : l.length ≤ 1099511627776) : CSpec P 8 [.imm l.length (l.map .str)] (.bool (l.any fun s => decide (2048 < s.size))) := by
  have HE := Sh_ok hP
  refine CSpec_vc (E := ⟨T0, Sh⟩) (fn8 hP) HE hP.mix rfl (by first | rfl | (simp only [go_sem]; done)) (by first | rfl | (simp only [go_sem]; done)) (Nat.le_of_ble_eq_true rfl) ?_
  simp (maxSteps := 1000000) only [go_sem]
  refine trX_loop HE hP.mix [] (fun i : Nat => ⟨upd (upd (upd (upd (fun _ => .junk) 0 (.imm l.length (l.map .str))) 2 (.bool false)) 5 (.int .i64 (l.length : Int))) 6 (.int .i64 (i : Int)), fun _ => .unused, 16⟩)
    (fun i => i ≤ l.length ∧ ∀ j, j < i → (l.getD j ⟨#[]⟩).size ≤ 2048) (fun i => l.length - i) 0 20 (by repeat (first | exact Has.nil | refine Has.upd rfl ?_)) (Kept.of rfl (by repeat (first | exact KT.nil | refine KT.upd rfl (by first | rfl | exact hr | exact hr2 | (simp only [go_sem]; done)) ?_)) (KM.p (by repeat (first | exact KMp.nil | refine KMp.upd rfl (by first | rfl | (simp only [go_sem]; done)) ?_)))) ⟨Nat.zero_le _, fun j hj => absurd hj (Nat.not_lt_zero _)⟩ 16 (by kernel_rfl) ?_
  rintro i ⟨q1, q2⟩
  by_cases hi : i < l.length
  · have hwi := wi_add1 i (by omega)
    by_cases hb : 2048 < (l.getD i ⟨#[]⟩).size
    · simp (maxSteps := 1000000) only [go_sem, hi, hb, strs_get hi, hwi]
      have e : (l.any fun s => decide (2048 < s.size)) = true := List.any_eq_true.2 ⟨l.getD i ⟨#[]⟩, by rw [List.getD_eq_getElem?_getD, List.getElem?_eq_getElem hi]; exact List.getElem_mem hi, by simpa using hb⟩
      rw [e]; exact ⟨by omega, .refl _⟩
    · simp (maxSteps := 1000000) only [go_sem, hi, hb, strs_get hi, hwi]
      exact ⟨by omega, i + 1, Kept.of rfl (by repeat (first | exact KT.nil | refine KT.upd rfl (by first | rfl | exact hr | exact hr2 | (simp only [go_sem]; done)) ?_)) (KM.p (by repeat (first | exact KMp.nil | refine KMp.upd rfl (by first | rfl | (simp only [go_sem]; done)) ?_))), ⟨by omega, fun j hj => by
        rcases Nat.lt_or_ge j i with h | h
        · exact q2 j h
        · rw [show j = i by omega]; omega⟩, by omega⟩
  · simp (maxSteps := 1000000) only [go_sem, hi]
    have e : (l.any fun s => decide (2048 < s.size)) = false := List.any_eq_false.2 fun s hs => by
      obtain ⟨j, hj, rfl⟩ := List.getElem_of_mem hs
      have := q2 j (by omega)
      rw [List.getD_eq_getElem?_getD, List.getElem?_eq_getElem hj] at this
      simpa using this
    rw [e]; exact .refl _
def beyond3S : List AV → Option (Prop × AV)
  | [.imm 1 [.str a]] => some (True, .bool (decide (2048 < a.size)))
  | [.imm 2 [.str a, .str b]] => some (True, .bool (decide (2048 < a.size) || decide (2048 < b.size)))
  | [.imm 3 [.str a, .str b, .str c]] => some (True, .bool (decide (2048 < a.size) || decide (2048 < b.size) || decide (2048 < c.size)))
  | _ => none
theorem beyond3S_ok (hP : PrgOk P) (args p r) (h : beyond3S args = some (p, r)) (hp : p) : CSpec P 8 args r := by
  unfold beyond3S at h
  split at h
  · rename_i a
    simp only [Option.some.injEq, Prod.mk.injEq] at h
    obtain ⟨_, rfl⟩ := h
    have := beyond3_spec hP [a] (by simp)
    simpa using this
  · rename_i a b
    simp only [Option.some.injEq, Prod.mk.injEq] at h
    obtain ⟨_, rfl⟩ := h
    have := beyond3_spec hP [a, b] (by simp)
    simpa using this
  · rename_i a b c
    simp only [Option.some.injEq, Prod.mk.injEq] at h
    obtain ⟨_, rfl⟩ := h
    have := beyond3_spec hP [a, b, c] (by simp)
    simpa [Bool.or_assoc] using this
  · simp at h
attribute [go_sem] beyond3S
/-- A text that is written down. -/
theorem lit_text {q : Rat} {s : ByteArray} (l : List Nat) (hb : bl s = l) (h1 : okD (szL l)) (h2 : ¬ (mnL l = true ∧ szL l = [48])) (h3 : okD (denL l)) (h4 : 47 ∈ l → 2 ≤ valL (denL l)) (h5 : 47 ∈ l → Nat.gcd (valL (szL l)) (valL (denL l)) = 1) (hq : q = mkRat (sg (mnL l) (valL (szL l))) (valL (denL l))) : ((qtS q).toList == s.toList) = true := by
  rw [str_eq]
  refine decide_eq_true ?_
  rw [hq, ← qlow_eq, text_of h1 h2 h3 h4 h5, hb]
theorem works3_spec (hP : PrgOk P) : CSpec P 7 [] (.bool true) := by
  have HE := Lt5_all hP TF hP.tF
  obtain ⟨A, hA⟩ : ∃ A, qdiv ((6 : Int) : Rat) ((-4 : Int) : Rat) = A := ⟨_, rfl⟩
  have hA' : A = mkRat (-3) 2 := by rw [← hA, qdiv_eq]; decide +kernel
  have w1 : bl ⟨#[48, 46, 53, 48]⟩ = [48, 46, 53, 48] := rfl
  obtain ⟨B, hB⟩ : ∃ B, qlow 50 100 = B := ⟨_, rfl⟩
  have w2 : litF [48, 46, 53, 48] = (B, 0) := by rw [← hB]; exact litF_3 (by decide) (by decide)
  have hB' : B = mkRat 1 2 := by rw [← hB, qlow_eq]; decide +kernel
  have t1 : ((qtS A).toList == (ByteArray.mk #[45, 51, 47, 50]).toList) = true := lit_text [45, 51, 47, 50] rfl (by decide) (by decide) (by decide) (by decide) (by decide) (by rw [hA']; decide +kernel)
  have t2 : ((qtS B).toList == (ByteArray.mk #[49, 47, 50]).toList) = true := lit_text [49, 47, 50] rfl (by decide) (by decide) (by decide) (by decide) (by decide) (by rw [hB']; decide +kernel)
  have t3 : ((qtS (qadd A B)).toList == (ByteArray.mk #[45, 49]).toList) = true := lit_text [45, 49] rfl (by decide) (by decide) (by decide) (by decide) (by decide) (by rw [qadd_eq, hA', hB']; decide +kernel)
  have t4 : ((itS (flo A)).toList == (ByteArray.mk #[45, 50]).toList) = true := by
    rw [show flo A = -2 by rw [hA']; decide +kernel]
    exact itS_lit (parW_neg (d := [50]) ⟨by decide, by decide, by decide⟩ (by decide) rfl (by decide))
  have c1 : cmpQ A B = -1 := by rw [hA', hB']; decide +kernel
  have b0 : ((-4 : Int) = 0) = False := by decide
  have fA : fl A ≤ 8 := by rw [hA']; decide +kernel
  have fB : fl B ≤ 8 := by rw [hB']; decide +kernel
  have fA2 : fl A ≤ FB := Nat.le_trans fA (by decide)
  have fB2 : fl B ≤ FB := Nat.le_trans fB (by decide)
  have f0 : fl 0 ≤ FB := fl_zero _
  have fs : fl (qadd A B) ≤ FB := Nat.le_trans (fl_qadd fA fB) (by decide)
  have wf : wl (flo A) ≤ 68719476736 := Nat.le_trans (flo_wl (fl_num fA)) (by decide)
  refine CSpec_vc (E := ⟨TF, Lt5⟩) (fn7 hP) HE hP.mix rfl (by first | rfl | (simp only [go_sem]; done)) (by first | rfl | (simp only [go_sem]; done)) (Nat.le_of_ble_eq_true rfl) ?_
  simp (maxSteps := 1000000) only [go_sem, hA, w1, w2, t1, t2, t3, t4, c1, b0, fA2, fB2, f0, fs, wf]
  (repeat' (first | exact Conv.refl _ | refine And.intro ?_ ?_)) <;> first | omega | decide
def works3S : List AV → Option (Prop × AV)
  | [] => some (True, .bool true)
  | _ => none
theorem works3S_ok (hP : PrgOk P) (args p r) (h : works3S args = some (p, r)) (hp : p) : CSpec P 7 args r := by
  unfold works3S at h
  split at h
  · simp only [Option.some.injEq, Prod.mk.injEq] at h
    obtain ⟨rfl, rfl⟩ := h
    exact works3_spec hP
  · simp at h
attribute [go_sem] works3S
noncomputable def Jt0 : Nat → List AV → Option (Prop × AV) := addS (addS Lt5 8 beyond3S) 7 works3S
theorem Jt0_all (hP : PrgOk P) (T) (hT : TyOk P T) : EnvOk P ⟨T, Jt0⟩ := (((Lt5_all hP T hT).add (beyond3S_ok hP)).add (works3S_ok hP))
theorem Jt0_at (f a) : Jt0 f a = (addS (addS Lt5 8 beyond3S) 7 works3S) f a := rfl
attribute [go_sem] Jt0_at
noncomputable def readS : List AV → Option (Prop × AV)
  | [.str s] => some ((bl s).length ≤ 4294967296, .tup [(.agg [.opq (.frac ((parF (bl s)).1)), .pad, .pad, .pad, .pad]), (.agg [.bool (decide (((parF (bl s)).1).num < 0)), (.imm (digs 65536 (((parF (bl s)).1).num.natAbs)).length (List.map (fun d : Nat => AV.int .u32 (d : Int)) (digs 65536 (((parF (bl s)).1).num.natAbs)))), (.imm (digs 65536 (((parF (bl s)).1).den)).length (List.map (fun d : Nat => AV.int .u32 (d : Int)) (digs 65536 (((parF (bl s)).1).den))))]), .bool true])
  | _ => none
noncomputable def tells3S : List AV → Option (Prop × AV)
  | [x, y] => (rawF x).bind fun a => (rawRF y).map fun b => (a.1 ∧ b.1 ∧ fl a.2 ≤ FB ∧ fl b.2 ≤ FB, .bool (decide (a.2 = b.2)))
  | _ => none
theorem tells3S_eq (x y) : tells3S [x, y] = (rawF x).bind fun a => (rawRF y).map fun b => (a.1 ∧ b.1 ∧ fl a.2 ≤ FB ∧ fl b.2 ≤ FB, .bool (decide (a.2 = b.2))) := rfl
attribute [go_sem] readS tells3S_eq
noncomputable def Jt1 : Nat → List AV → Option (Prop × AV) := Jt0
theorem Jt1_all (hP : PrgOk P) (T) (hT : TyOk P T) : EnvOk P ⟨T, Jt1⟩ := (Jt0_all hP T hT)
attribute [go_sem] Jt1
end Go.Proofs.YtjnhekedclcbfaaDoor.AM
/- Loops, a round at a time. -/
namespace Go.Proofs.YtjnhekedclcbfaaDoor.AM
set_option linter.all false
set_option autoImplicit true
set_option relaxedAutoImplicit true
open Go Go.Proofs
set_option maxRecDepth 100000
section
variable {P : Program} {E : Env} {s s' : St} {Q Q' : Exit → Nat → St → Prop} {nx : Nat} {c : Code}
/-- A loop that is about to begin (true), or to go on (false). -/
def LW (P : Program) (b0 : Bool) (c : Code) (Q : Exit → Act → World → Prop) (a : Act) (w : World) : Prop :=
  ∀ (b : Frame) (k : List Item) (cs : List Frame),
    ∃ e a' w', Q e a' w' ∧ Arrives P (lone (b.at a ((if b0 then .code (.loop c) else .inLoop c) :: k)) cs w) b k cs e a' w'
theorem LW_step {b0 : Bool} (b : Frame) (k : List Item) (cs : List Frame) (a : Act) (w : World) : step P (lone (b.at a ((if b0 then .code (.loop c) else .inLoop c) :: k)) cs w) = .next (lone (b.at a (.code c :: .inLoop c :: k)) cs w) := by
  cases b0
  · exact step_inLoop
  · exact step_loop
theorem LW_true {Q : Exit → Act → World → Prop} {a w} (h : LW P true c Q a w) : (Code.loop c).wp P Q a w := fun b k cs => h b k cs
theorem LW_mono {b0 : Bool} {Q Q' : Exit → Act → World → Prop} {a w} (h : LW P b0 c Q a w) (hq : ∀ e a w, Q e a w → Q' e a w) : LW P b0 c Q' a w :=
  fun b k cs => let ⟨e, a', w', q, r⟩ := h b k cs; ⟨e, a', w', hq _ _ _ q, r⟩
theorem LW_pass {Q : Exit → Act → World → Prop} {e : Exit} {a1 : Act} {w1 : World} {m : Machine} {b : Frame} {k : List Item} {cs : List Frame} (hq : Q e a1 w1) (hne : e ≠ .normal) (harr : Arrives P m b (.inLoop c :: k) cs e a1 w1) : ∃ e a' w', Q e a' w' ∧ Arrives P m b k cs e a' w' :=
  ⟨e, a1, w1, hq, .pass (x := .inLoop c) rfl (fun _ _ => .inl hne) harr⟩
theorem LW_once {b0 : Bool} {Q : Exit → Act → World → Prop} {a w} (h : c.wp P (Exit.then (LW P false c Q) Q) a w) : LW P b0 c Q a w := fun b k cs => by
  obtain ⟨e, a1, w1, hq, harr⟩ := h b (.inLoop c :: k) cs
  have go : ∃ e a' w', Q e a' w' ∧ Arrives P (lone (b.at a (.code c :: .inLoop c :: k)) cs w) b k cs e a' w' := by
    cases e with
    | normal =>
      obtain ⟨e2, a2, w2, hq2, harr2⟩ := hq b k cs
      exact ⟨e2, a2, w2, hq2, .of_steps harr harr2⟩
    | _ => exact LW_pass hq (by simp) harr
  obtain ⟨e, a', w', hq, harr⟩ := go
  exact ⟨e, a', w', hq, .of_steps (.one (LW_step b k cs a w)) harr⟩
theorem LW_loop {b0 : Bool} {Q : Exit → Act → World → Prop} {a w} (I : Act → World → Prop) (μ : Act → World → Nat) (h0 : I a w)
    (round : ∀ a w, I a w → c.wp P (Exit.then (fun a' w' => I a' w' ∧ μ a' w' < μ a w) Q) a w) : LW P b0 c Q a w := by
  have key : ∀ n b0 a w, μ a w = n → I a w → LW P b0 c Q a w := by
    intro n
    induction n using Nat.strongRecOn with
    | _ n ih =>
      intro b0 a w hn hI
      refine LW_once (wp_mono (round a w hI) fun e a' w' h => ?_)
      cases e with
      | normal => exact ih _ (hn ▸ h.2) false a' w' rfl h.1
      | _ => exact h
  exact key _ b0 a w rfl h0

/-- .. in the machine. -/
def TriW (P : Program) (b0 : Bool) (c : Code) (Q : Exit → Nat → St → Prop) (s : St) : Prop :=
  ∀ X φ a w, Rel X φ s a w → LW P b0 c (fun e a' w' => ∃ nx s' φ', Q e nx s' ∧ Rel X φ' s' a' w' ∧ Stp X φ s.m w φ' s'.m w') a w
theorem TriW_true (h : TriW P true c Q s) : Tri P (.loop c) Q s := fun X φ a w R => LW_true (h X φ a w R)
def onceQ (P : Program) (c : Code) (Q : Exit → Nat → St → Prop) : Exit → Nat → St → Prop
  | .normal, _, s => TriW P false c Q s
  | e, nx, s => Q e nx s
theorem TriW_once {b0 : Bool} (h : Tri P c (onceQ P c Q) s) : TriW P b0 c Q s := fun X φ a w R => by
  refine LW_once (wp_mono (h X φ a w R) ?_)
  rintro e a1 w1 ⟨nx, s1, φ1, q, r1, st1⟩
  cases e with
  | normal =>
    refine LW_mono (q X φ1 a1 w1 r1) ?_
    rintro e a2 w2 ⟨nx, s2, φ2, q2, r2, st2⟩
    exact ⟨nx, s2, φ2, q2, r2, st1.trans st2⟩
  | _ => exact ⟨nx, s1, φ1, q, r1, st1⟩
theorem TriW_kept {b0 : Bool} (L : List Nat) (hL : ∀ r, s.m r ≠ .unused → L.contains r = true) (K : Kept L s s') (h : TriW P b0 c Q s') : TriW P b0 c Q s := by
  intro X φ a w R
  obtain ⟨φ0, r0, st0⟩ := kept_rel R K (.refl _ _ _ _) hL (fun r h => R.mem.unused h)
  refine LW_mono (h X φ0 a w r0) ?_
  rintro e a2 w2 ⟨nx, s2, φ2, q, r2, st2⟩
  exact ⟨nx, s2, φ2, q, r2, st0.trans st2⟩
theorem TriW_loopV {α : Type} {b0 : Bool} (LL : α → List Nat) (F : α → St) (I : α → Prop) (μ : α → Nat) (x0 : α) (hL : ∀ x r, s.m r ≠ .unused → (LL x).contains r = true) (h0 : Kept (LL x0) s (F x0)) (i0 : I x0)
    (hr : ∀ x, I x → Tri P c (loopV LL F I μ (μ x) Q) (F x)) : TriW P b0 c Q s := by
  intro X φ a w R
  have hφ : ∀ r, s.m r = .unused → φ r = none := fun r h => R.mem.unused h
  let p : Act → World → Nat → Prop := fun a' w' k => ∃ x φ1, I x ∧ μ x = k ∧ Rel X φ1 (F x) a' w' ∧ Stp X φ s.m w φ1 (F x).m w'
  obtain ⟨φ0, r0, st0⟩ := kept_rel R h0 (.refl _ _ _ _) (hL x0) hφ
  refine LW_loop (fun a' w' => ∃ k, p a' w' k) (fun a' w' => leastOf (p a' w')) ⟨_, x0, φ0, i0, rfl, r0, st0⟩ fun a' w' hI => ?_
  obtain ⟨⟨x, φ1, i1, hk, r1, st1⟩, _⟩ := leastOf_spec hI
  refine Code.wp_mono ?_ (hr x i1 X φ1 a' w' r1)
  rintro e a2 w2 ⟨nx, s2, φ2, q, r2, st2⟩
  cases e with
  | normal =>
    obtain ⟨x3, k3, i3, hlt⟩ := q
    obtain ⟨φ3, r3, st3⟩ := kept_rel r2 k3 (st1.trans st2) (hL x3) hφ
    have hp : p a2 w2 (μ x3) := ⟨x3, φ3, i3, rfl, r3, st3⟩
    refine ⟨⟨_, hp⟩, ?_⟩
    have := (leastOf_spec ⟨_, hp⟩).2 _ hp
    omega
  | _ => exact ⟨nx, s2, φ2, q, r2, st1.trans st2⟩

/-- The first round by itself; then a loop with named states, whose objects may have other numbers in each round. -/
def peelV {α : Type} (LL : α → List Nat) (F : α → St) (I : α → Prop) (Q : Exit → Nat → St → Prop) : Exit → Nat → St → Prop
  | .normal, _, s => ∃ x, Kept (LL x) s (F x) ∧ I x
  | e, nx, s => Q e nx s
theorem TriW_peelV {α : Type} {b0 : Bool} (LL : α → List Nat) (F : α → St) (I : α → Prop) (μ : α → Nat) (hL : ∀ x r, s.m r ≠ .unused → (LL x).contains r = true)
    (h1 : Tri P c (peelV LL F I Q) s) (hr : ∀ x, I x → Tri P c (loopV LL F I μ (μ x) Q) (F x)) : TriW P b0 c Q s := by
  intro X φ a w R
  have hφ : ∀ r, s.m r = .unused → φ r = none := fun r h => R.mem.unused h
  let p : Act → World → Nat → Prop := fun a' w' k => ∃ x φ1, I x ∧ μ x = k ∧ Rel X φ1 (F x) a' w' ∧ Stp X φ s.m w φ1 (F x).m w'
  refine LW_once (wp_mono (h1 X φ a w R) ?_)
  rintro e a1 w1 ⟨nx, s1, φ1, q, r1, st1⟩
  cases e with
  | normal =>
    obtain ⟨x0, k0, i0⟩ := q
    obtain ⟨φ0, r0, st0⟩ := kept_rel r1 k0 st1 (hL x0) hφ
    refine LW_loop (fun a' w' => ∃ k, p a' w' k) (fun a' w' => leastOf (p a' w')) ⟨_, x0, φ0, i0, rfl, r0, st0⟩ fun a' w' hI => ?_
    obtain ⟨⟨x, φ1, i1, hk, r1, st1⟩, _⟩ := leastOf_spec hI
    refine Code.wp_mono ?_ (hr x i1 X φ1 a' w' r1)
    rintro e a2 w2 ⟨nx, s2, φ2, q, r2, st2⟩
    cases e with
    | normal =>
      obtain ⟨x3, k3, i3, hlt⟩ := q
      obtain ⟨φ3, r3, st3⟩ := kept_rel r2 k3 (st1.trans st2) (hL x3) hφ
      have hp : p a2 w2 (μ x3) := ⟨x3, φ3, i3, rfl, r3, st3⟩
      refine ⟨⟨_, hp⟩, ?_⟩
      have := (leastOf_spec ⟨_, hp⟩).2 _ hp
      omega
    | _ => exact ⟨nx, s2, φ2, q, r2, st1.trans st2⟩
  | _ => exact ⟨nx, s1, φ1, q, r1, st1⟩
theorem q_peelV_normal {α : Type} (LL : α → List Nat) (F : α → St) (I : α → Prop) : qX .normal nx s (Q := ⟨peelV LL F I Q⟩) = ∃ x, Kept (LL x) s (F x) ∧ I x := rfl
theorem q_peelV_exit {α : Type} (LL : α → List Nat) (F : α → St) (I : α → Prop) (i) : qX (.exit i) nx s (Q := ⟨peelV LL F I Q⟩) = qX (.exit i) nx s (Q := ⟨Q⟩) := rfl
theorem q_peelV_ret {α : Type} (LL : α → List Nat) (F : α → St) (I : α → Prop) : qX .ret nx s (Q := ⟨peelV LL F I Q⟩) = qX .ret nx s (Q := ⟨Q⟩) := rfl
theorem trX_peelV {α : Type} (HE : EnvOk P E) (hmix : P.follows .mixedOrders = true) (LL : α → List Nat) (F : α → St) (I : α → Prop) (μ : α → Nat) (nx1 : Nat) (nx0 : α → Nat) (N : Nat) (hN : regsOk N c = true) (hL : ∀ x r, s.m r ≠ .unused → (LL x).contains r = true)
    (h1 : vcX (Tri P) (ICall P) E N c nx1 s (Q := ⟨peelV LL F I Q⟩)) (hr : ∀ x, I x → vcX (Tri P) (ICall P) E N c (nx0 x) (F x) (Q := ⟨loopV LL F I μ (μ x) Q⟩)) : trX (Tri P) (.loop c) s (Q := ⟨Q⟩) :=
  TriW_true (TriW_peelV LL F I μ hL (vc_sound HE hmix N c _ nx1 _ hN h1) fun x ix => vc_sound HE hmix N c _ (nx0 x) _ hN (hr x ix))
/-- The loop goes on, with a box. -/
def goX (P : Program) (c : Code) (s : St) [Q : Bx (Exit → Nat → St → Prop)] : Prop := TriW P false c Q.v s
theorem q_once_normal : qX .normal nx s (Q := ⟨onceQ P c Q⟩) = goX P c s (Q := ⟨Q⟩) := rfl
theorem q_once_exit (i) : qX (.exit i) nx s (Q := ⟨onceQ P c Q⟩) = qX (.exit i) nx s (Q := ⟨Q⟩) := rfl
theorem q_once_ret : qX .ret nx s (Q := ⟨onceQ P c Q⟩) = qX .ret nx s (Q := ⟨Q⟩) := rfl
theorem trX_once (HE : EnvOk P E) (hmix : P.follows .mixedOrders = true) (N : Nat) (nx0 : Nat) (hN : regsOk N c = true) (h : vcX (Tri P) (ICall P) E N c nx0 s (Q := ⟨onceQ P c Q⟩)) : trX (Tri P) (.loop c) s (Q := ⟨Q⟩) :=
  TriW_true (TriW_once (vc_sound HE hmix N c _ nx0 _ hN h))
theorem goX_once (HE : EnvOk P E) (hmix : P.follows .mixedOrders = true) (N : Nat) (nx0 : Nat) (hN : regsOk N c = true) (h : vcX (Tri P) (ICall P) E N c nx0 s (Q := ⟨onceQ P c Q⟩)) : goX P c s (Q := ⟨Q⟩) :=
  TriW_once (vc_sound HE hmix N c _ nx0 _ hN h)
theorem goX_kept (L : List Nat) (hL : ∀ r, s.m r ≠ .unused → L.contains r = true) (K : Kept L s s') (h : goX P c s' (Q := ⟨Q⟩)) : goX P c s (Q := ⟨Q⟩) := TriW_kept L hL K h
/-- A loop that goes on, within a condition. -/
theorem goX_loopV {α : Type} (HE : EnvOk P E) (hmix : P.follows .mixedOrders = true) (LL : α → List Nat) (F : α → St) (I : α → Prop) (μ : α → Nat) (x0 : α) (nx0 : α → Nat) (hL : ∀ x r, s.m r ≠ .unused → (LL x).contains r = true) (h0 : Kept (LL x0) s (F x0)) (i0 : I x0) (N : Nat) (hN : regsOk N c = true)
    (hr : ∀ x, I x → vcX (Tri P) (ICall P) E N c (nx0 x) (F x) (Q := ⟨loopV LL F I μ (μ x) Q⟩)) : goX P c s (Q := ⟨Q⟩) :=
  TriW_loopV LL F I μ x0 hL h0 i0 fun x ix => vc_sound HE hmix N c _ (nx0 x) _ hN (hr x ix)
end
attribute [go_sem] q_peelV_normal q_peelV_exit q_peelV_ret q_once_normal q_once_exit q_once_ret
end Go.Proofs.YtjnhekedclcbfaaDoor.AM
/- The statements of layer 3 that stand alone: their helpers. -/
namespace Go.Proofs.YtjnhekedclcbfaaDoor.AM
set_option linter.all false
set_option autoImplicit true
set_option relaxedAutoImplicit true
open Go Go.Proofs
set_option maxRecDepth 100000
set_option maxHeartbeats 8000000
set_option linter.unusedSimpArgs false
variable {P : Program}

theorem all3_spec (hP : PrgOk P) (a b c : ByteArray) (ha : (bl a).length ≤ 549755813888) (hb : (bl b).length ≤ 549755813888) (hc : (bl c).length ≤ 549755813888) : CSpec P 22 [.imm 3 [.str a, .str b, .str c]] (if (parF (bl a)).2 = 0 ∧ (parF (bl b)).2 = 0 ∧ (parF (bl c)).2 = 0 then .tup [.imm 3 [.opq (.frac (parF (bl a)).1), .pad, .pad, .pad, .pad, .opq (.frac (parF (bl b)).1), .pad, .pad, .pad, .pad, .opq (.frac (parF (bl c)).1), .pad, .pad, .pad, .pad], .bool true] else .tup [.nils, .bool false]) := by
  have HE := Jt0_all hP TF hP.tF
  refine CSpec_vc (E := ⟨TF, Jt0⟩) (fn22 hP) HE hP.mix rfl (by first | rfl | (simp only [go_sem]; done)) (by first | rfl | (simp only [go_sem]; done)) (Nat.le_of_ble_eq_true rfl) ?_
  have w1 : IntKind.i64.wrap (0 + 1) = 1 := rfl
  have w2 : IntKind.i64.wrap (1 + 1) = 2 := rfl
  have w3 : IntKind.i64.wrap (2 + 1) = 3 := rfl
  simp (maxSteps := 1000000) only [go_sem]
  refine trX_once HE hP.mix 29 0 (by kernel_rfl) ?_
  by_cases e1 : (parF (bl a)).2 = 0
  · have e1' : ((parF (bl a)).2 != 0) = false := by rw [e1]; rfl
    simp (maxSteps := 1000000) only [go_sem, ha, e1', w1, ne_eq, not_false_eq_true, imp_self]
    refine goX_once HE hP.mix 29 100 (by kernel_rfl) ?_
    by_cases e2 : (parF (bl b)).2 = 0
    · have e2' : ((parF (bl b)).2 != 0) = false := by rw [e2]; rfl
      simp (maxSteps := 1000000) only [go_sem, hb, e2', w2, ne_eq, not_false_eq_true, imp_self]
      refine ⟨by omega, by simp, ?_⟩
      refine goX_once HE hP.mix 29 200 (by kernel_rfl) ?_
      by_cases e3 : (parF (bl c)).2 = 0
      · have e3' : ((parF (bl c)).2 != 0) = false := by rw [e3]; rfl
        rw [if_pos ⟨e1, e2, e3⟩]
        simp (maxSteps := 1000000) only [go_sem, hc, e3', w3, ne_eq, not_false_eq_true, imp_self]
        refine ⟨by omega, by simp, ?_⟩
        refine goX_once HE hP.mix 29 300 (by kernel_rfl) ?_
        simp (maxSteps := 1000000) only [go_sem, ne_eq, not_false_eq_true, imp_self]
        (repeat' (first | exact Conv.refl _ | refine And.intro ?_ ?_)) <;> first | omega | decide
      · have e3' : ((parF (bl c)).2 != 0) = true := by simpa using e3
        rw [if_neg (fun h => e3 h.2.2)]
        simp (maxSteps := 1000000) only [go_sem, hc, e3']
        (repeat' (first | exact Conv.refl _ | refine And.intro ?_ ?_)) <;> first | omega | decide
    · have e2' : ((parF (bl b)).2 != 0) = true := by simpa using e2
      rw [if_neg (fun h => e2 h.2.1)]
      simp (maxSteps := 1000000) only [go_sem, hb, e2']
      (repeat' (first | exact Conv.refl _ | refine And.intro ?_ ?_)) <;> first | omega | decide
  · have e1' : ((parF (bl a)).2 != 0) = true := by simpa using e1
    rw [if_neg (fun h => e1 h.1)]
    simp (maxSteps := 1000000) only [go_sem, ha, e1']
    (repeat' (first | exact Conv.refl _ | refine And.intro ?_ ?_)) <;> first | omega | decide
noncomputable def all3S : List AV → Option (Prop × AV)
  | [.imm 3 [.str a, .str b, .str c]] => some ((bl a).length ≤ 549755813888 ∧ (bl b).length ≤ 549755813888 ∧ (bl c).length ≤ 549755813888, if (parF (bl a)).2 = 0 ∧ (parF (bl b)).2 = 0 ∧ (parF (bl c)).2 = 0 then .tup [.imm 3 [.opq (.frac (parF (bl a)).1), .pad, .pad, .pad, .pad, .opq (.frac (parF (bl b)).1), .pad, .pad, .pad, .pad, .opq (.frac (parF (bl c)).1), .pad, .pad, .pad, .pad], .bool true] else .tup [.nils, .bool false])
  | _ => none
theorem all3S_ok (hP : PrgOk P) (args p r) (h : all3S args = some (p, r)) (hp : p) : CSpec P 22 args r := by
  unfold all3S at h
  split at h
  · simp only [Option.some.injEq, Prod.mk.injEq] at h
    obtain ⟨rfl, rfl⟩ := h
    exact all3_spec hP _ _ _ hp.1 hp.2.1 hp.2.2
  · simp at h
attribute [go_sem] all3S
end Go.Proofs.YtjnhekedclcbfaaDoor.AM
