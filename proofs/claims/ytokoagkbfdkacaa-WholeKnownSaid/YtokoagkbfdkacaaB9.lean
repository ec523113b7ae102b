/- Loops, a round at a time. -/
import Derived.Test.YtokoagkbfdkacaaB5
import Derived.Test.YtokoagkbfdkacaaB8
import Derived.Test.YtokoagkbfdkacaaB2
import Derived.Test.YtokoagkbfdkacaaB3
import Derived.OpenShut
import Derived.Shelf.Small.Bits
import Derived.Shelf.Strconv.Itoa0
import Derived.Shelf.Bits.Mul64
import Derived.Laws.Externs
import Derived.Lib.ItoaNum
import Derived.Test.YtokoagkbfdkacaaRows
import Derived.ProofKit
import Derived.ChangeBears2
import Derived.JoinedOf
import Derived.Handed
import Derived.Carry
namespace Go.Proofs.Ytokoagkbfdkacaa.AM
set_option linter.all false
set_option autoImplicit true
set_option relaxedAutoImplicit true
open Go Go.Proofs
set_option maxRecDepth 100000
section
variable {P : Program} {E : Env} {s s' : St} {Q Q' : Exit → Nat → St → Prop} {nx : Nat} {c : Code}
/-- A loop that is about to begin (true), or to go on (false). -/
def LW (P : Program) (b0 : Bool) (c : Code) (Q : Exit → Act → World → Prop) (a : Act) (w : World) : Prop :=
  ∀ (b : Frame) (k : List Item) (cs : List Frame),
    ∃ e a' w', Q e a' w' ∧ Arrives P (lone (b.at a ((if b0 then .code (.loop c) else .inLoop c) :: k)) cs w) b k cs e a' w'
theorem LW_step {b0 : Bool} (b : Frame) (k : List Item) (cs : List Frame) (a : Act) (w : World) : step P (lone (b.at a ((if b0 then .code (.loop c) else .inLoop c) :: k)) cs w) = .next (lone (b.at a (.code c :: .inLoop c :: k)) cs w) := by
  cases b0
  · exact step_inLoop
  · exact step_loop
theorem LW_true {Q : Exit → Act → World → Prop} {a w} (h : LW P true c Q a w) : (Code.loop c).wp P Q a w := fun b k cs => h b k cs
theorem LW_mono {b0 : Bool} {Q Q' : Exit → Act → World → Prop} {a w} (h : LW P b0 c Q a w) (hq : ∀ e a w, Q e a w → Q' e a w) : LW P b0 c Q' a w :=
  fun b k cs => let ⟨e, a', w', q, r⟩ := h b k cs; ⟨e, a', w', hq _ _ _ q, r⟩
theorem LW_pass {Q : Exit → Act → World → Prop} {e : Exit} {a1 : Act} {w1 : World} {m : Machine} {b : Frame} {k : List Item} {cs : List Frame} (hq : Q e a1 w1) (hne : e ≠ .normal) (harr : Arrives P m b (.inLoop c :: k) cs e a1 w1) : ∃ e a' w', Q e a' w' ∧ Arrives P m b k cs e a' w' :=
  ⟨e, a1, w1, hq, .pass (x := .inLoop c) rfl (fun _ _ => .inl hne) harr⟩
theorem LW_once {b0 : Bool} {Q : Exit → Act → World → Prop} {a w} (h : c.wp P (Exit.then (LW P false c Q) Q) a w) : LW P b0 c Q a w := fun b k cs => by
  obtain ⟨e, a1, w1, hq, harr⟩ := h b (.inLoop c :: k) cs
  have go : ∃ e a' w', Q e a' w' ∧ Arrives P (lone (b.at a (.code c :: .inLoop c :: k)) cs w) b k cs e a' w' := by
    cases e with
    | normal =>
      obtain ⟨e2, a2, w2, hq2, harr2⟩ := hq b k cs
      exact ⟨e2, a2, w2, hq2, .of_steps harr harr2⟩
    | _ => exact LW_pass hq (by simp) harr
  obtain ⟨e, a', w', hq, harr⟩ := go
  exact ⟨e, a', w', hq, .of_steps (.one (LW_step b k cs a w)) harr⟩
theorem LW_loop {b0 : Bool} {Q : Exit → Act → World → Prop} {a w} (I : Act → World → Prop) (μ : Act → World → Nat) (h0 : I a w)
    (round : ∀ a w, I a w → c.wp P (Exit.then (fun a' w' => I a' w' ∧ μ a' w' < μ a w) Q) a w) : LW P b0 c Q a w := by
  have key : ∀ n b0 a w, μ a w = n → I a w → LW P b0 c Q a w := by
    intro n
    induction n using Nat.strongRecOn with
    | _ n ih =>
      intro b0 a w hn hI
      refine LW_once (wp_mono (round a w hI) fun e a' w' h => ?_)
      cases e with
      | normal => exact ih _ (hn ▸ h.2) false a' w' rfl h.1
      | _ => exact h
  exact key _ b0 a w rfl h0

/-- .. in the machine. -/
def TriW (P : Program) (b0 : Bool) (c : Code) (Q : Exit → Nat → St → Prop) (s : St) : Prop :=
  ∀ X φ a w, Rel X φ s a w → LW P b0 c (fun e a' w' => ∃ nx s' φ', Q e nx s' ∧ Rel X φ' s' a' w' ∧ Stp X φ s.m w φ' s'.m w') a w
theorem TriW_true (h : TriW P true c Q s) : Tri P (.loop c) Q s := fun X φ a w R => LW_true (h X φ a w R)
def onceQ (P : Program) (c : Code) (Q : Exit → Nat → St → Prop) : Exit → Nat → St → Prop
  | .normal, _, s => TriW P false c Q s
  | e, nx, s => Q e nx s
theorem TriW_once {b0 : Bool} (h : Tri P c (onceQ P c Q) s) : TriW P b0 c Q s := fun X φ a w R => by
  refine LW_once (wp_mono (h X φ a w R) ?_)
  rintro e a1 w1 ⟨nx, s1, φ1, q, r1, st1⟩
  cases e with
  | normal =>
    refine LW_mono (q X φ1 a1 w1 r1) ?_
    rintro e a2 w2 ⟨nx, s2, φ2, q2, r2, st2⟩
    exact ⟨nx, s2, φ2, q2, r2, st1.trans st2⟩
  | _ => exact ⟨nx, s1, φ1, q, r1, st1⟩
theorem TriW_kept {b0 : Bool} (L : List Nat) (hL : ∀ r, s.m r ≠ .unused → L.contains r = true) (K : Kept L s s') (h : TriW P b0 c Q s') : TriW P b0 c Q s := by
  intro X φ a w R
  obtain ⟨φ0, r0, st0⟩ := kept_rel R K (.refl _ _ _ _) hL (fun r h => R.mem.unused h)
  refine LW_mono (h X φ0 a w r0) ?_
  rintro e a2 w2 ⟨nx, s2, φ2, q, r2, st2⟩
  exact ⟨nx, s2, φ2, q, r2, st0.trans st2⟩
theorem TriW_loopV {α : Type} {b0 : Bool} (LL : α → List Nat) (F : α → St) (I : α → Prop) (μ : α → Nat) (x0 : α) (hL : ∀ x r, s.m r ≠ .unused → (LL x).contains r = true) (h0 : Kept (LL x0) s (F x0)) (i0 : I x0)
    (hr : ∀ x, I x → Tri P c (loopV LL F I μ (μ x) Q) (F x)) : TriW P b0 c Q s := by
  intro X φ a w R
  have hφ : ∀ r, s.m r = .unused → φ r = none := fun r h => R.mem.unused h
  let p : Act → World → Nat → Prop := fun a' w' k => ∃ x φ1, I x ∧ μ x = k ∧ Rel X φ1 (F x) a' w' ∧ Stp X φ s.m w φ1 (F x).m w'
  obtain ⟨φ0, r0, st0⟩ := kept_rel R h0 (.refl _ _ _ _) (hL x0) hφ
  refine LW_loop (fun a' w' => ∃ k, p a' w' k) (fun a' w' => leastOf (p a' w')) ⟨_, x0, φ0, i0, rfl, r0, st0⟩ fun a' w' hI => ?_
  obtain ⟨⟨x, φ1, i1, hk, r1, st1⟩, _⟩ := leastOf_spec hI
  refine Code.wp_mono ?_ (hr x i1 X φ1 a' w' r1)
  rintro e a2 w2 ⟨nx, s2, φ2, q, r2, st2⟩
  cases e with
  | normal =>
    obtain ⟨x3, k3, i3, hlt⟩ := q
    obtain ⟨φ3, r3, st3⟩ := kept_rel r2 k3 (st1.trans st2) (hL x3) hφ
    have hp : p a2 w2 (μ x3) := ⟨x3, φ3, i3, rfl, r3, st3⟩
    refine ⟨⟨_, hp⟩, ?_⟩
    have := (leastOf_spec ⟨_, hp⟩).2 _ hp
    omega
  | _ => exact ⟨nx, s2, φ2, q, r2, st1.trans st2⟩

/-- The first round by itself; then a loop with named states, whose objects may have other numbers in each round. -/
def peelV {α : Type} (LL : α → List Nat) (F : α → St) (I : α → Prop) (Q : Exit → Nat → St → Prop) : Exit → Nat → St → Prop
  | .normal, _, s => ∃ x, Kept (LL x) s (F x) ∧ I x
  | e, nx, s => Q e nx s
theorem TriW_peelV {α : Type} {b0 : Bool} (LL : α → List Nat) (F : α → St) (I : α → Prop) (μ : α → Nat) (hL : ∀ x r, s.m r ≠ .unused → (LL x).contains r = true)
    (h1 : Tri P c (peelV LL F I Q) s) (hr : ∀ x, I x → Tri P c (loopV LL F I μ (μ x) Q) (F x)) : TriW P b0 c Q s := by
  intro X φ a w R
  have hφ : ∀ r, s.m r = .unused → φ r = none := fun r h => R.mem.unused h
  let p : Act → World → Nat → Prop := fun a' w' k => ∃ x φ1, I x ∧ μ x = k ∧ Rel X φ1 (F x) a' w' ∧ Stp X φ s.m w φ1 (F x).m w'
  refine LW_once (wp_mono (h1 X φ a w R) ?_)
  rintro e a1 w1 ⟨nx, s1, φ1, q, r1, st1⟩
  cases e with
  | normal =>
    obtain ⟨x0, k0, i0⟩ := q
    obtain ⟨φ0, r0, st0⟩ := kept_rel r1 k0 st1 (hL x0) hφ
    refine LW_loop (fun a' w' => ∃ k, p a' w' k) (fun a' w' => leastOf (p a' w')) ⟨_, x0, φ0, i0, rfl, r0, st0⟩ fun a' w' hI => ?_
    obtain ⟨⟨x, φ1, i1, hk, r1, st1⟩, _⟩ := leastOf_spec hI
    refine Code.wp_mono ?_ (hr x i1 X φ1 a' w' r1)
    rintro e a2 w2 ⟨nx, s2, φ2, q, r2, st2⟩
    cases e with
    | normal =>
      obtain ⟨x3, k3, i3, hlt⟩ := q
      obtain ⟨φ3, r3, st3⟩ := kept_rel r2 k3 (st1.trans st2) (hL x3) hφ
      have hp : p a2 w2 (μ x3) := ⟨x3, φ3, i3, rfl, r3, st3⟩
      refine ⟨⟨_, hp⟩, ?_⟩
      have := (leastOf_spec ⟨_, hp⟩).2 _ hp
      omega
    | _ => exact ⟨nx, s2, φ2, q, r2, st1.trans st2⟩
  | _ => exact ⟨nx, s1, φ1, q, r1, st1⟩
theorem q_peelV_normal {α : Type} (LL : α → List Nat) (F : α → St) (I : α → Prop) : qX .normal nx s (Q := ⟨peelV LL F I Q⟩) = ∃ x, Kept (LL x) s (F x) ∧ I x := rfl
theorem q_peelV_exit {α : Type} (LL : α → List Nat) (F : α → St) (I : α → Prop) (i) : qX (.exit i) nx s (Q := ⟨peelV LL F I Q⟩) = qX (.exit i) nx s (Q := ⟨Q⟩) := rfl
theorem q_peelV_ret {α : Type} (LL : α → List Nat) (F : α → St) (I : α → Prop) : qX .ret nx s (Q := ⟨peelV LL F I Q⟩) = qX .ret nx s (Q := ⟨Q⟩) := rfl
theorem trX_peelV {α : Type} (HE : EnvOk P E) (hmix : P.follows .mixedOrders = true) (LL : α → List Nat) (F : α → St) (I : α → Prop) (μ : α → Nat) (nx1 : Nat) (nx0 : α → Nat) (N : Nat) (hN : regsOk N c = true) (hL : ∀ x r, s.m r ≠ .unused → (LL x).contains r = true)
    (h1 : vcX (Tri P) (ICall P) E N c nx1 s (Q := ⟨peelV LL F I Q⟩)) (hr : ∀ x, I x → vcX (Tri P) (ICall P) E N c (nx0 x) (F x) (Q := ⟨loopV LL F I μ (μ x) Q⟩)) : trX (Tri P) (.loop c) s (Q := ⟨Q⟩) :=
  TriW_true (TriW_peelV LL F I μ hL (vc_sound HE hmix N c _ nx1 _ hN h1) fun x ix => vc_sound HE hmix N c _ (nx0 x) _ hN (hr x ix))
/-- The loop goes on, with a box. -/
def goX (P : Program) (c : Code) (s : St) [Q : Bx (Exit → Nat → St → Prop)] : Prop := TriW P false c Q.v s
theorem q_once_normal : qX .normal nx s (Q := ⟨onceQ P c Q⟩) = goX P c s (Q := ⟨Q⟩) := rfl
theorem q_once_exit (i) : qX (.exit i) nx s (Q := ⟨onceQ P c Q⟩) = qX (.exit i) nx s (Q := ⟨Q⟩) := rfl
theorem q_once_ret : qX .ret nx s (Q := ⟨onceQ P c Q⟩) = qX .ret nx s (Q := ⟨Q⟩) := rfl
theorem trX_once (HE : EnvOk P E) (hmix : P.follows .mixedOrders = true) (N : Nat) (nx0 : Nat) (hN : regsOk N c = true) (h : vcX (Tri P) (ICall P) E N c nx0 s (Q := ⟨onceQ P c Q⟩)) : trX (Tri P) (.loop c) s (Q := ⟨Q⟩) :=
  TriW_true (TriW_once (vc_sound HE hmix N c _ nx0 _ hN h))
theorem goX_once (HE : EnvOk P E) (hmix : P.follows .mixedOrders = true) (N : Nat) (nx0 : Nat) (hN : regsOk N c = true) (h : vcX (Tri P) (ICall P) E N c nx0 s (Q := ⟨onceQ P c Q⟩)) : goX P c s (Q := ⟨Q⟩) :=
  TriW_once (vc_sound HE hmix N c _ nx0 _ hN h)
theorem goX_kept (L : List Nat) (hL : ∀ r, s.m r ≠ .unused → L.contains r = true) (K : Kept L s s') (h : goX P c s' (Q := ⟨Q⟩)) : goX P c s (Q := ⟨Q⟩) := TriW_kept L hL K h
/-- A loop that goes on, within a condition. -/
theorem goX_loopV {α : Type} (HE : EnvOk P E) (hmix : P.follows .mixedOrders = true) (LL : α → List Nat) (F : α → St) (I : α → Prop) (μ : α → Nat) (x0 : α) (nx0 : α → Nat) (hL : ∀ x r, s.m r ≠ .unused → (LL x).contains r = true) (h0 : Kept (LL x0) s (F x0)) (i0 : I x0) (N : Nat) (hN : regsOk N c = true)
    (hr : ∀ x, I x → vcX (Tri P) (ICall P) E N c (nx0 x) (F x) (Q := ⟨loopV LL F I μ (μ x) Q⟩)) : goX P c s (Q := ⟨Q⟩) :=
  TriW_loopV LL F I μ x0 hL h0 i0 fun x ix => vc_sound HE hmix N c _ (nx0 x) _ hN (hr x ix)
end
attribute [go_sem] q_peelV_normal q_peelV_exit q_peelV_ret q_once_normal q_once_exit q_once_ret
end Go.Proofs.Ytokoagkbfdkacaa.AM
/- The document's numbers without what divides them all. -/
namespace Go.Proofs.Ytokoagkbfdkacaa.AM
set_option linter.all false
set_option autoImplicit true
set_option relaxedAutoImplicit true
open Go Go.Proofs
set_option maxRecDepth 100000
set_option maxHeartbeats 8000000
set_option linter.unusedSimpArgs false
variable {P : Program}

def iG (z : Int) : List AV := [.opq (.rint z), .pad]
theorem fz_rC (z : Int) : ∀ x ∈ rC z, ∀ m j, fzC m j x ∧ fzV m j x = x := by
  intro x hx m j
  simp only [rC, List.mem_cons, List.not_mem_nil, or_false] at hx
  rcases hx with rfl | rfl <;> cases j <;> exact ⟨trivial, rfl⟩
theorem fz_iG (z : Int) : ∀ x ∈ iG z, ∀ m j, fzC m j x ∧ fzV m j x = x := by
  intro x hx m j
  simp only [iG, List.mem_cons, List.not_mem_nil, or_false] at hx
  rcases hx with rfl | rfl <;> cases j <;> exact ⟨trivial, rfl⟩
instance : Wd rC 2 := ⟨fun _ => rfl, by decide, fun _ => rfl, fun _ => rfl, fun _ _ => rfl, fun m j z => (fz_flat (fz_rC z)).1 m j, fun m j z => (fz_flat (fz_rC z)).2 m j⟩
instance : Wd iG 2 := ⟨fun _ => rfl, by decide, fun _ => rfl, fun _ => rfl, fun _ _ => rfl, fun m j z => (fz_flat (fz_iG z)).1 m j, fun m j z => (fz_flat (fz_iG z)).2 m j⟩
theorem CvL.iGC (z : Int) : CvL (iG z) (rC z) := by simpa [Pay.open, Pay.width, rC, iG] using CvL.unfold (.rint z) []
theorem CvL.iCG (z : Int) : CvL (rC z) (iG z) := by simpa [Pay.open, Pay.width, rC, iG] using CvL.fold (.rint z) [] rfl
def iY (p : Bool × Int) : List AV := if p.1 then iG p.2 else rC p.2
theorem fz_iY (p : Bool × Int) : ∀ x ∈ iY p, ∀ m j, fzC m j x ∧ fzV m j x = x := by
  obtain ⟨b, z⟩ := p
  cases b
  · exact fz_rC z
  · exact fz_iG z
instance : Wd iY 2 := ⟨fun ⟨b, _⟩ => by cases b <;> rfl, by decide, fun ⟨b, _⟩ => by cases b <;> rfl, fun ⟨b, _⟩ => by cases b <;> rfl, fun _ ⟨b, _⟩ => by cases b <;> rfl, fun m j z => (fz_flat (fz_iY z)).1 m j, fun m j z => (fz_flat (fz_iY z)).2 m j⟩
theorem CvL.iYG (p : Bool × Int) : CvL (iY p) (iG p.2) := by
  obtain ⟨b, z⟩ := p
  cases b
  · exact .iCG z
  · exact .refl _
theorem add_k (a k : Nat) : a + k + 1 = a + (k + 1) := rfl
theorem iPrim_spec (hP : PrgOk P) (l : List Int) (hl : l.length ≤ 1073741824) (hb : ∀ z ∈ l, wl z ≤ 17179869184) : CSpec P 40 [.imm l.length (cl iG l)] (.imm l.length (cl iG (primL l))) := by
  have HE := Wt4_all hP T1 hP.t1
  refine CSpec.cv ?_ (.imm (.cl .iGC l) .nil)
  have hgo : groundL [.imm l.length (cl rC l)] = true := by simp only [groundL, onlyL, AV.only, cl_only, Bool.and_true]
  refine CSpec_vc (E := ⟨T1, Wt4⟩) (fn40 hP) HE hP.mix rfl hgo rfl (Nat.le_of_ble_eq_true rfl) ?_
  have hg := gcdL_blen l hb
  have hro : ∀ f, (AV.imm l.length (cl rC l)).only f = true := fun f => by simp only [AV.only, cl_only]
  simp (maxSteps := 1000000) only [go_sem]
  refine trX_loop HE hP.mix [] (fun i : Nat => ⟨upd (upd (upd (upd (fun _ => .junk) 0 (.imm l.length (cl rC l))) 2 .nils) 3 (.opq (.rnat (gcdL (l.take i))))) 4 (.int .i64 (i : Int)), fun _ => .unused, 53⟩)
    (fun i => i ≤ l.length) (fun i => l.length - i) 0 0 (by repeat (first | exact Has.nil | refine Has.upd rfl ?_)) (Kept.of rfl (by repeat (first | exact KT.nil | refine KT.upd rfl (by first | rfl | exact hro _) ?_)) (KM.p (by repeat (first | exact KMp.nil | refine KMp.upd rfl (by first | rfl | (simp only [go_sem]; done)) ?_)))) (Nat.zero_le _) 53 (by kernel_rfl) ?_
  intro i hi
  by_cases h : i < l.length
  · have hwi := wi_add1 i (by omega)
    have h2 : i * 2 ≤ l.length * 2 := by omega
    obtain ⟨z, hz⟩ : ∃ z, l[i] = z := ⟨_, rfl⟩
    have hzb : blen z.natAbs ≤ 17179869184 := hz ▸ hb _ (List.getElem_mem h)
    have hzb' := Nat.le_trans hzb (show _ ≤ 34359738368 by decide)
    have hgb := Nat.le_trans (gcdL_blen (l.take i) fun z hz => hb z (List.mem_of_mem_take hz)) (show _ ≤ 34359738368 by decide)
    have hd : (cl rC l).drop (i * 2) = .bool (decide (z < 0)) :: .opq (.rnat z.natAbs) :: cl rC (l.drop (i + 1)) := by
      rw [cl_drop, List.drop_eq_getElem_cons h, cl_cons, hz]; rfl
    have hlen : (cl rC (l.drop (i + 1))).length = (l.length - (i + 1)) * 2 := by rw [cl_len, List.length_drop]
    have hh : AV.head (cl rC (l.drop (i + 1))) = true := cl_head
    have e : gcdL (l.take (i + 1)) = Nat.gcd (gcdL (l.take i)) z.natAbs := by
      rw [List.take_add_one, List.getElem?_eq_getElem h, ← hz]; exact gcdL_snoc _ _
    simp (maxSteps := 1000000) only [go_sem, h, cl_len, h2, hd, hlen, hh, hzb', hgb, hwi]
    exact ⟨i + 1, Kept.of rfl (by repeat (first | exact KT.nil | refine KT.upd (by first | rfl | (rw [e]; rfl)) (by first | rfl | exact hro _) ?_)) (KM.p (by repeat (first | exact KMp.nil | refine KMp.upd rfl (by first | rfl | (simp only [go_sem]; done)) ?_))), by omega, by omega⟩
  · obtain rfl : i = l.length := by omega
    have hta : l.take l.length = l := List.take_length
    simp (maxSteps := 1000000) only [go_sem, h, hta]
    have h0 : ∀ i (h : i < l.length), ∃ z, l[i] = z ∧ blen z.natAbs ≤ 17179869184 ∧ (cl rC l).drop (i * 2) = .bool (decide (z < 0)) :: .opq (.rnat z.natAbs) :: cl rC (l.drop (i + 1)) := fun i h => by
      refine ⟨l[i], rfl, hb _ (List.getElem_mem h), ?_⟩
      rw [cl_drop, List.drop_eq_getElem_cons h, cl_cons]; rfl
    have hlen : ∀ i, (cl rC (l.drop (i + 1))).length = (l.length - (i + 1)) * 2 := fun i => by rw [cl_len, List.length_drop]
    have hh : ∀ i, AV.head (cl rC (l.drop (i + 1))) = true := fun i => cl_head
    have hgb := Nat.le_trans hg (show _ ≤ 34359738368 by decide)
    have hgb2 := Nat.le_trans hg (show _ ≤ 68719476736 by decide)
    obtain ⟨g, hgg⟩ : ∃ g, gcdL l = g := ⟨_, rfl⟩
    have hp : primL l = l.map (primZ g) := by unfold primL; rw [hgg]
    rw [hgg] at hgb hgb2 hg ⊢
    rw [hp]
    have hnil : l.length = 0 → Conv .nils (.imm l.length (cl iG (l.map (primZ g)))) := fun h => by
      have hn0 : l = [] := List.length_eq_zero_iff.1 h
      subst hn0
      exact CvL.conv (.nilR .nil)
    have hw1 : IntKind.i64.wrap (0 + 1) = 1 := rfl
    by_cases hg0 : g = 0
    · have hgz : ¬ 0 < blen g := by rw [hg0]; decide
      have hpz : ∀ z, primZ g z = z := fun z => by unfold primZ; rw [if_pos hg0]
      refine trX_peelV HE hP.mix (fun x : Nat × Nat => [x.1 + 1]) (fun x => ⟨upd (upd (upd (upd (upd (fun _ => .junk) 0 (.imm l.length (cl rC l))) 2 .nils) 3 (.opq (.rnat g))) 5 (.sl (x.1 + 1) 0 x.2 2)) 6 (.int .i64 (x.2 : Int)), upd (fun _ => .unused) (x.1 + 1) (.live (cl iY ((l.take x.2).map fun z => (false, primZ g z)))), 53⟩)
        (fun x => 1 ≤ x.2 ∧ x.2 ≤ l.length) (fun x => l.length - x.2) 0 (fun x => x.1 + 2) 53 (by kernel_rfl) (fun _ _ h => absurd rfl h) ?_ ?_
      · by_cases hn : 0 < l.length
        · obtain ⟨z, hz, hzb, hd⟩ := h0 0 hn
          rw [Nat.zero_mul] at hd
          have hzb1 := Nat.le_trans hzb (show _ ≤ 68719476736 by decide)
          have hq := Nat.le_trans (blen_le_of (Nat.div_le_self z.natAbs g) hzb) (show _ ≤ 68719476736 by decide)
          have hl0 := hlen 0
          have hh0 := hh 0
          have ht1 : cl iY ((l.take 1).map fun z => (false, primZ g z)) = [.bool (decide (z < 0)), .opq (.rnat z.natAbs)] := by
            have e1 : l.take 1 = [z] := by
              have := List.take_add_one (l := l) (i := 0)
              rw [List.take_zero, List.getElem?_eq_getElem hn, hz] at this; exact this
            rw [e1]
            first | rfl | (simp only [List.map_cons, List.map_nil, hpz]; rfl)
          simp (maxSteps := 1000000) only [go_sem, hn, hd, hl0, hh0, cl_len, hgb, hgb2, hzb1, hq, hgz, upd_upd, ne_eq, not_false_eq_true, imp_self, hw1]
          exact ⟨(15, 1), Kept.of rfl (by repeat (first | exact KT.nil | refine KT.upd rfl (by first | rfl | exact hro _) ?_)) (KM.p (.upd (by rw [ht1]; rfl) (by rw [ht1]; rfl) .nil)), by decide, hn⟩
        · simp (maxSteps := 1000000) only [go_sem, hn]
          exact hnil (by omega)
      · rintro ⟨q, i⟩ ⟨i1, i2⟩
        simp only [] at i1 i2
        by_cases h : i < l.length
        · obtain ⟨z, hz, hzb, hd⟩ := h0 i h
          have hzb1 := Nat.le_trans hzb (show _ ≤ 68719476736 by decide)
          have hq := Nat.le_trans (blen_le_of (Nat.div_le_self z.natAbs g) hzb) (show _ ≤ 68719476736 by decide)
          have hl0 := hlen i
          have hh0 := hh i
          have h2 : i * 2 ≤ l.length * 2 := by omega
          have hwi := wi_add1 i (by omega)
          have hlt : ((l.take i).map fun z => (false, primZ g z)).length = i := by rw [List.length_map, List.length_take]; omega
          have hck : (cl iY ((l.take i).map fun z => (false, primZ g z))).all AV.ck = true := cl_ck
          have hcl : (cl iY ((l.take i).map fun z => (false, primZ g z))).length = i * 2 := by rw [cl_len, hlt]
          have hb8 : (i + 1) * 32 ≤ 1099511627776 := by omega
          have ht1 : cl iY ((l.take (i + 1)).map fun z => (false, primZ g z)) = cl iY ((l.take i).map fun z => (false, primZ g z)) ++ [.bool (decide (z < 0)), .opq (.rnat z.natAbs)] := by
            rw [List.take_add_one, List.getElem?_eq_getElem h, hz, Option.toList_some, List.map_append, ← cl_app]
            congr 1
            all_goals first | rfl | (simp only [List.map_cons, List.map_nil, hpz]; rfl)
          simp (maxSteps := 1000000) only [go_sem, h, hd, hl0, hh0, cl_len, hgb, hgb2, hzb1, hq, hgz, upd_upd, ne_eq, not_false_eq_true, imp_self, hwi, h2, add_k, hck, hcl, hb8]
          exact ⟨⟨by simp, fun _ => trivial⟩, (q + 17, i + 1), Kept.of rfl (by repeat (first | exact KT.nil | refine KT.upd rfl (by first | rfl | exact hro _ | (simp only [AV.only, List.contains_cons, beq_self_eq_true, Bool.true_or]; done)) ?_)) (KM.p (.upd (by rw [ht1]; exact upd_eq _ _ _) (by simp only [objOnly, cl_only]) .nil)), ⟨by simp, by simp only []; omega⟩, by simp only []; omega⟩
        · obtain rfl : i = l.length := by omega
          have hlx : (cl iY ((l.take l.length).map fun z => (false, primZ g z))).length = l.length * 2 := by rw [cl_len, List.length_map, List.length_take, Nat.min_self]
          have htk : (cl iY ((l.take l.length).map fun z => (false, primZ g z))).take (l.length * 2) = cl iY ((l.take l.length).map fun z => (false, primZ g z)) := List.take_of_length_le (by omega)
          have hhd : AV.head (cl iY ((l.take l.length).map fun z => (false, primZ g z))) = true := cl_head
          have hdd : (cl iY ((l.take l.length).map fun z => (false, primZ g z))).drop (l.length * 2) = [] := List.drop_of_length_le (by omega)
          have hon : onlyL (fun _ => false) (cl iY ((l.take l.length).map fun z => (false, primZ g z))) = true := cl_only _
          simp (maxSteps := 1000000) only [go_sem, h, hlx, htk, hhd, hdd, cl_fc, cl_fv, hon, Nat.le_refl, Int.lt_irrefl]
          have e : l.map (primZ g) = ((l.take l.length).map fun z => (false, primZ g z)).map Prod.snd := by
            rw [List.map_map, List.take_length]; rfl
          rw [e]; exact CvL.conv (.imm (CvL.clm .iYG _) .nil)
    · have hgz : 0 < blen g := blen_pos_iff.2 (by omega)
      have hgp : 0 < g := by omega
      have hpz : ∀ z : Int, sg (decide (z < 0)) (z.natAbs / g) = primZ g z := fun z => by unfold primZ; rw [if_neg hg0]
      refine trX_peelV HE hP.mix (fun x : Nat × Nat => [x.1 + 1]) (fun x => ⟨upd (upd (upd (upd (upd (fun _ => .junk) 0 (.imm l.length (cl rC l))) 2 .nils) 3 (.opq (.rnat g))) 5 (.sl (x.1 + 1) 0 x.2 2)) 6 (.int .i64 (x.2 : Int)), upd (fun _ => .unused) (x.1 + 1) (.live (cl iY ((l.take x.2).map fun z => (true, primZ g z)))), 53⟩)
        (fun x => 1 ≤ x.2 ∧ x.2 ≤ l.length) (fun x => l.length - x.2) 0 (fun x => x.1 + 2) 53 (by kernel_rfl) (fun _ _ h => absurd rfl h) ?_ ?_
      · by_cases hn : 0 < l.length
        · obtain ⟨z, hz, hzb, hd⟩ := h0 0 hn
          rw [Nat.zero_mul] at hd
          have hzb1 := Nat.le_trans hzb (show _ ≤ 68719476736 by decide)
          have hq := Nat.le_trans (blen_le_of (Nat.div_le_self z.natAbs g) hzb) (show _ ≤ 68719476736 by decide)
          have hl0 := hlen 0
          have hh0 := hh 0
          have ht1 : cl iY ((l.take 1).map fun z => (true, primZ g z)) = [.opq (.rint (primZ g z)), .pad] := by
            have e1 : l.take 1 = [z] := by
              have := List.take_add_one (l := l) (i := 0)
              rw [List.take_zero, List.getElem?_eq_getElem hn, hz] at this; exact this
            rw [e1]
            first | rfl | (simp only [List.map_cons, List.map_nil, hpz]; rfl)
          simp (maxSteps := 1000000) only [go_sem, hn, hd, hl0, hh0, cl_len, hgb, hgb2, hzb1, hq, hgz, hgp, hpz, upd_upd, ne_eq, not_false_eq_true, imp_self, hw1]
          exact ⟨(29, 1), Kept.of rfl (by repeat (first | exact KT.nil | refine KT.upd rfl (by first | rfl | exact hro _) ?_)) (KM.p (.upd (by rw [ht1]; rfl) (by rw [ht1]; rfl) .nil)), by decide, hn⟩
        · simp (maxSteps := 1000000) only [go_sem, hn]
          exact hnil (by omega)
      · rintro ⟨q, i⟩ ⟨i1, i2⟩
        simp only [] at i1 i2
        by_cases h : i < l.length
        · obtain ⟨z, hz, hzb, hd⟩ := h0 i h
          have hzb1 := Nat.le_trans hzb (show _ ≤ 68719476736 by decide)
          have hq := Nat.le_trans (blen_le_of (Nat.div_le_self z.natAbs g) hzb) (show _ ≤ 68719476736 by decide)
          have hl0 := hlen i
          have hh0 := hh i
          have h2 : i * 2 ≤ l.length * 2 := by omega
          have hwi := wi_add1 i (by omega)
          have hlt : ((l.take i).map fun z => (true, primZ g z)).length = i := by rw [List.length_map, List.length_take]; omega
          have hck : (cl iY ((l.take i).map fun z => (true, primZ g z))).all AV.ck = true := cl_ck
          have hcl : (cl iY ((l.take i).map fun z => (true, primZ g z))).length = i * 2 := by rw [cl_len, hlt]
          have hb8 : (i + 1) * 32 ≤ 1099511627776 := by omega
          have ht1 : cl iY ((l.take (i + 1)).map fun z => (true, primZ g z)) = cl iY ((l.take i).map fun z => (true, primZ g z)) ++ [.opq (.rint (primZ g z)), .pad] := by
            rw [List.take_add_one, List.getElem?_eq_getElem h, hz, Option.toList_some, List.map_append, ← cl_app]
            congr 1
            all_goals first | rfl | (simp only [List.map_cons, List.map_nil, hpz]; rfl)
          simp (maxSteps := 1000000) only [go_sem, h, hd, hl0, hh0, cl_len, hgb, hgb2, hzb1, hq, hgz, hgp, hpz, upd_upd, ne_eq, not_false_eq_true, imp_self, hwi, h2, add_k, hck, hcl, hb8]
          exact ⟨⟨by simp, fun _ => trivial⟩, (q + 31, i + 1), Kept.of rfl (by repeat (first | exact KT.nil | refine KT.upd rfl (by first | rfl | exact hro _ | (simp only [AV.only, List.contains_cons, beq_self_eq_true, Bool.true_or]; done)) ?_)) (KM.p (.upd (by rw [ht1]; exact upd_eq _ _ _) (by simp only [objOnly, cl_only]) .nil)), ⟨by simp, by simp only []; omega⟩, by simp only []; omega⟩
        · obtain rfl : i = l.length := by omega
          have hlx : (cl iY ((l.take l.length).map fun z => (true, primZ g z))).length = l.length * 2 := by rw [cl_len, List.length_map, List.length_take, Nat.min_self]
          have htk : (cl iY ((l.take l.length).map fun z => (true, primZ g z))).take (l.length * 2) = cl iY ((l.take l.length).map fun z => (true, primZ g z)) := List.take_of_length_le (by omega)
          have hhd : AV.head (cl iY ((l.take l.length).map fun z => (true, primZ g z))) = true := cl_head
          have hdd : (cl iY ((l.take l.length).map fun z => (true, primZ g z))).drop (l.length * 2) = [] := List.drop_of_length_le (by omega)
          have hon : onlyL (fun _ => false) (cl iY ((l.take l.length).map fun z => (true, primZ g z))) = true := cl_only _
          simp (maxSteps := 1000000) only [go_sem, h, hlx, htk, hhd, hdd, cl_fc, cl_fv, hon, Nat.le_refl, Int.lt_irrefl]
          have e : l.map (primZ g) = ((l.take l.length).map fun z => (true, primZ g z)).map Prod.snd := by
            rw [List.map_map, List.take_length]; rfl
          rw [e]; exact CvL.conv (.imm (CvL.clm .iYG _) .nil)
def okI : List AV → Prop
  | .opq (.rint _) :: .pad :: t => okI t
  | .bool m :: .opq (.rnat a) :: t => (m = true → 0 < a) ∧ okI t
  | [] => True
  | _ => False
def unI : List AV → List Int
  | .opq (.rint z) :: .pad :: t => z :: unI t
  | .bool m :: .opq (.rnat a) :: t => sg m a :: unI t
  | _ => []
theorem okI_cons (z t) : okI (.opq (.rint z) :: .pad :: t) = okI t := rfl
theorem okI_nil : okI [] = True := rfl
theorem unI_cons (z t) : unI (.opq (.rint z) :: .pad :: t) = z :: unI t := rfl
theorem unI_nil : unI [] = [] := rfl
theorem okI_cl (l : List Int) : okI (cl iG l) = True := by
  induction l with
  | nil => rfl
  | cons a l ih => rw [cl_cons]; exact ih
theorem unI_cl (l : List Int) : unI (cl iG l) = l := by
  induction l with
  | nil => rfl
  | cons a l ih => rw [cl_cons]; show a :: unI (cl iG l) = _; rw [ih]
theorem okI_cv : ∀ cs : List AV, okI cs → CvL cs (cl iG (unI cs)) ∧ AV.head cs = true := by
  intro cs
  induction cs using unI.induct with
  | case1 z t ih => intro h; obtain ⟨i1, i2⟩ := ih h; exact ⟨CvL.app (a := iG z) (b := iG z) (.refl _) i1 i2, rfl⟩
  | case2 m a t ih =>
    intro h
    obtain ⟨h1, h2⟩ := h
    obtain ⟨i1, i2⟩ := ih h2
    refine ⟨?_, rfl⟩
    have := CvL.app (CvL.iCG (sg m a)) i1 i2
    rw [rC_sg h1] at this
    exact this
  | case3 cs h1 h2 =>
    intro h
    have : cs = [] := by
      unfold okI at h
      split at h
      · exact absurd rfl (h1 _ _)
      · exact absurd rfl (h2 _ _ _)
      · rfl
      · exact h.elim
    subst this
    exact ⟨.refl _, rfl⟩
def rawLI : AV → Option (Prop × List Int)
  | .nils => some (True, [])
  | .imm n cs => some (okI cs ∧ n = (unI cs).length, unI cs)
  | _ => none
theorem rawLI_nils : rawLI .nils = some (True, []) := rfl
theorem rawLI_imm (n cs) : rawLI (.imm n cs) = some (okI cs ∧ n = (unI cs).length, unI cs) := rfl
theorem rawLI_cv {v : AV} {p l} (h : rawLI v = some (p, l)) (hp : p) {xs bs} (k : CvL xs bs) : CvL (v :: xs) (.imm l.length (cl iG l) :: bs) := by
  unfold rawLI at h
  split at h
  · simp only [Option.some.injEq, Prod.mk.injEq] at h
    obtain ⟨rfl, rfl⟩ := h
    exact .nilR k
  · simp only [Option.some.injEq, Prod.mk.injEq] at h
    obtain ⟨rfl, rfl⟩ := h
    rw [hp.2]
    exact .imm (okI_cv _ hp.1).1 k
  · simp at h
def iPrimS : List AV → Option (Prop × AV)
  | [x] => (rawLI x).map fun a => (a.1 ∧ a.2.length ≤ 1073741824 ∧ ∀ z ∈ a.2, wl z ≤ 17179869184, .imm a.2.length (cl iG (primL a.2)))
  | _ => none
theorem iPrimS_eq (x) : iPrimS [x] = (rawLI x).map fun a => (a.1 ∧ a.2.length ≤ 1073741824 ∧ ∀ z ∈ a.2, wl z ≤ 17179869184, .imm a.2.length (cl iG (primL a.2))) := rfl
theorem iPrimS_ok (hP : PrgOk P) (args p r) (he : iPrimS args = some (p, r)) (hp : p) : CSpec P 40 args r := by
  unfold iPrimS at he
  split at he
  · simp only [Option.map_eq_some_iff, Prod.exists, Prod.mk.injEq] at he
    obtain ⟨q, l, h1, rfl, rfl⟩ := he
    exact (iPrim_spec hP l hp.2.1 hp.2.2).cv (rawLI_cv h1 hp.1 .nil)
  · simp at he
attribute [go_sem] iPrimS_eq okI_cons okI_nil unI_cons unI_nil okI_cl unI_cl rawLI_nils rawLI_imm
/-- All of layer 2. -/
noncomputable def Wt5 : Nat → List AV → Option (Prop × AV) := addS (addS Wt4 39 wPrimS) 40 iPrimS
theorem Wt5_all (hP : PrgOk P) (T) (hT : TyOk P T) : EnvOk P ⟨T, Wt5⟩ := ((Wt4_all hP T hT).add (wPrimS_ok hP)).add (iPrimS_ok hP)
attribute [go_sem] Wt5
end Go.Proofs.Ytokoagkbfdkacaa.AM
/- What is handed in az data, az the machine sees it. -/
namespace Go.Proofs.Ytokoagkbfdkacaa.AM
set_option linter.all false
set_option autoImplicit true
set_option relaxedAutoImplicit true
open Go

/-- Shapes of data. -/
inductive Sha where
  | bool
  | int (k : IntKind)
  | str
  | slice (e : Sha)
  | row (l : List Sha)
mutual
def Sha.width : Sha → Nat
  | .row l => widthL l
  | _ => 1
def widthL : List Sha → Nat
  | [] => 0
  | s :: l => s.width + widthL l
end
mutual
def Sha.chk (P : Program) : Sha → TypeId → Bool
  | .bool, t => match P.underlying t with
    | some .bool => true
    | _ => false
  | .int k, t => match P.underlying t with
    | some (.int k') => decide (k' = k)
    | _ => false
  | .str, t => match P.underlying t with
    | some .string => true
    | _ => false
  | .slice e, t => match P.underlying t with
    | some (.slice u) => e.chk P u && P.cellsOf u == e.width && Nat.blt 0 e.width
    | _ => false
  | .row l, t => P.cellsOf t == widthL l && match P.underlying t with
    | some (.struct fs) => chkF P l fs.toList 0
    | some (.array n u) => l.length == n && chkA P l u (P.cellsOf u)
    | _ => false
def chkF (P : Program) : List Sha → List Field → Nat → Bool
  | [], [], _ => true
  | s :: l, f :: fs, o => f.offset == o && P.cellsOf f.type == s.width && s.chk P f.type && chkF P l fs (o + s.width)
  | _, _, _ => false
def chkA (P : Program) : List Sha → TypeId → Nat → Bool
  | [], _, _ => true
  | s :: l, u, c => c == s.width && s.chk P u && chkA P l u c
end
mutual
/-- The cells of data of a shape. -/
def Sha.Ok : Sha → List AV → Prop
  | .bool, az => ∃ b, az = [.bool b]
  | .int k, az => ∃ n, (Lit.int k n).wf = true ∧ az = [.int k n]
  | .str, az => ∃ s : ByteArray, s.size ≤ maxLen ∧ az = [.str s]
  | .slice e, az => az = [.nils] ∨ ∃ l : List (List AV), l.length ≤ maxLen ∧ (∀ x ∈ l, e.Ok x) ∧ az = [.imm l.length l.flatten]
  | .row l, az => okL l az
def okL : List Sha → List AV → Prop
  | [], az => az = []
  | s :: l, az => ∃ a b, s.Ok a ∧ okL l b ∧ az = a ++ b
end
section
variable {H : Type} {enc : TypeId × Value → H} {P : Program} {w : World}
abbrev RL0 (w : World) := RL (fun _ => False) (fun _ => none) w
theorem cut_app {vs : List Value} {o k : Nat} (h : o + k ≤ vs.length) : vs.drop o = (vs.drop o).take k ++ vs.drop (o + k) := by
  rw [← List.drop_drop, List.take_append_drop]
theorem rl_slice {e : Sha} {k n : Nat} {a : Addr} {len : Nat} {elems : List (DataW H × List MemPlace)} {u : TypeId} (hk : 0 < k) (hl : elems.length = len)
    (ih : ∀ fuel cs x, DataW.trod enc P w 0 (fun _ => true) true fuel u cs = some x → ∃ az, RL0 w cs az ∧ e.Ok az)
    (hel : ∀ i, i < len → (w.cells? 0 (a.add (i * k)) k).bind (DataW.trod enc P w 0 (fun _ => true) true n u) = elems[i]?) (hlen : 0 < len) :
    a.spot = none ∧ ∀ m, m ≤ len → ∃ (us : List Value) (l : List (List AV)), l.length = m ∧ us.length = m * k ∧ (∀ j v, us[j]? = some v → w.cell? ⟨a.block, a.off + j, none⟩ = some v) ∧ RL0 w us l.flatten ∧ ∀ x ∈ l, e.Ok x := by
  have get : ∀ i, i < len → ∃ cs x, w.cells? 0 (a.add (i * k)) k = some cs ∧ DataW.trod enc P w 0 (fun _ => true) true n u cs = some x := fun i hi => by
    have := hel i hi
    rw [List.getElem?_eq_getElem (by omega), Option.bind_eq_some_iff] at this
    obtain ⟨cs, h1, h2⟩ := this
    exact ⟨cs, _, h1, h2⟩
  have hs : a.spot = none := by
    obtain ⟨cs, x, h1, _⟩ := get 0 hlen
    obtain ⟨_, h2, h3⟩ := World.cells?_some h1
    have := h3 0 hk
    rw [List.getElem?_eq_getElem (by omega)] at this
    have h4 := World.cell?_spot this
    rw [Nat.zero_mul] at h4
    simpa [Addr.add] using h4
  refine ⟨hs, fun m => ?_⟩
  induction m with
  | zero => exact fun _ => ⟨[], [], rfl, by simp, by simp, .nil, by simp⟩
  | succ m im =>
    intro hm
    obtain ⟨us, l, h1, h2, h3, h4, h5⟩ := im (by omega)
    obtain ⟨cs, x, g1, g2⟩ := get m (by omega)
    obtain ⟨az, g3, g4⟩ := ih _ _ _ g2
    obtain ⟨_, g5, g6⟩ := World.cells?_some g1
    refine ⟨us ++ cs, l ++ [az], by simp [h1], by rw [List.length_append, h2, g5, Nat.succ_mul], ?_, ?_, ?_⟩
    · intro j v hj
      rcases Nat.lt_or_ge j us.length with hlt | hge
      · rw [List.getElem?_append_left hlt] at hj; exact h3 j v hj
      · rw [List.getElem?_append_right hge] at hj
        have hlt : j - us.length < k := by have := (List.getElem?_eq_some_iff.1 hj).1; omega
        have g7 := g6 _ hlt
        rw [hj] at g7
        obtain ⟨b, o, sp⟩ := a
        simp only at hs
        subst hs
        rw [Go.WideShapes.add_plain, Go.WideShapes.add_plain] at g7
        rw [← g7]
        have e3 : o + j = o + m * k + (j - us.length) := by rw [← h2, Nat.add_assoc, Nat.add_sub_cancel' hge]
        simp only [e3]
    · rw [List.flatten_append]; simpa using h4.app g3
    · intro y hy
      rcases List.mem_append.1 hy with h | h
      · exact h5 y h
      · simp at h; exact h ▸ g4
mutual
theorem Sha.rl : ∀ (sp : Sha) (t : TypeId), sp.chk P t = true → ∀ fuel cs x, DataW.trod enc P w 0 (fun _ => true) true fuel t cs = some x → ∃ az, RL0 w cs az ∧ sp.Ok az
  | .bool, t, hc, fuel, cs, x, h => by
    have ht : P.underlying t = some .bool := by simp only [Sha.chk] at hc; split at hc <;> simp_all
    cases fuel with
    | zero => simp [DataW.trod] at h
    | succ n =>
      unfold DataW.trod at h
      rw [ht] at h
      split at h <;> simp_all
      exact ⟨_, .bool _ .nil, _, rfl⟩
  | .int k, t, hc, fuel, cs, x, h => by
    have ht : P.underlying t = some (.int k) := by simp only [Sha.chk] at hc; split at hc <;> simp_all
    cases fuel with
    | zero => simp [DataW.trod] at h
    | succ n =>
      unfold DataW.trod at h
      rw [ht] at h
      split at h <;> simp_all
      obtain ⟨⟨rfl, hw⟩, _⟩ := h
      exact ⟨_, .int _ _ .nil, _, hw, rfl⟩
  | .str, t, hc, fuel, cs, x, h => by
    have ht : P.underlying t = some .string := by simp only [Sha.chk] at hc; split at hc <;> simp_all
    cases fuel with
    | zero => simp [DataW.trod] at h
    | succ n =>
      unfold DataW.trod at h
      rw [ht] at h
      split at h <;> simp_all
      exact ⟨_, .str _ .nil, _, h.1, rfl⟩
  | .slice e, t, hc, fuel, cs, x, h => by
    obtain ⟨u, ht, h1, h2, h3⟩ : ∃ u, P.underlying t = some (.slice u) ∧ e.chk P u = true ∧ P.cellsOf u = e.width ∧ 0 < e.width := by
      simp only [Sha.chk] at hc
      split at hc
      · rename_i u hu
        simp only [Bool.and_eq_true, beq_iff_eq] at hc
        exact ⟨u, hu, hc.1.1, hc.1.2, Nat.le_of_ble_eq_true hc.2⟩
      · simp at hc
    have ih := Sha.rl e u h1
    rcases DataW.trod_slice ht h with ⟨rfl, _⟩ | ⟨a, len, cap, elems, rest, n, _, rfl, _, _, hlc, hm, hlen, hel, _, _⟩
    · exact ⟨[.nils], .nils .nil, .inl rfl⟩
    · rw [h2] at hel
      rcases Nat.eq_zero_or_pos len with h0 | h0
      · subst h0; exact ⟨[.imm 0 []], .imm0 _ _ .nil, .inr ⟨[], by simp [maxLen], by simp, rfl⟩⟩
      · obtain ⟨hs, hall⟩ := rl_slice h3 hlen ih hel h0
        obtain ⟨us, l, g1, g2, g3, g4, g5⟩ := hall len (Nat.le_refl _)
        obtain ⟨b, o, sp⟩ := a
        simp only at hs
        subst hs
        exact ⟨[.imm len l.flatten], .imm hlc (fun _ h => h) g3 g4 .nil, .inr ⟨l, by omega, g5, by rw [g1]⟩⟩
  | .row l, t, hc, fuel, cs, x, h => by
    simp only [Sha.chk, Bool.and_eq_true, beq_iff_eq] at hc
    obtain ⟨hw, hc⟩ := hc
    split at hc
    · rename_i fs hu
      obtain ⟨xs, n, _, _, hl, hx, hall⟩ := DataW.trod_struct hu h
      have := rlF l fs.toList 0 hc n cs (fun i f hf => by
        have := hall i f (by simpa using hf)
        rw [this]
        have : i < fs.size := by have := (List.getElem?_eq_some_iff.1 hf).1; simpa using this
        exact ⟨xs[i]'(by omega), List.getElem?_eq_getElem _⟩) (by rw [hl, hw]; omega)
      simpa [Sha.Ok] using this
    · rename_i n u hu
      simp only [Bool.and_eq_true, beq_iff_eq] at hc
      obtain ⟨xs, m, _, _, hl, hx, hall⟩ := DataW.trod_array hu h
      have := rlA l u (P.cellsOf u) hc.2 m cs 0 0 (Nat.zero_mul _).symm (fun i hi => by
        rw [Nat.zero_add, hall i (by omega)]
        exact ⟨xs[i]'(by omega), List.getElem?_eq_getElem _⟩) (by rw [hl, hw]; omega)
      simpa [Sha.Ok] using this
    · simp at hc
theorem rlF : ∀ (l : List Sha) (fs : List Field) (o : Nat), chkF P l fs o = true → ∀ (n : Nat) (cs : List Value), (∀ (i : Nat) (f : Field), fs[i]? = some f → ∃ y, DataW.trod enc P w 0 (fun _ => true) true n f.type ((cs.drop f.offset).take (P.cellsOf f.type)) = some y) → cs.length = o + widthL l → ∃ az, RL0 w (cs.drop o) az ∧ okL l az
  | [], [], o, _, n, cs, _, hl => ⟨[], by rw [List.drop_of_length_le (by simp [widthL] at hl; omega)]; exact .nil, rfl⟩
  | [], _ :: _, _, hc, _, _, _, _ => by simp [chkF] at hc
  | _ :: _, [], _, hc, _, _, _, _ => by simp [chkF] at hc
  | s :: l, f :: fs, o, hc, n, cs, hall, hl => by
    simp only [chkF, Bool.and_eq_true, beq_iff_eq] at hc
    obtain ⟨⟨⟨h1, h2⟩, h3⟩, h4⟩ := hc
    simp only [widthL] at hl
    obtain ⟨y, hy⟩ := hall 0 f rfl
    obtain ⟨a, ha, oa⟩ := Sha.rl s f.type h3 _ _ _ hy
    obtain ⟨b, hb, ob⟩ := rlF l fs (o + s.width) h4 n cs (fun i g hg => hall (i + 1) g (by simpa using hg)) (by omega)
    refine ⟨a ++ b, ?_, a, b, oa, ob, rfl⟩
    rw [cut_app (k := s.width) (by omega)]
    rw [h1, h2] at ha
    exact ha.app hb
theorem rlA : ∀ (l : List Sha) (u : TypeId) (c : Nat), chkA P l u c = true → ∀ (n : Nat) (cs : List Value) (j o : Nat), o = j * c → (∀ i, i < l.length → ∃ y, DataW.trod enc P w 0 (fun _ => true) true n u ((cs.drop ((j + i) * c)).take c) = some y) → cs.length = o + widthL l → ∃ az, RL0 w (cs.drop o) az ∧ okL l az
  | [], _, _, _, _, cs, _, o, _, _, hl => ⟨[], by rw [List.drop_of_length_le (by simp [widthL] at hl; omega)]; exact .nil, rfl⟩
  | s :: l, u, c, hc, n, cs, j, o, ho, hall, hl => by
    simp only [chkA, Bool.and_eq_true, beq_iff_eq] at hc
    obtain ⟨⟨h1, h2⟩, h3⟩ := hc
    simp only [widthL] at hl
    obtain ⟨y, hy⟩ := hall 0 (by simp)
    obtain ⟨a, ha, oa⟩ := Sha.rl s u h2 _ _ _ hy
    obtain ⟨b, hb, ob⟩ := rlA l u c h3 n cs (j + 1) (o + c) (by rw [ho, Nat.succ_mul]) (fun i hi => by
      have := hall (i + 1) (by simp; omega)
      rwa [show j + (i + 1) = j + 1 + i by omega] at this) (by omega)
    refine ⟨a ++ b, ?_, a, b, oa, ob, rfl⟩
    rw [cut_app (k := c) (by omega)]
    rw [Nat.add_zero, ← ho] at ha
    exact ha.app hb
end
/-- An argument. -/
theorem Sha.arg {sp : Sha} {t : TypeId} (hc : sp.chk P t = true) {v : Value} {d : DataW H} {ps : List MemPlace} (h : DataW.Trod enc P w 0 (fun _ => true) true t v d ps) : ∃ az, RL0 w v.cells.toList az ∧ sp.Ok az := by
  obtain ⟨fuel, h⟩ := h
  exact Sha.rl sp t hc fuel _ _ h
/-- .. of several cells, or of one. -/
theorem arg_row {l : List Sha} {t : TypeId} (hc : (Sha.row l).chk P t = true) {v : Value} {d : DataW H} {ps : List MemPlace} {b : Nat} (h : DataW.Trod enc P w 0 (fun _ => true) true t v d ps) (hv : Value.okWide P w .any b t v) : ∃ az, RL0 w [v] [.agg az] ∧ okL l az := by
  obtain ⟨az, h1, h2⟩ := Sha.arg hc h
  have : ∃ cs, v = .agg cs := by
    simp only [Sha.chk, Bool.and_eq_true] at hc
    unfold Value.okWide at hv
    have hc := hc.2
    split at hc
    · rename_i fs hu; rw [hu] at hv; exact ⟨_, hv.choose_spec.1⟩
    · rename_i n u hu; rw [hu] at hv; exact ⟨_, hv.choose_spec.1⟩
    · simp at hc
  obtain ⟨cs, rfl⟩ := this
  exact ⟨az, by simpa using RL.agg (cs := cs.toList) (by simpa [Value.cells] using h1) .nil, by simpa [Sha.Ok] using h2⟩
end
end Go.Proofs.Ytokoagkbfdkacaa.AM
/- The statements of layer 2: numbers handed in az sign and digits. -/
namespace Go.Proofs.Ytokoagkbfdkacaa.AM
set_option linter.all false
set_option autoImplicit true
set_option relaxedAutoImplicit true
open Go Go.Proofs
set_option maxRecDepth 100000
set_option maxHeartbeats 8000000
set_option linter.unusedSimpArgs false
variable {P : Program}

/-- The number of a sign and digits. -/
def bigZ (m : Bool) (l : List Nat) : Int := sg m (dOf 65536 (l.take 50))
/-- Digits, with what they were handed in az. -/
theorem big_in {cs : List AV} (h : okL [.bool, .slice (.int .u16)] cs) : ∃ m l, (∀ d ∈ l, d < 65536) ∧ l.length ≤ maxLen ∧ CvL [.agg cs] [.agg [.bool m, .imm l.length (List.map (fun d : Nat => AV.int .u16 (d : Int)) (l))]] := by
  obtain ⟨a, b, ⟨m, rfl⟩, ⟨c, d, hc, rfl, rfl⟩, rfl⟩ := h
  rcases hc with rfl | ⟨l, hl, hall, rfl⟩
  · exact ⟨m, [], by simp, by simp, .agg (.cons rfl (.nilR .nil)) .nil⟩
  · have key : ∀ l : List (List AV), (∀ x ∈ l, (Sha.int .u16).Ok x) → ∃ k : List Nat, k.length = l.length ∧ (∀ d ∈ k, d < 65536) ∧ l.flatten = (List.map (fun d : Nat => AV.int .u16 (d : Int)) (k)) := by
      intro l
      induction l with
      | nil => intro _; exact ⟨[], rfl, by simp, rfl⟩
      | cons x l ih =>
        intro h
        obtain ⟨k, h1, h2, h3⟩ := ih fun y hy => h y (by simp [hy])
        obtain ⟨n, hn, rfl⟩ := h x (by simp)
        have hb := bounds_u16 hn
        refine ⟨n.toNat :: k, by simp [h1], ?_, ?_⟩
        · intro d hd
          rcases List.mem_cons.1 hd with rfl | hd
          · omega
          · exact h2 d hd
        · rw [List.flatten_cons, h3]
          simp only [List.map_cons, List.singleton_append, List.cons.injEq, and_true, AV.int.injEq, true_and]
          omega
    obtain ⟨k, h1, h2, h3⟩ := key l hall
    exact ⟨m, k, h2, by omega, by rw [h3, h1]; exact .refl _⟩

theorem blen_dOf {l : List Nat} (h : ∀ d ∈ l, d < 65536) : blen (dOf 65536 l) ≤ 16 * l.length := (blen_le_iff _ _).2 (by
  rw [Nat.pow_mul]; exact dOf_lt 65536 l h)
theorem lOf_spec (hP : PrgOk P) (m : Bool) (l : List Nat) (hd : ∀ d ∈ l, d < 65536) (hl : l.length ≤ maxLen) : CSpec P 17 [.agg [.bool m, .imm l.length (List.map (fun d : Nat => AV.int .u16 (d : Int)) (l))]] (.agg [.opq (.rint (bigZ m l)), .pad]) := by
  have HE := Wt5_all hP T2 hP.t2
  have hgo : groundL [.agg [.bool m, .imm l.length (List.map (fun d : Nat => AV.int .u16 (d : Int)) (l))]] = true := by simp only [groundL, onlyL, AV.only, only_U, Bool.and_true]
  refine CSpec_vc (E := ⟨T2, Wt5⟩) (fn17 hP) HE hP.mix rfl hgo rfl (Nat.le_of_ble_eq_true rfl) ?_
  simp (maxSteps := 1000000) only [go_sem]
  have hget : ∀ i, i < l.length → ∃ d, l.getD i 0 = d ∧ d < 65536 ∧ IntKind.u32.wrap (d : Int) = (d : Int) ∧ ((List.map (fun d : Nat => AV.int .u16 (d : Int)) (l.drop i))).getD 0 .junk = .int .u16 (d : Int) ∧ l.take (i + 1) = l.take i ++ [d] := fun i h => by
    have h1 := hd _ (getD_mem h)
    exact ⟨_, rfl, h1, by rw [IntKind.wrap_u32]; omega, gU' h, take_snoc h⟩
  have hw1 : IntKind.i64.wrap (0 + 1) = 1 := rfl
  have hoL : ∀ L, objOnly L (.live [.bool m, .imm l.length (List.map (fun d : Nat => AV.int .u16 (d : Int)) (l))]) = true := fun L => by simp only [objOnly, onlyL, AV.only, only_U, Bool.and_true]
  refine trX_peelV HE hP.mix (fun x : Nat × Nat => [x.1 + 2, 1, 0]) (fun x => ⟨upd (upd (upd (upd (fun _ => .junk) 1 (.ref 0 0)) 2 (.ref 1 0)) 3 (.sl (x.1 + 2) 0 x.2 1)) 4 (.int .i64 (x.2 : Int)), upd (upd (upd (fun _ => .unused) 0 (.live [.bool m, .imm l.length (List.map (fun d : Nat => AV.int .u16 (d : Int)) (l))])) 1 (.live [.opq (.rint 0), .pad])) (x.1 + 2) (.live (List.map (fun d : Nat => AV.int .u32 (d : Int)) (l.take x.2))), 46⟩)
    (fun x => 1 ≤ x.2 ∧ x.2 ≤ l.length ∧ x.2 ≤ 50) (fun x => 50 - x.2) 10 (fun x => x.1 + 3) 46 (by kernel_rfl) (fun x r h => by
      have := (Has.upd (L := [x.1 + 2, 1, 0]) (by simp) (Has.upd (by simp) Has.nil) : Has [x.1 + 2, 1, 0] (upd (upd (fun _ => .unused) 0 (.live [.bool m, .imm l.length (List.map (fun d : Nat => AV.int .u16 (d : Int)) (l))])) 1 (.live [.opq (.rint 0), .pad])))
      exact this r h) ?_ ?_
  · by_cases hn : 0 < l.length
    · obtain ⟨d, h1, h2, h3, h4, h5⟩ := hget 0 hn
      rw [List.drop_zero] at h4
      rw [List.take_zero, List.nil_append, Nat.zero_add] at h5
      simp (maxSteps := 1000000) only [go_sem, hn, h3, h4, upd_upd, hw1, ne_eq, not_false_eq_true, imp_self]
      exact ⟨(25, 1), Kept.of rfl (by repeat (first | exact KT.nil | refine KT.upd rfl (by first | rfl | exact hr | exact hr2 | (simp only [go_sem]; done)) ?_)) (KM.p (.upd (by simp only [h5]; rfl) (by simp only [objOnly, only_U]) (.upd rfl rfl (.upd rfl (hoL _) .nil)))), by decide, hn, by decide⟩
    · have hn0 : l = [] := List.length_eq_zero_iff.1 (by omega)
      subst hn0
      simp (maxSteps := 1000000) only [go_sem, hn, Int.lt_irrefl]
      refine trX_once HE hP.mix 46 0 (by kernel_rfl) ?_
      simp (maxSteps := 1000000) only [go_sem]
      have e : bigZ m [] = 0 := by unfold bigZ; exact sg_zero m
      rw [e, sg_zero]
      exact ⟨by decide, .refl _⟩
  · rintro ⟨q, i⟩ ⟨i1, i2, i3⟩
    simp only [] at i1 i2 i3
    have hlt : (l.take i).length = i := by rw [List.length_take]; omega
    by_cases h : i < l.length
    · by_cases h50 : i < 50
      · obtain ⟨d, h1, h2, h3, h4, h5⟩ := hget i h
        have hwi := wi_add1 i (by omega)
        have hb8 : (i + 1) * 4 ≤ 1099511627776 := by omega
        have hil : i ≤ l.length := i2
        simp (maxSteps := 1000000) only [go_sem, h, h50, hil, h3, h4, upd_upd, hwi, hlt, hb8, ne_eq, not_false_eq_true, imp_self, add_k]
        exact ⟨⟨by simp, fun _ => trivial⟩, (q + 18, i + 1), Kept.of rfl (by repeat (first | exact KT.nil | refine KT.upd rfl (by first | rfl | (simp only [AV.only, List.contains_cons, beq_self_eq_true, Bool.true_or]; done)) ?_)) (KM.p (.upd (by rw [h5, List.map_append]; exact upd_eq _ _ _) (by simp only [objOnly, only_U]) (.upd rfl rfl (.upd rfl (hoL _) .nil)))), ⟨by simp, by simp only []; omega, by simp only []; omega⟩, by simp only []; omega⟩
      · have hi50 : i = 50 := by omega
        have ht : l.take 50 = l.take i := by rw [hi50]
        have hdi : ∀ d ∈ l.take i, d < 65536 := fun d h => hd d (List.mem_of_mem_take h)
        unfold bigZ
        rw [ht]
        generalize hx : l.take i = x at *
        have hbx : blen (dOf 65536 x) ≤ 68719476736 := Nat.le_trans (blen_dOf hdi) (by omega)
        simp (maxSteps := 1000000) only [go_sem, h, h50]
        refine trX_loop HE hP.mix [q + 2, 1, 0] (fun k : Nat => ⟨upd (upd (upd (fun _ => .junk) 1 (.ref 0 0)) 2 (.ref 1 0)) 3 (.sl (q + 2) 0 k 1), upd (upd (upd (fun _ => .unused) 0 (.live [.bool m, .imm l.length (List.map (fun d : Nat => AV.int .u16 (d : Int)) (l))])) 1 (.live [.opq (.rint 0), .pad])) (q + 2) (.live (List.map (fun d : Nat => AV.int .u32 (d : Int)) (x))), 46⟩)
          (fun k => k ≤ i ∧ dOf 65536 (x.take k) = dOf 65536 x) (fun k => k) i 0 (Has.upd (by simp) (Has.upd (by simp) (Has.upd (by simp) Has.nil))) ?_ ⟨Nat.le_refl _, by rw [List.take_of_length_le (by omega)]⟩ 46 (by kernel_rfl) ?_
        · exact Kept.of rfl (by repeat (first | exact KT.nil | refine KT.upd rfl (by first | rfl | (simp only [AV.only, List.contains_cons, beq_self_eq_true, Bool.true_or]; done)) ?_)) (KM.p (.upd (upd_eq _ _ _) (by simp only [objOnly, only_U]) (.upd rfl rfl (.upd rfl (hoL _) .nil))))
        · intro k ⟨k1, k2⟩
          cases k with
          | zero =>
            rw [List.take_zero] at k2
            simp (maxSteps := 1000000) only [go_sem, k2]
            exact ⟨hbx, .refl _⟩
          | succ k =>
            have w2 := wi_nat k (by omega)
            have hk : k < x.length := by omega
            have hks : k < k + 1 := Nat.lt_succ_self k
            have hks' : k ≤ k + 1 := Nat.le_succ k
            have htk := take_snoc hk
            simp (maxSteps := 1000000) only [go_sem, w2, gU hk, hk, hks]
            refine if_split (fun hz => ?_) (fun hz => ?_)
            · have hk3 : k ≤ x.length := by omega
              simp (maxSteps := 1000000) only [go_sem, w2, hks', hk3]
              have hz := eq_of_beq hz
              refine ⟨k, Kept.of rfl (by repeat (first | exact KT.nil | refine KT.upd rfl (by first | rfl | (simp only [AV.only, List.contains_cons, beq_self_eq_true, Bool.true_or]; done)) ?_)) (KM.p (.upd (upd_eq _ _ _) (by simp only [objOnly, only_U]) (.upd rfl rfl (.upd rfl (hoL _) .nil)))), ⟨by omega, ?_⟩, by omega⟩
              rw [← k2, htk, hz, dOf_append]; simp [dOf]
            · have hz : x.getD k 0 ≠ 0 := by simpa using hz
              have hR : isR (k + 1) (List.map (fun d : Nat => AV.int .u32 (d : Int)) (x.take (k + 1))) = True := by
                unfold isR
                rw [map_ud32]
                exact eq_true ⟨rfl, by rw [List.length_map, List.length_take]; omega, fun d h => hdi d (List.mem_of_mem_take h), canon_take hk hz⟩
              have hk1 : k + 1 ≤ x.length := hk
              simp (maxSteps := 1000000) only [go_sem, hk, hk1, k2, hR, hks, hks', hbx]
              exact .refl _
    · have ht : l.take 50 = l.take i := by rw [List.take_of_length_le (show l.length ≤ 50 by omega), List.take_of_length_le (show l.length ≤ i by omega)]
      have hdi : ∀ d ∈ l.take i, d < 65536 := fun d h => hd d (List.mem_of_mem_take h)
      unfold bigZ
      rw [ht]
      generalize hx : l.take i = x at *
      have hbx : blen (dOf 65536 x) ≤ 68719476736 := Nat.le_trans (blen_dOf hdi) (by omega)
      simp (maxSteps := 1000000) only [go_sem, h]
      refine trX_loop HE hP.mix [q + 2, 1, 0] (fun k : Nat => ⟨upd (upd (upd (fun _ => .junk) 1 (.ref 0 0)) 2 (.ref 1 0)) 3 (.sl (q + 2) 0 k 1), upd (upd (upd (fun _ => .unused) 0 (.live [.bool m, .imm l.length (List.map (fun d : Nat => AV.int .u16 (d : Int)) (l))])) 1 (.live [.opq (.rint 0), .pad])) (q + 2) (.live (List.map (fun d : Nat => AV.int .u32 (d : Int)) (x))), 46⟩)
        (fun k => k ≤ i ∧ dOf 65536 (x.take k) = dOf 65536 x) (fun k => k) i 0 (Has.upd (by simp) (Has.upd (by simp) (Has.upd (by simp) Has.nil))) ?_ ⟨Nat.le_refl _, by rw [List.take_of_length_le (by omega)]⟩ 46 (by kernel_rfl) ?_
      · exact Kept.of rfl (by repeat (first | exact KT.nil | refine KT.upd rfl (by first | rfl | (simp only [AV.only, List.contains_cons, beq_self_eq_true, Bool.true_or]; done)) ?_)) (KM.p (.upd (upd_eq _ _ _) (by simp only [objOnly, only_U]) (.upd rfl rfl (.upd rfl (hoL _) .nil))))
      · intro k ⟨k1, k2⟩
        cases k with
        | zero =>
          rw [List.take_zero] at k2
          simp (maxSteps := 1000000) only [go_sem, k2]
          exact ⟨hbx, .refl _⟩
        | succ k =>
          have w2 := wi_nat k (by omega)
          have hk : k < x.length := by omega
          have hks : k < k + 1 := Nat.lt_succ_self k
          have hks' : k ≤ k + 1 := Nat.le_succ k
          have htk := take_snoc hk
          simp (maxSteps := 1000000) only [go_sem, w2, gU hk, hk, hks]
          refine if_split (fun hz => ?_) (fun hz => ?_)
          · have hk3 : k ≤ x.length := by omega
            simp (maxSteps := 1000000) only [go_sem, w2, hks', hk3]
            have hz := eq_of_beq hz
            refine ⟨k, Kept.of rfl (by repeat (first | exact KT.nil | refine KT.upd rfl (by first | rfl | (simp only [AV.only, List.contains_cons, beq_self_eq_true, Bool.true_or]; done)) ?_)) (KM.p (.upd (upd_eq _ _ _) (by simp only [objOnly, only_U]) (.upd rfl rfl (.upd rfl (hoL _) .nil)))), ⟨by omega, ?_⟩, by omega⟩
            rw [← k2, htk, hz, dOf_append]; simp [dOf]
          · have hz : x.getD k 0 ≠ 0 := by simpa using hz
            have hR : isR (k + 1) (List.map (fun d : Nat => AV.int .u32 (d : Int)) (x.take (k + 1))) = True := by
              unfold isR
              rw [map_ud32]
              exact eq_true ⟨rfl, by rw [List.length_map, List.length_take]; omega, fun d h => hdi d (List.mem_of_mem_take h), canon_take hk hz⟩
            have hk1 : k + 1 ≤ x.length := hk
            simp (maxSteps := 1000000) only [go_sem, hk, hk1, k2, hR, hks, hks', hbx]
            exact .refl _

/-- Less than 2^800. -/
theorem bigZ_wl (m : Bool) {l : List Nat} (hd : ∀ d ∈ l, d < 65536) : wl (bigZ m l) ≤ 800 := by
  unfold bigZ wl
  rw [sg_abs]
  exact Nat.le_trans (blen_dOf fun d h => hd d (List.mem_of_mem_take h)) (by rw [List.length_take]; omega)
/-- The digits in a slice that was handed in. -/
def rawB : AV → Option (Prop × Bool × List Nat)
  | .agg [.bool m, .imm n cs] => some (cs = (List.map (fun d : Nat => AV.int .u16 (d : Int)) (cs.map ud)) ∧ n = cs.length ∧ (∀ d ∈ cs.map ud, d < 65536) ∧ n ≤ maxLen, m, cs.map ud)
  | _ => none
theorem rawB_imm (m n cs) : rawB (.agg [.bool m, .imm n cs]) = some (cs = (List.map (fun d : Nat => AV.int .u16 (d : Int)) (cs.map ud)) ∧ n = cs.length ∧ (∀ d ∈ cs.map ud, d < 65536) ∧ n ≤ maxLen, m, cs.map ud) := rfl
theorem map_ud16 (l : List Nat) : (List.map (fun d : Nat => AV.int .u16 (d : Int)) (l)).map ud = l := by
  rw [List.map_map]
  have : (ud ∘ fun d : Nat => AV.int .u16 (d : Int)) = id := by funext d; rfl
  rw [this, List.map_id]
def lOfS : List AV → Option (Prop × AV)
  | [x] => (rawB x).map fun a => (a.1, (.agg [.opq (.rint (bigZ a.2.1 a.2.2)), .pad]))
  | _ => none
theorem lOfS_eq (x) : lOfS [x] = (rawB x).map fun a => (a.1, (.agg [.opq (.rint (bigZ a.2.1 a.2.2)), .pad])) := rfl
theorem lOfS_ok (hP : PrgOk P) (args p r) (he : lOfS args = some (p, r)) (hp : p) : CSpec P 17 args r := by
  unfold lOfS at he
  split at he
  · simp only [Option.map_eq_some_iff, Prod.exists, Prod.mk.injEq] at he
    obtain ⟨q, m, l, h1, rfl, rfl⟩ := he
    unfold rawB at h1
    split at h1
    · simp only [Option.some.injEq, Prod.mk.injEq] at h1
      obtain ⟨rfl, rfl, rfl⟩ := h1
      rename_i m n cs
      obtain ⟨h1, h2, h3, h4⟩ := hp
      have := lOf_spec hP m (cs.map ud) h3 (by rw [List.length_map]; omega)
      rw [← h1, List.length_map, ← h2] at this
      exact this
    · simp at h1
  · simp at he
attribute [go_sem] rawB_imm map_ud16 lOfS_eq
end Go.Proofs.Ytokoagkbfdkacaa.AM
/- The statements of layer 2: what they share. -/
namespace Go.Proofs.Ytokoagkbfdkacaa.AM
set_option linter.all false
set_option autoImplicit true
set_option relaxedAutoImplicit true
open Go Go.Proofs
set_option maxRecDepth 100000
set_option maxHeartbeats 8000000
set_option linter.unusedSimpArgs false
variable {P : Program}

/-! Texts and numbers. -/
theorem decS_inj2 {a b : Nat} (h : decS a = decS b) : a = b := by
  rw [← valL_decL a, ← valL_decL b, ← bl_decS, ← bl_decS, h]
theorem bl_app (s t : ByteArray) : bl (s ++ t) = bl s ++ bl t := by
  simp [bl, ByteArray.data_append]
theorem bl_itS (z : Int) : bl (itS z) = if z < 0 then 45 :: decL z.natAbs else decL z.natAbs := by
  unfold itS; split
  · rw [bl_app, bl_decS]; rfl
  · exact bl_decS _
theorem decL_head (a : Nat) : (decL a).getD 0 0 ≠ 45 := by
  have h := okD_decL a
  intro e
  have h1 := h.1
  cases hd : decL a with
  | nil => exact h1 hd
  | cons c t =>
    rw [hd] at e
    have := (h.2.2 c (by rw [hd]; simp)).1
    simp at e; omega
theorem itS_inj {a b : Int} (h : itS a = itS b) : a = b := by
  have e : bl (itS a) = bl (itS b) := by rw [h]
  rw [bl_itS, bl_itS] at e
  have hab := sg_of a
  have hbb := sg_of b
  by_cases h1 : a < 0 <;> by_cases h2 : b < 0
  · rw [if_pos h1, if_pos h2] at e
    have := congrArg valL (List.cons.inj e).2
    rw [valL_decL, valL_decL] at this; omega
  · rw [if_pos h1, if_neg h2] at e
    exact absurd (by rw [← e]; rfl) (decL_head b.natAbs)
  · rw [if_neg h1, if_pos h2] at e
    exact absurd (by rw [e]; rfl) (decL_head a.natAbs)
  · rw [if_neg h1, if_neg h2] at e
    have := congrArg valL e
    rw [valL_decL, valL_decL] at this; omega
theorem itS_eq (a b : Int) : ((itS a).toList == (itS b).toList) = decide (a = b) := by
  rw [str_same]
  exact decide_eq_decide.2 ⟨itS_inj, fun h => h ▸ rfl⟩
/-- A text that is read az a number is that number's. -/
theorem itS_val {s : ByteArray} (h : (parW (bl s)).2 = 0) : itS (parW (bl s)).1 = s := by
  unfold parW at *
  by_cases h0 : bl s = [45, 48]
  · rw [if_pos h0] at h; simp at h
  rw [if_neg h0] at h ⊢
  simp only [] at h ⊢
  have hprd : ∀ l, (prD l).2 = 0 → okD l ∧ (prD l).1 = valL l := fun l hl => by
    unfold prD at *
    by_cases h1 : okD l
    · by_cases h2 : l.length ≤ 256
      · simp [h1, h2]
      · simp [h1, h2] at hl
    · simp [h1] at hl
  apply bl_inj
  rw [bl_itS]
  by_cases hm : (bl s).getD 0 0 = 45
  · rw [if_pos hm] at h ⊢
    obtain ⟨h1, h2⟩ := hprd _ h
    rw [h2, decide_eq_true hm, sg_abs, decL_val h1]
    obtain ⟨c, t, hct⟩ : ∃ c t, bl s = c :: t := by
      cases hb : bl s with
      | nil => rw [hb] at hm; simp at hm
      | cons c t => exact ⟨c, t, rfl⟩
    have hc : c = 45 := by rw [hct] at hm; simpa using hm
    have hv : 0 < valL ((bl s).drop 1) := by
      rcases Nat.eq_zero_or_pos (valL ((bl s).drop 1)) with hz | hz
      · exfalso
        have h3 := decL_val h1
        rw [hz] at h3
        have h4 : decL 0 = [48] := rfl
        rw [h4, hct] at h3
        simp at h3
        exact h0 (by rw [hct, hc, ← h3])
      · exact hz
    have hneg : sg true (valL ((bl s).drop 1)) < 0 := by rw [sg_t]; omega
    rw [if_pos hneg, hct, hc]; rfl
  · rw [if_neg hm] at h ⊢
    obtain ⟨h1, h2⟩ := hprd _ h
    rw [h2, decide_eq_false hm, sg_abs, decL_val h1]
    have hneg : ¬ sg false (valL (bl s)) < 0 := by rw [sg_f]; omega
    rw [if_neg hneg]
/-- .. and a number's text is read az it. -/
theorem parW_itS {z : Int} (h : wl z ≤ 255) : parW (bl (itS z)) = (z, 0) := by
  rw [bl_itS]
  have hl := decL_len z.natAbs
  have hp : prD (decL z.natAbs) = (z.natAbs, 0) := by
    unfold prD
    rw [if_pos (okD_decL _), if_pos (by unfold wl at h; omega), valL_decL]
  have hz := sg_of z
  unfold parW
  by_cases h1 : z < 0
  · rw [if_pos h1]
    have hne : ¬ (45 :: decL z.natAbs) = [45, 48] := fun e => by
      have := congrArg valL (List.cons.inj e).2
      rw [valL_decL] at this
      have h2 : valL [48] = 0 := rfl
      omega
    have hh : (45 :: decL z.natAbs).getD 0 0 = 45 := rfl
    rw [if_neg hne, if_pos hh, List.drop_succ_cons, List.drop_zero, hp, decide_eq_true hh]
    rw [decide_eq_true h1] at hz; rw [hz]
  · rw [if_neg h1]
    have hh := decL_head z.natAbs
    have hne : ¬ decL z.natAbs = [45, 48] := fun e => hh (by rw [e]; rfl)
    rw [if_neg hne, if_neg hh, hp, decide_eq_false hh]
    rw [decide_eq_false h1] at hz; rw [hz]
theorem decL_bnd {a : Nat} {k : Nat} (h : a < 10 ^ k) (hk : 0 < k) : (decL a).length ≤ k := by
  unfold decL; split
  · exact hk
  · rw [List.length_reverse]; unfold dec10; rw [List.length_map]
    exact digs_length_le 10 a k (by decide) h
/-- 800 bits are at most 256 digits. -/
theorem parW_big {z : Int} (h : wl z ≤ 800) : parW (bl (itS z)) = (z, 0) := by
  rw [bl_itS]
  have hl : (decL z.natAbs).length ≤ 256 := decL_bnd (Nat.lt_of_lt_of_le ((blen_le_iff _ _).1 h) (by decide +kernel)) (by decide)
  have hp : prD (decL z.natAbs) = (z.natAbs, 0) := by
    unfold prD
    rw [if_pos (okD_decL _), if_pos hl, valL_decL]
  have hz := sg_of z
  unfold parW
  by_cases h1 : z < 0
  · rw [if_pos h1]
    have hne : ¬ (45 :: decL z.natAbs) = [45, 48] := fun e => by
      have := congrArg valL (List.cons.inj e).2
      rw [valL_decL] at this
      have h2 : valL [48] = 0 := rfl
      omega
    have hh : (45 :: decL z.natAbs).getD 0 0 = 45 := rfl
    rw [if_neg hne, if_pos hh, List.drop_succ_cons, List.drop_zero, hp, decide_eq_true hh]
    rw [decide_eq_true h1] at hz; rw [hz]
  · rw [if_neg h1]
    have hh := decL_head z.natAbs
    have hne : ¬ decL z.natAbs = [45, 48] := fun e => hh (by rw [e]; rfl)
    rw [if_neg hne, if_neg hh, hp, decide_eq_false hh]
    rw [decide_eq_false h1] at hz; rw [hz]
end Go.Proofs.Ytokoagkbfdkacaa.AM
/- The statements of layer 2: their helpers. -/
namespace Go.Proofs.Ytokoagkbfdkacaa.AM
set_option linter.all false
set_option autoImplicit true
set_option relaxedAutoImplicit true
open Go Go.Proofs
set_option maxRecDepth 100000
set_option maxHeartbeats 8000000
set_option linter.unusedSimpArgs false
variable {P : Program}

theorem parW_neg {d : List Nat} {n : Nat} (h : okD d) (hl : d.length ≤ 256) (hv : valL d = n) (hn : d ≠ [48]) : parW (45 :: d) = (-(n : Int), 0) := by
  unfold parW prD
  have hh : (45 :: d).getD 0 0 = 45 := rfl
  rw [if_neg (fun e => hn (List.cons.inj e).2), if_pos hh, decide_eq_true hh, List.drop_succ_cons, List.drop_zero, if_pos h, if_pos hl, hv]; rfl
theorem parW_pos {d : List Nat} {n : Nat} (h : okD d) (hl : d.length ≤ 256) (hv : valL d = n) : parW d = ((n : Int), 0) := by
  have hh : ¬ d.getD 0 0 = 45 := fun e => by
    cases d with
    | nil => exact h.1 rfl
    | cons c t => have := (h.2.2 c (by simp)).1; simp at e; omega
  unfold parW prD
  rw [if_neg (fun e => hh (by rw [e]; rfl)), if_neg hh, decide_eq_false hh, if_pos h, if_pos hl, hv]; rfl
theorem itS_of {s : ByteArray} {z : Int} (h : parW (bl s) = (z, 0)) : itS z = s := by
  have := itS_val (s := s) (by rw [h])
  rw [h] at this; exact this
theorem itS_lit {s : ByteArray} {z : Int} (h : parW (bl s) = (z, 0)) : ((itS z).toList == s.toList) = true := by rw [itS_of h]; exact beq_self_eq_true _
/-! Bounds. -/
theorem wl_add {a b : Int} {n m : Nat} (h : wl a ≤ n) (h' : wl b ≤ m) : wl (a + b) ≤ n + m + 1 := by
  unfold wl at *
  rw [blen_le_iff] at *
  have h1 : (a + b).natAbs ≤ a.natAbs + b.natAbs := Int.natAbs_add_le a b
  have e1 : 2 ^ n ≤ 2 ^ (n + m) := Nat.pow_le_pow_right (by decide) (by omega)
  have e2 : 2 ^ m ≤ 2 ^ (n + m) := Nat.pow_le_pow_right (by decide) (by omega)
  rw [Nat.pow_succ]; omega
theorem wl_sub {a b : Int} {n m : Nat} (h : wl a ≤ n) (h' : wl b ≤ m) : wl (a - b) ≤ n + m + 1 := by
  have := wl_add h (show wl (-b) ≤ m by rw [wl_neg]; exact h')
  exact this
theorem wl_mul {a b : Int} {n m : Nat} (h : wl a ≤ n) (h' : wl b ≤ m) : wl (a * b) ≤ n + m := by
  unfold wl at *
  rw [Int.natAbs_mul]; exact blen_mul_le h h'
theorem wl_neg' {a : Int} {n : Nat} (h : wl a ≤ n) : wl (-a) ≤ n := by rw [wl_neg]; exact h
theorem wl_qZ {a b : Int} {n : Nat} (h : wl a ≤ n) : wl (qZ a b) ≤ n + 1 := by
  unfold qZ wl at *
  rw [sg_abs]
  have hq := blen_le_of (Nat.div_le_self a.natAbs b.natAbs) h
  split
  · rw [blen_le_iff] at *
    have : 2 ^ n * 2 = 2 ^ (n + 1) := (Nat.pow_succ 2 n).symm
    have := Nat.one_le_two_pow (n := n)
    omega
  · omega
theorem wl_rZ {a b : Int} {n : Nat} (h : wl b ≤ n) (h0 : b ≠ 0) : wl ((rZ a b : Nat) : Int) ≤ n := by
  unfold rZ wl at *
  rw [Int.natAbs_natCast]
  have := Nat.mod_lt a.natAbs (show 0 < b.natAbs by omega)
  split
  · exact blen_le_of (Nat.sub_le _ _) h
  · exact blen_le_of (Nat.le_of_lt this) h
theorem itS_len {z : Int} {n : Nat} (h : wl z ≤ n) : (bl (itS z)).length ≤ n + 2 := by
  rw [bl_itS]
  have := decL_len z.natAbs
  unfold wl at h
  split <;> simp <;> omega

noncomputable def Wt6 : Nat → List AV → Option (Prop × AV) := addS Wt5 17 lOfS
theorem Wt6_all (hP : PrgOk P) (T) (hT : TyOk P T) : EnvOk P ⟨T, Wt6⟩ := (Wt5_all hP T hT).add (lOfS_ok hP)
attribute [go_sem] Wt6
theorem made_spec (hP : PrgOk P) (z : Int) (h : wl z ≤ 800) : CSpec P 18 [(.agg [.opq (.rint (z)), .pad])] (.tup [(.agg [.opq (.whole (z)), .pad, .pad]), .bool true]) := by
  have HE := Wt6_all hP T2 hP.t2
  have h1 := Nat.le_trans h (show _ ≤ 68719476736 by decide)
  have h2 := Nat.le_trans (itS_len h) (show _ ≤ 1099511627776 by decide)
  have h3 := parW_big h
  refine CSpec_vc (E := ⟨T2, Wt6⟩) (fn18 hP) HE hP.mix rfl (by first | rfl | (simp only [go_sem]; done)) (by first | rfl | (simp only [go_sem]; done)) (Nat.le_of_ble_eq_true rfl) ?_
  simp (maxSteps := 1000000) only [go_sem, h1, h2, h3, itS_eq]
  exact .refl _
def madeS : List AV → Option (Prop × AV) := onI1 fun z => (wl z ≤ 800, .tup [(.agg [.opq (.whole (z)), .pad, .pad]), .bool true])
theorem madeS_ok (hP : PrgOk P) (args p r) : madeS args = some (p, r) → p → CSpec P 18 args r := onI1_ok (fun a h => by exact made_spec hP a h) args p r
attribute [go_sem] madeS
theorem is_spec (hP : PrgOk P) (a b : Int) (ha : wl a ≤ 68719476736) (hb : wl b ≤ 68719476736) : CSpec P 23 [(.agg [.opq (.whole (a)), .pad, .pad]), (.agg [.opq (.rint (b)), .pad])] (.bool (decide (a = b))) := by
  have HE := Wt6_all hP T2 hP.t2
  refine CSpec_vc (E := ⟨T2, Wt6⟩) (fn23 hP) HE hP.mix rfl (by first | rfl | (simp only [go_sem]; done)) (by first | rfl | (simp only [go_sem]; done)) (Nat.le_of_ble_eq_true rfl) ?_
  by_cases h : a = b
  · subst h
    simp (maxSteps := 1000000) only [go_sem, ha, hb, itS_eq]
    exact .refl _
  · simp (maxSteps := 1000000) only [go_sem, ha, hb, itS_eq, h]
    exact .refl _
def isS : List AV → Option (Prop × AV)
  | [x, y] => (rawW x).bind fun a => (rawI y).map fun b => (a.1 ∧ b.1 ∧ wl a.2 ≤ 68719476736 ∧ wl b.2 ≤ 68719476736, .bool (decide (a.2 = b.2)))
  | _ => none
theorem isS_eq (x y) : isS [x, y] = (rawW x).bind fun a => (rawI y).map fun b => (a.1 ∧ b.1 ∧ wl a.2 ≤ 68719476736 ∧ wl b.2 ≤ 68719476736, .bool (decide (a.2 = b.2))) := rfl
theorem isS_ok (hP : PrgOk P) (args p r) (he : isS args = some (p, r)) (hp : p) : CSpec P 23 args r := by
  unfold isS at he
  split at he
  · simp only [Option.bind_eq_some_iff, Option.map_eq_some_iff, Prod.exists, Prod.mk.injEq] at he
    obtain ⟨q, a, h1, q', b, h2, rfl, rfl⟩ := he
    exact (is_spec hP a b hp.2.2.1 hp.2.2.2).cv (rawW_cv h1 hp.1 (rawI_cv h2 hp.2.1 .nil))
  · simp at he
attribute [go_sem] isS_eq
theorem wakes_spec (hP : PrgOk P) : CSpec P 12 [] (.bool true) := by
  have HE := Wt6_all hP T2 hP.t2
  have w1 : bl ⟨#[45, 55]⟩ = [45, 55] := rfl
  have w2 : parW [45, 55] = (-7, 0) := parW_neg (d := [55]) ⟨by decide, by decide, by decide⟩ (by decide) rfl (by decide)
  have t1 : ((itS (-4)).toList == (ByteArray.mk #[45, 52]).toList) = true := itS_lit (parW_neg (d := [52]) ⟨by decide, by decide, by decide⟩ (by decide) rfl (by decide))
  have t2 : ((itS 1).toList == (ByteArray.mk #[49]).toList) = true := itS_lit (parW_pos (d := [49]) ⟨by decide, by decide, by decide⟩ (by decide) rfl)
  have t3 : ((itS 5).toList == (ByteArray.mk #[53]).toList) = true := itS_lit (parW_pos (d := [53]) ⟨by decide, by decide, by decide⟩ (by decide) rfl)
  have q1 : qZ (-7) 2 = -4 := by decide
  have q2 : ((rZ (-7) 2 : Nat) : Int) = 1 := by decide
  have s1 : sgnZ (-7) = -1 := by decide
  have b0 : ((2 : Int) = 0) = False := by decide
  have a1 : (-7 : Int) + 12 = 5 := rfl
  refine CSpec_vc (E := ⟨T2, Wt6⟩) (fn12 hP) HE hP.mix rfl (by first | rfl | (simp only [go_sem]; done)) (by first | rfl | (simp only [go_sem]; done)) (Nat.le_of_ble_eq_true rfl) ?_
  simp (maxSteps := 1000000) only [go_sem, w1, w2, t1, t2, t3, q1, q2, s1, b0, a1]
  (repeat' (first | exact Conv.refl _ | refine And.intro ?_ ?_)) <;> first | omega | decide
def wakesS : List AV → Option (Prop × AV)
  | [] => some (True, .bool true)
  | _ => none
theorem wakesS_ok (hP : PrgOk P) (args p r) (h : wakesS args = some (p, r)) (hp : p) : CSpec P 12 args r := by
  unfold wakesS at h
  split at h
  · simp only [Option.some.injEq, Prod.mk.injEq] at h
    obtain ⟨rfl, rfl⟩ := h
    exact wakes_spec hP
  · simp at h
attribute [go_sem] wakesS
noncomputable def Wt7 : Nat → List AV → Option (Prop × AV) := addS (addS (addS Wt6 18 madeS) 23 isS) 12 wakesS
theorem Wt7_all (hP : PrgOk P) (T) (hT : TyOk P T) : EnvOk P ⟨T, Wt7⟩ := (((Wt6_all hP T hT).add (madeS_ok hP)).add (isS_ok hP)).add (wakesS_ok hP)
attribute [go_sem] Wt7
end Go.Proofs.Ytokoagkbfdkacaa.AM
/- The library's functions that the program calls; the program has all that was asked of it. -/
namespace Go.Proofs.Ytokoagkbfdkacaa.AM
set_option linter.all false
set_option autoImplicit true
set_option relaxedAutoImplicit true
open Go Go.Proofs Go.Shelf
def shl134_ren : Go.Shelf.Ren := ⟨fun | 134 => 79 | 129 => 75 | n => n, fun | 53 => 23 | 3 => 3 | 4 => 4 | 46 => 113 | 5 => 5 | 9 => 9 | n => n, fun | n => n⟩
theorem shl134 : Go.Proofs.Lays.n134 Try.prog shl134_ren := {
  mixed := by kernel_rfl
  f129 := Try.func75.trans (congrArg some (by kernel_rfl))
  f134 := Try.func79.trans (congrArg some (by kernel_rfl))
  t3 := Try.underlying3
  a3 := Try.isAgg3
  z3 := Try.sizeOf3
  v3 := Try.zeroValue3
  t4 := Try.underlying4
  a4 := Try.isAgg4
  z4 := Try.sizeOf4
  v4 := Try.zeroValue4
  t5 := Try.underlying5
  a5 := Try.isAgg5
  z5 := Try.sizeOf5
  v5 := Try.zeroValue5
  t9 := Try.underlying9
  a9 := Try.isAgg9
  z9 := Try.sizeOf9
  v9 := Try.zeroValue9
  t46 := Try.underlying113
  a46 := Try.isAgg113
  z46 := Try.sizeOf113
  v46 := Try.zeroValue113
  t53 := Try.underlying23
  a53 := Try.isAgg23
  z53 := Try.sizeOf23
  v53 := Try.zeroValue23 }
theorem sh_LeadingZeros64 (x : Int) (w : World) (h0 : 0 ≤ x) (h1 : x ≤ 18446744073709551615) :
    Calls Try.prog 79 #[.int .u64 x] w fun e w' => e = .returned (.int .i64 (64 - (Lib.bitLen x.toNat : Int))) ∧ w' = w := Any.bits_LeadingZeros64 shl134 x w h0 h1
def shl129_ren : Go.Shelf.Ren := ⟨fun | 129 => 75 | n => n, fun | 53 => 23 | 3 => 3 | 4 => 4 | 46 => 113 | 5 => 5 | 9 => 9 | n => n, fun | n => n⟩
theorem shl129 : Go.Proofs.Lays.n129 Try.prog shl129_ren := {
  mixed := by kernel_rfl
  f129 := Try.func75.trans (congrArg some (by kernel_rfl))
  t3 := Try.underlying3
  a3 := Try.isAgg3
  z3 := Try.sizeOf3
  v3 := Try.zeroValue3
  t4 := Try.underlying4
  a4 := Try.isAgg4
  z4 := Try.sizeOf4
  v4 := Try.zeroValue4
  t5 := Try.underlying5
  a5 := Try.isAgg5
  z5 := Try.sizeOf5
  v5 := Try.zeroValue5
  t9 := Try.underlying9
  a9 := Try.isAgg9
  z9 := Try.sizeOf9
  v9 := Try.zeroValue9
  t46 := Try.underlying113
  a46 := Try.isAgg113
  z46 := Try.sizeOf113
  v46 := Try.zeroValue113
  t53 := Try.underlying23
  a53 := Try.isAgg23
  z53 := Try.sizeOf23
  v53 := Try.zeroValue23 }
theorem sh_Len64 (x : Int) (w : World) (h0 : 0 ≤ x) (h1 : x ≤ 18446744073709551615) :
    Calls Try.prog 75 #[.int .u64 x] w fun e w' => e = .returned (.int .i64 (Lib.bitLen x.toNat)) ∧ w' = w := Any.bits_Len64 shl129 x w h0 h1
def shl264_ren : Go.Shelf.Ren := ⟨fun | 264 => 71 | n => n, fun | 53 => 23 | 46 => 113 | n => n, fun | n => n⟩
theorem shl264 : Go.Proofs.Lays.n264 Try.prog shl264_ren := {
  mixed := by kernel_rfl
  f264 := Try.func71.trans (congrArg some (by kernel_rfl))
  t46 := Try.underlying113
  a46 := Try.isAgg113
  z46 := Try.sizeOf113
  v46 := Try.zeroValue113
  t53 := Try.underlying23
  a53 := Try.isAgg23
  z53 := Try.sizeOf23
  v53 := Try.zeroValue23 }
open Go.RowKit Go.Lib in
theorem sh_Mul64 (x y : Nat) (hx : x < 18446744073709551616) (hy : y < 18446744073709551616) (w : World) :
    Calls Try.prog 71 #[.int .u64 x, .int .u64 y] w fun e w' => e = .returned (.tuple #[.int .u64 ((x * y / 18446744073709551616 : Nat) : Int), .int .u64 ((x * y % 18446744073709551616 : Nat) : Int)]) ∧ w' = w := Any.bits_Mul64 shl264 x y hx hy w
theorem enter_of {P : Program} {f fn c} (hf : P.funcs[f]? = some fn) (hb : fn.body = some c) (hn : (fn.name == "runtime.NumGoroutine") = false) {vs w R} (h : Calls P f vs w fun e w' => ∃ v, e = .returned v ∧ R v w') : Invk P f vs w R := by
  unfold Invk; rw [callFunc_enter hf hb hn]; exact h
theorem blen_eq (x : Nat) (h : x < 18446744073709551616) : Lib.bitLen x = blen x := by
  unfold blen
  split
  · rename_i e; subst e; exact Lib.bitLenAux_zero _
  · rename_i e
    obtain ⟨h1, h2, h3⟩ := Lib.bitLenAux_bounds 64 x (by simpa using h) e
    have k1 := Nat.log2_self_le e
    have k2 : x < 2 ^ (x.log2 + 1) := Nat.lt_log2_self
    have a1 : Lib.bitLen x - 1 < x.log2 + 1 := (Nat.pow_lt_pow_iff_right (by decide : 1 < 2)).1 (Nat.lt_of_le_of_lt h2 k2)
    have a2 : x.log2 < Lib.bitLen x := (Nat.pow_lt_pow_iff_right (by decide : 1 < 2)).1 (Nat.lt_of_le_of_lt k1 h3)
    unfold Lib.bitLen at *
    omega
theorem blen_le (x : Nat) (h : x < 18446744073709551616) : blen x ≤ 64 := by
  unfold blen; split
  · omega
  · rename_i e
    have : x.log2 < 64 := (Nat.log2_lt e).2 (by simpa using h)
    omega
theorem Below.rfl' {w : World} : RowKit.Below w.heap.size w w := RowKit.Below.refl _ _
theorem sh_len64 (x : Nat) (h : x < 18446744073709551616) : CSpec Try.prog 75 [.int .u64 (x : Int)] (.int .i64 (blen x : Nat)) := by
  intro X φ w vs _ hr
  obtain ⟨v, vs', rfl, h1, h2⟩ := hr.uncons rfl
  obtain rfl := h1.int_inv
  obtain rfl := h2.nil_of
  refine enter_of Try.func75 rfl rfl ((sh_Len64 x w (by omega) (by omega)).mono fun e w' he => ⟨_, he.1, ?_⟩)
  obtain ⟨_, rfl⟩ := he
  rw [Int.toNat_natCast, blen_eq x h]
  exact ⟨.int _ _ .nil, Below.rfl'⟩
theorem sh_lz64 (x : Nat) (h : x < 18446744073709551616) : CSpec Try.prog 79 [.int .u64 (x : Int)] (.int .i64 ((64 - blen x : Nat) : Int)) := by
  intro X φ w vs _ hr
  obtain ⟨v, vs', rfl, h1, h2⟩ := hr.uncons rfl
  obtain rfl := h1.int_inv
  obtain rfl := h2.nil_of
  refine enter_of Try.func79 rfl rfl ((sh_LeadingZeros64 x w (by omega) (by omega)).mono fun e w' he => ⟨_, he.1, ?_⟩)
  obtain ⟨_, rfl⟩ := he
  have := blen_le x h
  rw [Int.toNat_natCast, blen_eq x h, show (64 : Int) - (blen x : Int) = ((64 - blen x : Nat) : Int) by omega]
  exact ⟨.int _ _ .nil, Below.rfl'⟩
theorem sh_mul64 (x y : Nat) (hx : x < 18446744073709551616) (hy : y < 18446744073709551616) : CSpec Try.prog 71 [.int .u64 (x : Int), .int .u64 (y : Int)] (.tup [.int .u64 ((mulh x y : Nat) : Int), .int .u64 ((mull x y : Nat) : Int)]) := by
  rw [mulh_eq, mull_eq]
  intro X φ w vs _ hr
  obtain ⟨v, vs', rfl, h1, h2⟩ := hr.uncons rfl
  obtain rfl := h1.int_inv
  obtain ⟨v, vs', rfl, h1, h3⟩ := h2.uncons rfl
  obtain rfl := h1.int_inv
  obtain rfl := h3.nil_of
  refine enter_of Try.func71 rfl rfl ((sh_Mul64 x y hx hy w).mono fun e w' he => ⟨_, he.1, ?_⟩)
  obtain ⟨_, rfl⟩ := he
  exact ⟨.tup (.int _ _ (.int _ _ .nil)) .nil, Below.rfl'⟩
theorem sh_add64 (x y c : Nat) (_ : x < 18446744073709551616) (hc : c ≤ 1) : CSpec Try.prog 72 [.int .u64 (x : Int), .int .u64 (y : Int), .int .u64 (c : Int)] (.tup [.int .u64 ((addl x y c : Nat) : Int), .int .u64 ((addh x y c : Nat) : Int)]) := by
  rw [addl_eq, addh_eq]
  intro X φ w vs _ hr
  obtain ⟨v, vs', rfl, h1, h2⟩ := hr.uncons rfl
  obtain rfl := h1.int_inv
  obtain ⟨v, vs', rfl, h1, h3⟩ := h2.uncons rfl
  obtain rfl := h1.int_inv
  obtain ⟨v, vs', rfl, h1, h4⟩ := h3.uncons rfl
  obtain rfl := h1.int_inv
  obtain rfl := h4.nil_of
  unfold Invk
  rw [run_callFunc_extern Try.func72 (by kernel_rfl) (by kernel_rfl) (by kernel_rfl) (e := add64Entry) (by kernel_rfl), run_add64 x y c (by omega) (by omega) (by omega) (by omega)]
  simp only [Result.andThen]
  rw [show ((x : Int) + y + c) % 18446744073709551616 = (((x + y + c) % 18446744073709551616 : Nat) : Int) by omega, show ((x : Int) + y + c) / 18446744073709551616 = (((x + y + c) / 18446744073709551616 : Nat) : Int) by omega]
  exact ⟨.tup (.int _ _ (.int _ _ .nil)) .nil, Below.rfl'⟩
theorem sh_sub64 (x y c : Nat) (_ : x < 18446744073709551616) (hc : c ≤ 1) : CSpec Try.prog 76 [.int .u64 (x : Int), .int .u64 (y : Int), .int .u64 (c : Int)] (.tup [.int .u64 ((subd x y c : Nat) : Int), .int .u64 ((bor x y c : Nat) : Int)]) := by
  intro X φ w vs _ hr
  obtain ⟨v, vs', rfl, h1, h2⟩ := hr.uncons rfl
  obtain rfl := h1.int_inv
  obtain ⟨v, vs', rfl, h1, h3⟩ := h2.uncons rfl
  obtain rfl := h1.int_inv
  obtain ⟨v, vs', rfl, h1, h4⟩ := h3.uncons rfl
  obtain rfl := h1.int_inv
  obtain rfl := h4.nil_of
  unfold Invk
  rw [run_callFunc_extern Try.func76 (by kernel_rfl) (by kernel_rfl) (by kernel_rfl) (e := (Extern.find Try.f76).getD fun _ => pure (.bool true)) (by kernel_rfl)]
  have key : (((Extern.find Try.f76).getD fun _ => pure (.bool true)) #[.int .u64 x, .int .u64 y, .int .u64 c]).run Try.prog w =
      .ok (.tuple #[.int .u64 (((x + 18446744073709551616 - y - c) % 18446744073709551616 : Nat) : Int), .int .u64 ((if x < y + c then 1 else 0 : Nat) : Int)]) w := by
    have : c = 0 ∨ c = 1 := by omega
    rcases this with rfl | rfl
    · refine of_eq_true (eq_true ?_); rfl
    · rfl
  rw [show ([Value.int .u64 (x : Int), Value.int .u64 (y : Int), Value.int .u64 (c : Int)].toArray) = #[.int .u64 (x : Int), .int .u64 (y : Int), .int .u64 (c : Int)] from rfl, key]
  rw [subd_eq, bor_eq]
  exact ⟨.tup (.int _ _ (.int _ _ .nil)) .nil, Below.rfl'⟩
theorem prg_ok : PrgOk Try.prog := { mix := by kernel_rfl, t0 := T0_ok, t1 := T1_ok, t2 := T2_ok, len64 := sh_len64, lz64 := sh_lz64, mul64 := sh_mul64, add64 := sh_add64, sub64 := sh_sub64, f3 := Try.func3, f4 := Try.func4, f5 := Try.func5, f6 := Try.func6, f7 := Try.func7, f8 := Try.func8, f9 := Try.func9, f10 := Try.func10, f11 := Try.func11, f12 := Try.func12, f13 := Try.func13, f14 := Try.func14, f15 := Try.func15, f16 := Try.func16, f17 := Try.func17, f18 := Try.func18, f19 := Try.func19, f20 := Try.func20, f21 := Try.func21, f22 := Try.func22, f23 := Try.func23, f24 := Try.func24, f25 := Try.func25, f26 := Try.func26, f27 := Try.func27, f28 := Try.func28, f29 := Try.func29, f30 := Try.func30, f31 := Try.func31, f32 := Try.func32, f33 := Try.func33, f34 := Try.func34, f35 := Try.func35, f36 := Try.func36, f37 := Try.func37, f38 := Try.func38, f39 := Try.func39, f40 := Try.func40, f41 := Try.func41, f42 := Try.func42, f43 := Try.func43, f44 := Try.func44, f45 := Try.func45, f46 := Try.func46, f47 := Try.func47, f48 := Try.func48, f49 := Try.func49, f50 := Try.func50, f51 := Try.func51, f52 := Try.func52, f53 := Try.func53, f54 := Try.func54, f55 := Try.func55, f56 := Try.func56, f57 := Try.func57, f58 := Try.func58, f59 := Try.func59, f60 := Try.func60, f61 := Try.func61, f62 := Try.func62, f63 := Try.func63, f64 := Try.func64, f65 := Try.func65, f66 := Try.func66, f67 := Try.func67, f68 := Try.func68, f69 := Try.func69, f70 := Try.func70, f71 := Try.func71, f72 := Try.func72, f73 := Try.func73, f74 := Try.func74, f75 := Try.func75, f76 := Try.func76, f77 := Try.func77, f78 := Try.func78, f79 := Try.func79, f80 := Try.func80, f81 := Try.func81, f82 := Try.func82, f83 := Try.func83, f84 := Try.func84, f100 := Try.func100 }
end Go.Proofs.Ytokoagkbfdkacaa.AM
/- What all rows share: a call by its specification; arguments that are data. -/
namespace Go.Proofs.Ytokoagkbfdkacaa
set_option linter.all false
set_option autoImplicit true
set_option relaxedAutoImplicit true
open Go Go.Proofs Go.ChangeShapes Go.WideShapes Go.ChangeAt Go.RowKit
theorem CSpec.calls {P : Program} {f : Nat} {fn : Func} {c : Code} {args : List AM.AV} {b : Bool} (h : AM.CSpec P f args (.bool b)) (hf : P.funcs[f]? = some fn) (hb : fn.body = some c) (hn : (fn.name == "runtime.NumGoroutine") = false) {vs : List Value} {w : World}
    (hr : AM.RL (fun _ => False) (fun _ => none) w vs args) : Calls P f vs.toArray w fun e w' => e = .returned (.bool b) ∧ Below w.heap.size w w' := by
  have := h (fun _ => False) (fun _ => none) w vs (fun _ h => h.elim) hr
  unfold AM.Invk at this
  rw [AM.callFunc_enter hf hb hn] at this
  simp only [] at this
  refine this.mono fun e w' ⟨v, he, hv, hB⟩ => ?_
  rw [he, hv.bool_inv]; exact ⟨rfl, hB⟩
theorem Try.own : ownKnob Try.prog.godebug = none := by kernel_rfl
theorem Try.laidOut : laidOutB Try.prog = true := by kernel_rfl
/-- An argument of one cell. -/
theorem arg_slice {H : Type} {enc : TypeId × Value → H} {P : Program} {w : World} {e : AM.Sha} {t : TypeId} (hc : (AM.Sha.slice e).chk P t = true) {v : Value} {d : DataW H} {ps : List MemPlace} {b : Nat} (h : DataW.Trod enc P w 0 (fun _ => true) true t v d ps) (hv : Value.okWide P w .any b t v) : ∃ a, AM.RL (fun _ => False) (fun _ => none) w [v] [a] ∧ (AM.Sha.slice e).Ok [a] := by
  obtain ⟨cs, h1, h2⟩ := AM.Sha.arg hc h
  have hs : ∃ u, P.underlying t = some (.slice u) := by
    simp only [AM.Sha.chk] at hc
    split at hc
    · exact ⟨_, ‹_›⟩
    · simp at hc
  obtain ⟨u, hu⟩ := hs
  unfold Value.okWide at hv
  rw [hu] at hv
  unfold Cell.okWide at hv
  rw [hu] at hv
  have hv : Cell.ok P w .any b t v := by cases v <;> exact hv
  have hcl : v.cells.toList = [v] := by
    unfold Cell.ok at hv
    rw [hu] at hv
    cases v <;> first | rfl | exact hv.elim
  rw [hcl] at h1
  obtain ⟨a, rfl⟩ : ∃ a, cs = [a] := by
    rcases h2 with rfl | ⟨l, _, _, rfl⟩ <;> exact ⟨_, rfl⟩
  exact ⟨a, h1, h2⟩
end Go.Proofs.Ytokoagkbfdkacaa
