/- The document's vectors. -/
import Derived.Test.YtbfapomdnocbaaaGreatDoorB8
import Derived.Test.YtbfapomdnocbaaaGreatDoorB7
import Derived.Test.YtbfapomdnocbaaaGreatDoorB3
namespace Go.Proofs.YtbfapomdnocbaaaGreatDoor.AM
set_option linter.all false
set_option autoImplicit true
set_option relaxedAutoImplicit true
open Go Go.Proofs
set_option maxRecDepth 100000
set_option maxHeartbeats 8000000
set_option linter.unusedSimpArgs false
variable {P : Program}
def cellsW : List AV → Option V3
 | [.opq (.rfrac (x)), .pad, .pad, .opq (.rfrac (y)), .pad, .pad, .opq (.rfrac (z)), .pad, .pad] => some (x, y, z)
 | _ => none
theorem cellsW_eq (x y z) : cellsW [.opq (.rfrac (x)), .pad, .pad, .opq (.rfrac (y)), .pad, .pad, .opq (.rfrac (z)), .pad, .pad] = some (x, y, z) := rfl
theorem cellsW_inv {A : List AV} {a : V3} (h : cellsW A = some a) : A = [.opq (.rfrac (a.1)), .pad, .pad, .opq (.rfrac (a.2.1)), .pad, .pad, .opq (.rfrac (a.2.2)), .pad, .pad] := by
 unfold cellsW at h
 split at h
 · simp only [Option.some.injEq] at h; subst h; rfl
 · simp at h
def rawX : AV → Option V3
 | .agg A => cellsW A
 | _ => none
theorem rawX_eq (A) : rawX (.agg A) = cellsW A := rfl
theorem rawX_inv {v : AV} {a : V3} (h : rawX v = some a) : v = (.agg [.opq (.rfrac (a.1)), .pad, .pad, .opq (.rfrac (a.2.1)), .pad, .pad, .opq (.rfrac (a.2.2)), .pad, .pad]) := by
 unfold rawX at h
 split at h
 · rw [cellsW_inv h]
 · simp at h
noncomputable def onX1 (f : V3 → Prop × AV) : List AV → Option (Prop × AV)
 | [x] => (rawX x).map f
 | _ => none
noncomputable def onX2 (f : V3 → V3 → Prop × AV) : List AV → Option (Prop × AV)
 | [x, y] => (rawX x).bind fun a => (rawX y).map fun b => f a b
 | _ => none
theorem onX1_eq (f x) : onX1 f [x] = (rawX x).map f := rfl
theorem onX2_eq (f x y) : onX2 f [x, y] = (rawX x).bind fun a => (rawX y).map fun b => f a b := rfl
theorem onX1_ok {fi : Nat} {f : V3 → Prop × AV} (h : ∀ a, (f a).1 → CSpec P fi [(.agg [.opq (.rfrac (a.1)), .pad, .pad, .opq (.rfrac (a.2.1)), .pad, .pad, .opq (.rfrac (a.2.2)), .pad, .pad])] (f a).2) (args p r) (he : onX1 f args = some (p, r)) (hp : p) : CSpec P fi args r := by
 unfold onX1 at he
 split at he
 · simp only [Option.map_eq_some_iff] at he
   obtain ⟨a, h1, h2⟩ := he
   have := h a (by rw [h2]; exact hp)
   rw [h2] at this; rw [rawX_inv h1]; exact this
 · simp at he
theorem onX2_ok {fi : Nat} {f : V3 → V3 → Prop × AV} (h : ∀ a b, (f a b).1 → CSpec P fi [(.agg [.opq (.rfrac (a.1)), .pad, .pad, .opq (.rfrac (a.2.1)), .pad, .pad, .opq (.rfrac (a.2.2)), .pad, .pad]), (.agg [.opq (.rfrac (b.1)), .pad, .pad, .opq (.rfrac (b.2.1)), .pad, .pad, .opq (.rfrac (b.2.2)), .pad, .pad])] (f a b).2) (args p r) (he : onX2 f args = some (p, r)) (hp : p) : CSpec P fi args r := by
 unfold onX2 at he
 split at he
 · simp only [Option.bind_eq_some_iff, Option.map_eq_some_iff] at he
   obtain ⟨a, h1, b, h3, h2⟩ := he
   have := h a b (by rw [h2]; exact hp)
   rw [h2] at this; rw [rawX_inv h1, rawX_inv h3]; exact this
 · simp at he
attribute [go_sem] cellsW_eq rawX_eq onX1_eq onX2_eq
theorem qaddneg (a b : Rat) : qadd a (qneg b) = qsub a b := by rw [qsub_eq, qadd_eq, qneg_eq, Rat.sub_eq_add_neg]
theorem rvInts_spec (hP : PrgOk P) (x y z : Int) (hx : -9223372036854775808 ≤ x ∧ x ≤ 9223372036854775807) (hy : -9223372036854775808 ≤ y ∧ y ≤ 9223372036854775807) (hz : -9223372036854775808 ≤ z ∧ z ≤ 9223372036854775807) : CSpec P 14 [.int .i64 x, .int .i64 y, .int .i64 z] (.agg [.opq (.rfrac ((x : Rat))), .pad, .pad, .opq (.rfrac ((y : Rat))), .pad, .pad, .opq (.rfrac ((z : Rat))), .pad, .pad]) := by
 have HE := Vt5_all hP TF hP.tF
 obtain ⟨x1, x2⟩ := hx
 obtain ⟨y1, y2⟩ := hy
 obtain ⟨z1, z2⟩ := hz
 refine CSpec_go (E := ⟨TF, Vt5⟩) (fn14 hP) HE hP.mix ?_
 simp only [go_sem, x1, x2, y1, y2, z1, z2]
 exact fin_z
def rvIntsS : List AV → Option (Prop × AV)
 | [.int .i64 x, .int .i64 y, .int .i64 z] => some ((-9223372036854775808 ≤ x ∧ x ≤ 9223372036854775807) ∧ (-9223372036854775808 ≤ y ∧ y ≤ 9223372036854775807) ∧ (-9223372036854775808 ≤ z ∧ z ≤ 9223372036854775807), (.agg [.opq (.rfrac ((x : Rat))), .pad, .pad, .opq (.rfrac ((y : Rat))), .pad, .pad, .opq (.rfrac ((z : Rat))), .pad, .pad]))
 | _ => none
theorem rvIntsS_ok (hP : PrgOk P) (args p r) (h : rvIntsS args = some (p, r)) (hp : p) : CSpec P 14 args r := by
 unfold rvIntsS at h
 split at h
 · simp only [Option.some.injEq, Prod.mk.injEq] at h
   obtain ⟨rfl, rfl⟩ := h
   exact rvInts_spec hP _ _ _ hp.1 hp.2.1 hp.2.2
 · simp at h
theorem rvAdd_spec (hP : PrgOk P) (a b : V3) (ha : fV a FB) (hb : fV b FB) : CSpec P 42 [(.agg [.opq (.rfrac (a.1)), .pad, .pad, .opq (.rfrac (a.2.1)), .pad, .pad, .opq (.rfrac (a.2.2)), .pad, .pad]), (.agg [.opq (.rfrac (b.1)), .pad, .pad, .opq (.rfrac (b.2.1)), .pad, .pad, .opq (.rfrac (b.2.2)), .pad, .pad])] (.agg [.opq (.rfrac (qadd a.1 b.1)), .pad, .pad, .opq (.rfrac (qadd a.2.1 b.2.1)), .pad, .pad, .opq (.rfrac (qadd a.2.2 b.2.2)), .pad, .pad]) := by
 have HE := Vt5_all hP TF hP.tF
 obtain ⟨a1, a2, a3⟩ := ha
 obtain ⟨b1, b2, b3⟩ := hb
 refine CSpec_go (E := ⟨TF, Vt5⟩) (fn42 hP) HE hP.mix ?_
 simp only [go_sem, a1, a2, a3, b1, b2, b3]
 exact fin_z
noncomputable def rvAddS : List AV → Option (Prop × AV) := onX2 fun a b => (fV a FB ∧ fV b FB, (.agg [.opq (.rfrac (qadd a.1 b.1)), .pad, .pad, .opq (.rfrac (qadd a.2.1 b.2.1)), .pad, .pad, .opq (.rfrac (qadd a.2.2 b.2.2)), .pad, .pad]))
theorem rvAddS_ok (hP : PrgOk P) (args p r) : rvAddS args = some (p, r) → p → CSpec P 42 args r := onX2_ok (fun a b h => by exact rvAdd_spec hP a b h.1 h.2) args p r
theorem rvNeg_spec (hP : PrgOk P) (a : V3) : CSpec P 55 [(.agg [.opq (.rfrac (a.1)), .pad, .pad, .opq (.rfrac (a.2.1)), .pad, .pad, .opq (.rfrac (a.2.2)), .pad, .pad])] (.agg [.opq (.rfrac (qneg a.1)), .pad, .pad, .opq (.rfrac (qneg a.2.1)), .pad, .pad, .opq (.rfrac (qneg a.2.2)), .pad, .pad]) := by
 have HE := Vt5_all hP TF hP.tF
 refine CSpec_go (E := ⟨TF, Vt5⟩) (fn55 hP) HE hP.mix ?_
 simp only [go_sem]
 exact fin_z
noncomputable def rvNegS : List AV → Option (Prop × AV) := onX1 fun a => (True, (.agg [.opq (.rfrac (qneg a.1)), .pad, .pad, .opq (.rfrac (qneg a.2.1)), .pad, .pad, .opq (.rfrac (qneg a.2.2)), .pad, .pad]))
theorem rvNegS_ok (hP : PrgOk P) (args p r) : rvNegS args = some (p, r) → p → CSpec P 55 args r := onX1_ok (fun a _ => by exact rvNeg_spec hP a) args p r
theorem rvScale_spec (hP : PrgOk P) (k : Rat) (a : V3) (hk : fl k ≤ FB) (ha : fV a FB) : CSpec P 58 [(.agg [.opq (.rfrac (k)), .pad, .pad]), (.agg [.opq (.rfrac (a.1)), .pad, .pad, .opq (.rfrac (a.2.1)), .pad, .pad, .opq (.rfrac (a.2.2)), .pad, .pad])] (.agg [.opq (.rfrac (qmul k a.1)), .pad, .pad, .opq (.rfrac (qmul k a.2.1)), .pad, .pad, .opq (.rfrac (qmul k a.2.2)), .pad, .pad]) := by
 have HE := Vt5_all hP TF hP.tF
 obtain ⟨a1, a2, a3⟩ := ha
 refine CSpec_go (E := ⟨TF, Vt5⟩) (fn58 hP) HE hP.mix ?_
 simp only [go_sem, hk, a1, a2, a3]
 exact fin_z
noncomputable def rvScaleS : List AV → Option (Prop × AV)
 | [k, x] => (rawRF k).bind fun k => (rawX x).map fun a => (k.1 ∧ fl k.2 ≤ FB ∧ fV a FB, (.agg [.opq (.rfrac (qmul k.2 a.1)), .pad, .pad, .opq (.rfrac (qmul k.2 a.2.1)), .pad, .pad, .opq (.rfrac (qmul k.2 a.2.2)), .pad, .pad]))
 | _ => none
theorem rvScaleS_eq (k x) : rvScaleS [k, x] = (rawRF k).bind fun k => (rawX x).map fun a => (k.1 ∧ fl k.2 ≤ FB ∧ fV a FB, (.agg [.opq (.rfrac (qmul k.2 a.1)), .pad, .pad, .opq (.rfrac (qmul k.2 a.2.1)), .pad, .pad, .opq (.rfrac (qmul k.2 a.2.2)), .pad, .pad])) := rfl
theorem rvScaleS_ok (hP : PrgOk P) (args p r) (he : rvScaleS args = some (p, r)) (hp : p) : CSpec P 58 args r := by
 unfold rvScaleS at he
 split at he
 · simp only [Option.bind_eq_some_iff, Option.map_eq_some_iff, Prod.exists, Prod.mk.injEq] at he
   obtain ⟨q, k, h1, x, y, z, h2, rfl, rfl⟩ := he
   rw [rawX_inv h2]
   exact (rvScale_spec hP k (x, y, z) hp.2.1 hp.2.2).cv (rawRF_cv h1 hp.1 (.refl _))
 · simp at he
theorem rvDot_spec (hP : PrgOk P) (a b : V3) (ha : fV a 67108864) (hb : fV b 67108864) : CSpec P 35 [(.agg [.opq (.rfrac (a.1)), .pad, .pad, .opq (.rfrac (a.2.1)), .pad, .pad, .opq (.rfrac (a.2.2)), .pad, .pad]), (.agg [.opq (.rfrac (b.1)), .pad, .pad, .opq (.rfrac (b.2.1)), .pad, .pad, .opq (.rfrac (b.2.2)), .pad, .pad])] (.agg [.opq (.rfrac (qdt a b)), .pad, .pad]) := by
 have HE := Vt5_all hP TF hP.tF
 obtain ⟨a1, a2, a3⟩ := ha
 obtain ⟨b1, b2, b3⟩ := hb
 have i1 := Nat.le_trans a1 (show _ ≤ FB by decide)
 have i2 := Nat.le_trans a2 (show _ ≤ FB by decide)
 have i3 := Nat.le_trans a3 (show _ ≤ FB by decide)
 have j1 := Nat.le_trans b1 (show _ ≤ FB by decide)
 have j2 := Nat.le_trans b2 (show _ ≤ FB by decide)
 have j3 := Nat.le_trans b3 (show _ ≤ FB by decide)
 have p1 := Nat.le_trans (fl_qmul a1 b1) (show _ ≤ FB by decide)
 have p2 := Nat.le_trans (fl_qmul a2 b2) (show _ ≤ FB by decide)
 have p3 := Nat.le_trans (fl_qmul a3 b3) (show _ ≤ FB by decide)
 have s1 := Nat.le_trans (fl_qadd (fl_qmul a1 b1) (fl_qmul a2 b2)) (show _ ≤ FB by decide)
 unfold qdt
 refine CSpec_go (E := ⟨TF, Vt5⟩) (fn35 hP) HE hP.mix ?_
 simp only [go_sem, i1, i2, i3, j1, j2, j3, p1, p2, p3, s1]
 exact fin_z
noncomputable def rvDotS : List AV → Option (Prop × AV) := onX2 fun a b => (fV a 67108864 ∧ fV b 67108864, (.agg [.opq (.rfrac (qdt a b)), .pad, .pad]))
theorem rvDotS_ok (hP : PrgOk P) (args p r) : rvDotS args = some (p, r) → p → CSpec P 35 args r := onX2_ok (fun a b h => by exact rvDot_spec hP a b h.1 h.2) args p r
def pickI (i : Int) (a : V3) : Rat := if i = 0 then a.1 else if i = 1 then a.2.1 else a.2.2
theorem pickI_0 (x y z) : pickI 0 (x, y, z) = x := rfl
theorem pickI_1 (x y z) : pickI 1 (x, y, z) = y := rfl
theorem pickI_2 (x y z) : pickI 2 (x, y, z) = z := rfl
theorem rvMin_spec (hP : PrgOk P) (a b : V3) (i j : Int) (hi : i = 0 ∨ i = 1 ∨ i = 2) (hj : j = 0 ∨ j = 1 ∨ j = 2) (ha : fV a 268435456) (hb : fV b 268435456) : CSpec P 77 [(.agg [.opq (.rfrac (a.1)), .pad, .pad, .opq (.rfrac (a.2.1)), .pad, .pad, .opq (.rfrac (a.2.2)), .pad, .pad]), (.agg [.opq (.rfrac (b.1)), .pad, .pad, .opq (.rfrac (b.2.1)), .pad, .pad, .opq (.rfrac (b.2.2)), .pad, .pad]), .int .i64 i, .int .i64 j] (.agg [.opq (.rfrac (qsub (qmul (pickI i a) (pickI j b)) (qmul (pickI j a) (pickI i b)))), .pad, .pad]) := by
 have HE := Vt5_all hP TF hP.tF
 obtain ⟨x1, y1, z1⟩ := a
 obtain ⟨x2, y2, z2⟩ := b
 obtain ⟨a1, a2, a3⟩ := ha
 obtain ⟨b1, b2, b3⟩ := hb
 simp only [] at a1 a2 a3 b1 b2 b3 ⊢
 have n1 : (1 : Int).toNat = 1 := rfl
 have n2 : (2 : Int).toNat = 2 := rfl
 have hm : ∀ {x y : Rat}, fl x ≤ 268435456 → fl y ≤ 268435456 → fl (qmul x y) ≤ FB := fun h h' => Nat.le_trans (fl_qmul h h') (by decide)
 have hl : ∀ {x : Rat}, fl x ≤ 268435456 → fl x ≤ FB := fun h => Nat.le_trans h (by decide)
 rcases hi with rfl | rfl | rfl <;> rcases hj with rfl | rfl | rfl
 all_goals
  simp only [pickI_0, pickI_1, pickI_2]
  refine CSpec_go (E := ⟨TF, Vt5⟩) (fn77 hP) HE hP.mix ?_
  simp only [go_sem, n1, n2, hl a1, hl a2, hl a3, hl b1, hl b2, hl b3, hm a1 b1, hm a1 b2, hm a1 b3, hm a2 b1, hm a2 b2, hm a2 b3, hm a3 b1, hm a3 b2, hm a3 b3]
  exact fin_z
noncomputable def rvMinS : List AV → Option (Prop × AV)
 | [x, y, .int .i64 i, .int .i64 j] => (rawX x).bind fun a => (rawX y).map fun b => ((i = 0 ∨ i = 1 ∨ i = 2) ∧ (j = 0 ∨ j = 1 ∨ j = 2) ∧ fV a 268435456 ∧ fV b 268435456, (.agg [.opq (.rfrac (qsub (qmul (pickI i a) (pickI j b)) (qmul (pickI j a) (pickI i b)))), .pad, .pad]))
 | _ => none
theorem rvMinS_eq (x y i j) : rvMinS [x, y, .int .i64 i, .int .i64 j] = (rawX x).bind fun a => (rawX y).map fun b => ((i = 0 ∨ i = 1 ∨ i = 2) ∧ (j = 0 ∨ j = 1 ∨ j = 2) ∧ fV a 268435456 ∧ fV b 268435456, (.agg [.opq (.rfrac (qsub (qmul (pickI i a) (pickI j b)) (qmul (pickI j a) (pickI i b)))), .pad, .pad])) := rfl
theorem rvMinS_ok (hP : PrgOk P) (args p r) (he : rvMinS args = some (p, r)) (hp : p) : CSpec P 77 args r := by
 unfold rvMinS at he
 split at he
 · simp only [Option.bind_eq_some_iff, Option.map_eq_some_iff, Prod.mk.injEq] at he
   obtain ⟨a, h1, b, h2, rfl, rfl⟩ := he
   rw [rawX_inv h1, rawX_inv h2]
   exact rvMin_spec hP a b _ _ hp.1 hp.2.1 hp.2.2.1 hp.2.2.2
 · simp at he
attribute [go_sem] rvIntsS rvAddS rvNegS rvScaleS_eq rvDotS rvMinS_eq pickI_0 pickI_1 pickI_2
noncomputable def Xt0 : Nat → List AV → Option (Prop × AV) := addS (addS (addS (addS (addS (addS Vt5 14 rvIntsS) 42 rvAddS) 55 rvNegS) 58 rvScaleS) 35 rvDotS) 77 rvMinS
theorem Xt0_all (hP : PrgOk P) (T) (hT : TyOk P T) : EnvOk P ⟨T, Xt0⟩ := (((((((Vt5_all hP T hT).add (rvIntsS_ok hP)).add (rvAddS_ok hP)).add (rvNegS_ok hP)).add (rvScaleS_ok hP)).add (rvDotS_ok hP)).add (rvMinS_ok hP))
theorem Xt0_at (f a) : Xt0 f a = (addS (addS (addS (addS (addS (addS Vt5 14 rvIntsS) 42 rvAddS) 55 rvNegS) 58 rvScaleS) 35 rvDotS) 77 rvMinS) f a := rfl
attribute [go_sem] Xt0_at
end Go.Proofs.YtbfapomdnocbaaaGreatDoor.AM
/- The document's vectors: the rest but directions and ranks. -/
namespace Go.Proofs.YtbfapomdnocbaaaGreatDoor.AM
set_option linter.all false
set_option autoImplicit true
set_option relaxedAutoImplicit true
open Go Go.Proofs
set_option maxRecDepth 100000
set_option maxHeartbeats 8000000
set_option linter.unusedSimpArgs false
variable {P : Program}
theorem rvSub_spec (hP : PrgOk P) (a b : V3) (ha : fV a FB) (hb : fV b FB) : CSpec P 54 [(.agg [.opq (.rfrac (a.1)), .pad, .pad, .opq (.rfrac (a.2.1)), .pad, .pad, .opq (.rfrac (a.2.2)), .pad, .pad]), (.agg [.opq (.rfrac (b.1)), .pad, .pad, .opq (.rfrac (b.2.1)), .pad, .pad, .opq (.rfrac (b.2.2)), .pad, .pad])] (.agg [.opq (.rfrac (qsub a.1 b.1)), .pad, .pad, .opq (.rfrac (qsub a.2.1 b.2.1)), .pad, .pad, .opq (.rfrac (qsub a.2.2 b.2.2)), .pad, .pad]) := by
 have HE := Xt0_all hP TF hP.tF
 obtain ⟨a1, a2, a3⟩ := ha
 obtain ⟨b1, b2, b3⟩ := hb
 have n1 := fl_qneg b1
 have n2 := fl_qneg b2
 have n3 := fl_qneg b3
 refine CSpec_go (E := ⟨TF, Xt0⟩) (fn54 hP) HE hP.mix ?_
 simp only [go_sem, a1, a2, a3, n1, n2, n3, qaddneg]
 exact fin_z
noncomputable def rvSubS : List AV → Option (Prop × AV) := onX2 fun a b => (fV a FB ∧ fV b FB, (.agg [.opq (.rfrac (qsub a.1 b.1)), .pad, .pad, .opq (.rfrac (qsub a.2.1 b.2.1)), .pad, .pad, .opq (.rfrac (qsub a.2.2 b.2.2)), .pad, .pad]))
theorem rvSubS_ok (hP : PrgOk P) (args p r) : rvSubS args = some (p, r) → p → CSpec P 54 args r := onX2_ok (fun a b h => by exact rvSub_spec hP a b h.1 h.2) args p r
theorem rvCross_spec (hP : PrgOk P) (a b : V3) (ha : fV a 268435456) (hb : fV b 268435456) : CSpec P 37 [(.agg [.opq (.rfrac (a.1)), .pad, .pad, .opq (.rfrac (a.2.1)), .pad, .pad, .opq (.rfrac (a.2.2)), .pad, .pad]), (.agg [.opq (.rfrac (b.1)), .pad, .pad, .opq (.rfrac (b.2.1)), .pad, .pad, .opq (.rfrac (b.2.2)), .pad, .pad])] (.agg [.opq (.rfrac ((vcq a b).1)), .pad, .pad, .opq (.rfrac ((vcq a b).2.1)), .pad, .pad, .opq (.rfrac ((vcq a b).2.2)), .pad, .pad]) := by
 have HE := Xt0_all hP TF hP.tF
 obtain ⟨x1, y1, z1⟩ := a
 obtain ⟨x2, y2, z2⟩ := b
 obtain ⟨a1, a2, a3⟩ := ha
 obtain ⟨b1, b2, b3⟩ := hb
 simp only [] at a1 a2 a3 b1 b2 b3
 have d1 : ((1 : Int) = 0 ∨ (1 : Int) = 1 ∨ (1 : Int) = 2) = True := eq_true (by decide)
 have d2 : ((2 : Int) = 0 ∨ (2 : Int) = 1 ∨ (2 : Int) = 2) = True := eq_true (by decide)
 have d0 : ((0 : Int) = 0 ∨ (0 : Int) = 1 ∨ (0 : Int) = 2) = True := eq_true (by decide)
 unfold vcq
 simp only []
 refine CSpec_go (E := ⟨TF, Xt0⟩) (fn37 hP) HE hP.mix ?_
 simp only [go_sem, a1, a2, a3, b1, b2, b3, d0, d1, d2]
 (repeat' (first | exact Conv.refl _ | refine And.intro ?_ ?_)) <;> first | omega | decide | simp
noncomputable def rvCrossS : List AV → Option (Prop × AV) := onX2 fun a b => (fV a 268435456 ∧ fV b 268435456, (.agg [.opq (.rfrac ((vcq a b).1)), .pad, .pad, .opq (.rfrac ((vcq a b).2.1)), .pad, .pad, .opq (.rfrac ((vcq a b).2.2)), .pad, .pad]))
theorem rvCrossS_ok (hP : PrgOk P) (args p r) : rvCrossS args = some (p, r) → p → CSpec P 37 args r := onX2_ok (fun a b h => by exact rvCross_spec hP a b h.1 h.2) args p r
theorem rvHalf_spec (hP : PrgOk P) : CSpec P 108 [] (.agg [.opq (.rfrac (qhf)), .pad, .pad]) := by
 have HE := Xt0_all hP TF hP.tF
 have f1 : fl ((1 : Int) : Rat) ≤ FB := Nat.le_trans (fl_i64 (by decide) (by decide)) (by decide)
 have f2 : fl ((2 : Int) : Rat) ≤ FB := Nat.le_trans (fl_i64 (by decide) (by decide)) (by decide)
 have h0 : ((2 : Int) : Rat) ≠ 0 := by decide +kernel
 have h0' : (((2 : Int) : Rat) = 0) = False := eq_false h0
 refine CSpec_go (E := ⟨TF, Xt0⟩) (fn108 hP) HE hP.mix ?_
 simp only [go_sem, f1, f2, qhf_eq, h0', ne_eq, not_false_eq_true]
 exact fin_z
noncomputable def rvHalfS : List AV → Option (Prop × AV)
 | [] => some (True, (.agg [.opq (.rfrac (qhf)), .pad, .pad]))
 | _ => none
theorem rvHalfS_ok (hP : PrgOk P) (args p r) (h : rvHalfS args = some (p, r)) (hp : p) : CSpec P 108 args r := by
 unfold rvHalfS at h
 split at h
 · simp only [Option.some.injEq, Prod.mk.injEq] at h
   obtain ⟨rfl, rfl⟩ := h
   exact rvHalf_spec hP
 · simp at h
theorem rvCmp_spec (hP : PrgOk P) (a b : V3) (ha : fV a FB) (hb : fV b FB) : CSpec P 59 [(.agg [.opq (.rfrac (a.1)), .pad, .pad, .opq (.rfrac (a.2.1)), .pad, .pad, .opq (.rfrac (a.2.2)), .pad, .pad]), (.agg [.opq (.rfrac (b.1)), .pad, .pad, .opq (.rfrac (b.2.1)), .pad, .pad, .opq (.rfrac (b.2.2)), .pad, .pad])] (.int .i64 (cmpV a b)) := by
 have HE := Xt0_all hP TF hP.tF
 obtain ⟨a1, a2, a3⟩ := ha
 obtain ⟨b1, b2, b3⟩ := hb
 have w1 : IntKind.i64.wrap (0 + 1) = 1 := rfl
 have w2 : IntKind.i64.wrap (1 + 1) = 2 := rfl
 have w3 : IntKind.i64.wrap (2 + 1) = 3 := rfl
 have n1 : (1 : Int).toNat = 1 := rfl
 have n2 : (2 : Int).toNat = 2 := rfl
 have le1 : ((0 : Int) ≤ 1) = True := eq_true (by decide)
 have le2 : ((0 : Int) ≤ 2) = True := eq_true (by decide)
 unfold cmpV
 refine CSpec_go (E := ⟨TF, Xt0⟩) (fn59 hP) HE hP.mix ?_
 simp only [go_sem]
 refine trX_once HE hP.mix 21 150 (by kernel_rfl) ?_
 by_cases c1 : cmpQ a.1 b.1 = 0
 · have c1' : (cmpQ a.1 b.1 != 0) = false := by rw [c1]; rfl
   rw [if_pos c1]
   simp only [go_sem, w1, a1, b1, c1']
   refine goX_once HE hP.mix 21 200 (by kernel_rfl) ?_
   by_cases c2 : cmpQ a.2.1 b.2.1 = 0
   · have c2' : (cmpQ a.2.1 b.2.1 != 0) = false := by rw [c2]; rfl
     rw [if_pos c2]
     simp only [go_sem, w2, n1, le1, a2, b2, c2']
     refine goX_once HE hP.mix 21 250 (by kernel_rfl) ?_
     by_cases c3 : cmpQ a.2.2 b.2.2 = 0
     · have c3' : (cmpQ a.2.2 b.2.2 != 0) = false := by rw [c3]; rfl
       simp only [go_sem, w3, n2, le2, a3, b3, c3']
       refine goX_once HE hP.mix 21 300 (by kernel_rfl) ?_
       rw [c3]
       simp only [go_sem]
       exact fin_z
     · have c3' : (cmpQ a.2.2 b.2.2 != 0) = true := by simpa using c3
       simp only [go_sem, w3, n2, le2, a3, b3, c3']
       exact fin_z
   · have c2' : (cmpQ a.2.1 b.2.1 != 0) = true := by simpa using c2
     rw [if_neg c2]
     simp only [go_sem, w2, n1, le1, a2, b2, c2']
     exact fin_z
 · have c1' : (cmpQ a.1 b.1 != 0) = true := by simpa using c1
   rw [if_neg c1]
   simp only [go_sem, w1, a1, b1, c1']
   exact fin_z
noncomputable def rvCmpS : List AV → Option (Prop × AV) := onX2 fun a b => (fV a FB ∧ fV b FB, .int .i64 (cmpV a b))
theorem rvCmpS_ok (hP : PrgOk P) (args p r) : rvCmpS args = some (p, r) → p → CSpec P 59 args r := onX2_ok (fun a b h => by exact rvCmp_spec hP a b h.1 h.2) args p r
theorem rvZero_spec (hP : PrgOk P) (a : V3) : CSpec P 24 [(.agg [.opq (.rfrac (a.1)), .pad, .pad, .opq (.rfrac (a.2.1)), .pad, .pad, .opq (.rfrac (a.2.2)), .pad, .pad])] (.bool (decide (a = v0))) := by
 have HE := Xt0_all hP TF hP.tF
 rw [← zrV_eq]
 unfold zrV
 refine CSpec_go (E := ⟨TF, Xt0⟩) (fn24 hP) HE hP.mix ?_
 by_cases c1 : a.1 = 0
 · have c1' := decide_eq_true c1
   by_cases c2 : a.2.1 = 0
   · have c2' := decide_eq_true c2
     simp only [go_sem, cmpQ_z, c1', c2']
     exact fin_z
   · have c2' := decide_eq_false c2
     simp only [go_sem, cmpQ_z, c1', c2']
     exact fin_z
 · have c1' := decide_eq_false c1
   simp only [go_sem, cmpQ_z, c1']
   exact fin_z
noncomputable def rvZeroS : List AV → Option (Prop × AV) := onX1 fun a => (True, .bool (decide (a = v0)))
theorem rvZeroS_ok (hP : PrgOk P) (args p r) : rvZeroS args = some (p, r) → p → CSpec P 24 args r := onX1_ok (fun a _ => by exact rvZero_spec hP a) args p r
theorem rvPoint_spec (hP : PrgOk P) (a : V3) (ha : fV a FB) : CSpec P 60 [(.agg [.opq (.rfrac (a.1)), .pad, .pad, .opq (.rfrac (a.2.1)), .pad, .pad, .opq (.rfrac (a.2.2)), .pad, .pad])] (.agg [.str (qtS a.1), .str (qtS a.2.1), .str (qtS a.2.2)]) := by
 have HE := Xt0_all hP TF hP.tF
 obtain ⟨a1, a2, a3⟩ := ha
 refine CSpec_go (E := ⟨TF, Xt0⟩) (fn60 hP) HE hP.mix ?_
 simp only [go_sem, a1, a2, a3]
 exact fin_z
noncomputable def rvPointS : List AV → Option (Prop × AV) := onX1 fun a => (fV a FB, .agg [.str (qtS a.1), .str (qtS a.2.1), .str (qtS a.2.2)])
theorem rvPointS_ok (hP : PrgOk P) (args p r) : rvPointS args = some (p, r) → p → CSpec P 60 args r := onX1_ok (fun a h => by exact rvPoint_spec hP a h) args p r
theorem rvParse_spec (hP : PrgOk P) (x y z : ByteArray) (hx : (bl x).length ≤ 140737488355328) (hy : (bl y).length ≤ 140737488355328) (hz : (bl z).length ≤ 140737488355328) : CSpec P 22 [.agg [.str x, .str y, .str z]] (.tup [(.agg [.opq (.rfrac ((parV (bl x) (bl y) (bl z)).1.1)), .pad, .pad, .opq (.rfrac ((parV (bl x) (bl y) (bl z)).1.2.1)), .pad, .pad, .opq (.rfrac ((parV (bl x) (bl y) (bl z)).1.2.2)), .pad, .pad]), .int .i64 (parV (bl x) (bl y) (bl z)).2]) := by
 have HE := Xt0_all hP TF hP.tF
 have w1 : IntKind.i64.wrap (0 + 1) = 1 := rfl
 have w2 : IntKind.i64.wrap (1 + 1) = 2 := rfl
 have w3 : IntKind.i64.wrap (2 + 1) = 3 := rfl
 have n1 : (1 : Int).toNat = 1 := rfl
 have n2 : (2 : Int).toNat = 2 := rfl
 have le1 : ((0 : Int) ≤ 1) = True := eq_true (by decide)
 have le2 : ((0 : Int) ≤ 2) = True := eq_true (by decide)
 have z0 : ((0 : Int) : Rat) = 0 := rfl
 have b1 : ((-9223372036854775808 : Int) ≤ 0 ∧ (0 : Int) ≤ 9223372036854775807) = True := eq_true (by decide)
 unfold parV
 refine CSpec_go (E := ⟨TF, Xt0⟩) (fn22 hP) HE hP.mix ?_
 simp only [go_sem, z0, b1]
 refine trX_once HE hP.mix 36 150 (by kernel_rfl) ?_
 by_cases c1 : (parF (bl x)).2 = 0
 · have c1' : ((parF (bl x)).2 != 0) = false := by rw [c1]; rfl
   rw [if_pos c1]
   simp only [go_sem, w1, hx, c1']
   refine goX_once HE hP.mix 36 200 (by kernel_rfl) ?_
   by_cases c2 : (parF (bl y)).2 = 0
   · have c2' : ((parF (bl y)).2 != 0) = false := by rw [c2]; rfl
     rw [if_pos c2]
     simp only [go_sem, w2, n1, le1, hy, c2']
     refine goX_once HE hP.mix 36 250 (by kernel_rfl) ?_
     by_cases c3 : (parF (bl z)).2 = 0
     · have c3' : ((parF (bl z)).2 != 0) = false := by rw [c3]; rfl
       rw [if_pos c3]
       simp only [go_sem, w3, n2, le2, hz, c3']
       refine goX_once HE hP.mix 36 300 (by kernel_rfl) ?_
       simp only [go_sem]
       exact fin_z
     · have c3' : ((parF (bl z)).2 != 0) = true := by simpa using c3
       rw [if_neg c3]
       simp only [go_sem, w3, n2, le2, hz, c3', z0, b1]
       exact fin_z
   · have c2' : ((parF (bl y)).2 != 0) = true := by simpa using c2
     rw [if_neg c2]
     simp only [go_sem, w2, n1, le1, hy, c2', z0, b1]
     exact fin_z
 · have c1' : ((parF (bl x)).2 != 0) = true := by simpa using c1
   rw [if_neg c1]
   simp only [go_sem, w1, hx, c1', z0, b1]
   exact fin_z
noncomputable def rvParseS : List AV → Option (Prop × AV)
 | [.agg [.str x, .str y, .str z]] => some ((bl x).length ≤ 140737488355328 ∧ (bl y).length ≤ 140737488355328 ∧ (bl z).length ≤ 140737488355328, .tup [(.agg [.opq (.rfrac ((parV (bl x) (bl y) (bl z)).1.1)), .pad, .pad, .opq (.rfrac ((parV (bl x) (bl y) (bl z)).1.2.1)), .pad, .pad, .opq (.rfrac ((parV (bl x) (bl y) (bl z)).1.2.2)), .pad, .pad]), .int .i64 (parV (bl x) (bl y) (bl z)).2])
 | _ => none
theorem rvParseS_ok (hP : PrgOk P) (args p r) (h : rvParseS args = some (p, r)) (hp : p) : CSpec P 22 args r := by
 unfold rvParseS at h
 split at h
 · simp only [Option.some.injEq, Prod.mk.injEq] at h
   obtain ⟨rfl, rfl⟩ := h
   exact rvParse_spec hP _ _ _ hp.1 hp.2.1 hp.2.2
 · simp at h
attribute [go_sem] rvSubS rvCrossS rvHalfS rvCmpS rvZeroS rvPointS rvParseS
noncomputable def Xt1 : Nat → List AV → Option (Prop × AV) := addS (addS (addS (addS (addS (addS (addS Xt0 54 rvSubS) 37 rvCrossS) 108 rvHalfS) 59 rvCmpS) 24 rvZeroS) 60 rvPointS) 22 rvParseS
theorem Xt1_all (hP : PrgOk P) (T) (hT : TyOk P T) : EnvOk P ⟨T, Xt1⟩ := ((((((((Xt0_all hP T hT).add (rvSubS_ok hP)).add (rvCrossS_ok hP)).add (rvHalfS_ok hP)).add (rvCmpS_ok hP)).add (rvZeroS_ok hP)).add (rvPointS_ok hP)).add (rvParseS_ok hP))
theorem Xt1_at (f a) : Xt1 f a = (addS (addS (addS (addS (addS (addS (addS Xt0 54 rvSubS) 37 rvCrossS) 108 rvHalfS) 59 rvCmpS) 24 rvZeroS) 60 rvPointS) 22 rvParseS) f a := rfl
attribute [go_sem] Xt1_at
end Go.Proofs.YtbfapomdnocbaaaGreatDoor.AM
/- The document's whole numbers: order, quotients, texts. -/
namespace Go.Proofs.YtbfapomdnocbaaaGreatDoor.AM
set_option linter.all false
set_option autoImplicit true
set_option relaxedAutoImplicit true
open Go Go.Proofs
set_option maxRecDepth 100000
set_option maxHeartbeats 8000000
set_option linter.unusedSimpArgs false
variable {P : Program}
noncomputable def Wt4 : Nat → List AV → Option (Prop × AV) := Wt3
theorem Wt4_all (hP : PrgOk P) (T) (hT : TyOk P T) : EnvOk P ⟨T, Wt4⟩ := (Wt3_all hP T hT)
attribute [go_sem] Wt4
end Go.Proofs.YtbfapomdnocbaaaGreatDoor.AM
/- Lists of numbers in cells. -/
namespace Go.Proofs.YtbfapomdnocbaaaGreatDoor.AM
set_option linter.all false
set_option autoImplicit true
set_option relaxedAutoImplicit true
open Go Go.Proofs
theorem nq_l (q k : Nat) : (q + (k + 1) == q) = false := by simp
theorem nq_r (q k : Nat) : (q == q + (k + 1)) = false := by simp
attribute [go_sem] nq_l nq_r true_or or_true ne_eq not_false_eq_true not_true_eq_false imp_self
class Wd {α : Type} (f : α → List AV) (k : outParam Nat) : Prop where
 len : ∀ a, (f a).length = k
 pos : 0 < k
 head : ∀ a, AV.head (f a) = true
 ck : ∀ a, (f a).all AV.ck = true
 only : ∀ g a, onlyL g (f a) = true
 fv : ∀ m j a, (f a).map (fzV m j) = f a
 fc : ∀ m j a, ∀ x ∈ f a, fzC m j x
def cl {α : Type} (f : α → List AV) (l : List α) : List AV := l.flatMap f
section
variable {α : Type} {f : α → List AV} {k : Nat} {l : List α} {a : α} {i : Nat}
theorem cl_cons : cl f (a :: l) = f a ++ cl f l := rfl
theorem cl_app (l') : cl f l ++ cl f l' = cl f (l ++ l') := by simp [cl]
theorem cl_snoc : cl f l ++ f a = cl f (l ++ [a]) := by simp [cl]
variable [h : Wd f k]
theorem cl_len : (cl f l).length = l.length * k := by
 induction l with
 | nil => simp [cl]
 | cons a l ih => rw [cl_cons, List.length_append, h.len, ih, List.length_cons, Nat.succ_mul, Nat.add_comm]
theorem cl_drop : (cl f l).drop (i * k) = cl f (l.drop i) := by
 induction i generalizing l with
 | zero => simp
 | succ i ih =>
   cases l with
   | nil => simp [cl]
   | cons a l =>
     rw [cl_cons, Nat.succ_mul, Nat.add_comm, ← List.drop_drop, ← h.len a, List.drop_left, List.drop_succ_cons, h.len a]; exact ih
theorem cl_take : (cl f l).take (i * k) = cl f (l.take i) := by
 induction i generalizing l with
 | zero => simp [cl]
 | succ i ih =>
   cases l with
   | nil => simp [cl]
   | cons a l =>
     rw [cl_cons, Nat.succ_mul, Nat.add_comm, List.take_append, h.len, List.take_of_length_le (by rw [h.len]; omega), Nat.add_sub_cancel_left, List.take_succ_cons, ih]; rfl
theorem cl_head {α : Type} {f : α → List AV} {k : Nat} {l : List α} [h : Wd f k] : AV.head (cl f l) = true := by
 cases l with
 | nil => rfl
 | cons a l =>
   have h1 := h.head a
   have h2 := h.len a
   have h3 := h.pos
   rw [cl_cons]
   cases hf : f a with
   | nil => rw [hf] at h2; simp at h2; omega
   | cons x t => rw [hf] at h1; cases x <;> first | rfl | exact h1
theorem cl_ck {α : Type} {f : α → List AV} {k : Nat} {l : List α} [h : Wd f k] : (cl f l).all AV.ck = true := by
 induction l with
 | nil => rfl
 | cons a l ih => rw [cl_cons, List.all_append, h.ck, ih]; rfl
theorem cl_only {α : Type} {f : α → List AV} {k : Nat} {l : List α} [h : Wd f k] (g) : onlyL g (cl f l) = true := by
 induction l with
 | nil => rfl
 | cons a l ih => rw [cl_cons, onlyL_append, h.only, ih]; rfl
theorem cl_fv {α : Type} {f : α → List AV} {k : Nat} {l : List α} [h : Wd f k] (m j) : (cl f l).map (fzV m j) = cl f l := by
 induction l with
 | nil => rfl
 | cons a l ih => rw [cl_cons, List.map_append, h.fv, ih]
theorem cl_fc {α : Type} {f : α → List AV} {k : Nat} {l : List α} [h : Wd f k] (m j) : (∀ x ∈ cl f l, fzC m j x) = True := eq_true fun x hx => by
 obtain ⟨a, _, hx⟩ := List.mem_flatMap.1 hx
 exact h.fc m j a x hx
theorem cl_all {α : Type} {f : α → List AV} {k : Nat} {l : List α} [h : Wd f k] {n : Nat} (hn : n = l.length * k) : (cl f l).take n = cl f l := List.take_of_length_le (by rw [cl_len]; omega)
theorem cl_repl {α : Type} {f : α → List AV} (n : Nat) (a : α) : (List.replicate n (f a)).flatten = cl f (List.replicate n a) := by
 induction n with
 | zero => rfl
 | succ n ih => rw [List.replicate_succ, List.flatten_cons, ih, List.replicate_succ, cl_cons]
theorem cl_set (hi : i < l.length) : (cl f l).take (i * k) ++ f a ++ (cl f l).drop (i * k + k) = cl f (l.set i a) := by
 rw [cl_take, show i * k + k = (i + 1) * k by rw [Nat.succ_mul], cl_drop, cl_snoc, cl_app]
 congr 1
 rw [List.set_eq_take_append_cons_drop, if_pos hi]; simp
end
theorem CvL.imm {n : Nat} {cs cs' xs bs : List AV} (h : CvL cs cs') (h' : CvL xs bs) : CvL (.imm n cs :: xs) (.imm n cs' :: bs) := fun X φ w l hl => by
 generalize e : (AV.imm n cs :: xs) = t at hl
 cases hl with
 | imm0 a c h1 =>
   obtain ⟨e1, e2⟩ := List.cons.inj e
   simp only [AV.imm.injEq] at e1
   obtain ⟨rfl, rfl⟩ := e1
   obtain rfl := e2
   have h2 := h X φ w [] .nil
   have : cs' = [] := by have := h2.length; simpa using this.symm
   subst this
   exact .imm0 _ _ (h' _ _ _ _ h1)
 | imm z h1 h2 h3 h4 =>
   obtain ⟨e1, e2⟩ := List.cons.inj e
   simp only [AV.imm.injEq] at e1
   obtain ⟨rfl, rfl⟩ := e1
   obtain rfl := e2
   exact .imm z h1 h2 (h _ _ _ _ h3) (h' _ _ _ _ h4)
 | _ => cases e
theorem RL.app_inv {W φ w} {us bs : List AV} {l : List Value} (h : RL W φ w l (us ++ bs)) (hh : AV.head bs = true) : RL W φ w (l.take us.length) us ∧ RL W φ w (l.drop us.length) bs := by
 have := h.split us.length (by simp) (by simpa using hh)
 simpa using this
theorem CvL.app {a b c d : List AV} (h : CvL a b) (h' : CvL c d) (hc : AV.head c = true) : CvL (a ++ c) (b ++ d) := fun X φ w l hl => by
 obtain ⟨h1, h2⟩ := RL.app_inv hl hc
 have := (h _ _ _ _ h1).app (h' _ _ _ _ h2)
 rwa [List.take_append_drop] at this
theorem CvL.cl {α : Type} {f g : α → List AV} {k : Nat} [Wd f k] (h : ∀ a, CvL (f a) (g a)) (l : List α) : CvL (AM.cl f l) (AM.cl g l) := by
 induction l with
 | nil => exact .refl _
 | cons a l ih => rw [cl_cons, cl_cons]; exact CvL.app (h a) ih cl_head
theorem CvL.clm {α β : Type} {f : α → List AV} {g : β → List AV} {k : Nat} [Wd f k] {h : α → β} (hh : ∀ a, CvL (f a) (g (h a))) (l : List α) : CvL (AM.cl f l) (AM.cl g (l.map h)) := by
 induction l with
 | nil => exact .refl _
 | cons a l ih => rw [cl_cons, List.map_cons, cl_cons]; exact CvL.app (hh a) ih cl_head
def wG (z : Int) : List AV := [.opq (.whole z), .pad, .pad]
theorem fz_flat {l : List AV} (h : ∀ x ∈ l, ∀ m j, fzC m j x ∧ fzV m j x = x) : (∀ m j, l.map (fzV m j) = l) ∧ ∀ m j, ∀ x ∈ l, fzC m j x := by
 refine ⟨fun m j => ?_, fun m j x hx => (h x hx m j).1⟩
 conv => rhs; rw [← List.map_id l]
 exact List.map_congr_left fun x hx => (h x hx m j).2
theorem fz_wC (z : Int) : ∀ x ∈ wC z, ∀ m j, fzC m j x ∧ fzV m j x = x := by
 intro x hx m j
 simp only [wC, List.mem_cons, List.not_mem_nil, or_false] at hx
 rcases hx with rfl | rfl | rfl <;> cases j <;> exact ⟨trivial, rfl⟩
theorem fz_wG (z : Int) : ∀ x ∈ wG z, ∀ m j, fzC m j x ∧ fzV m j x = x := by
 intro x hx m j
 simp only [wG, List.mem_cons, List.not_mem_nil, or_false] at hx
 rcases hx with rfl | rfl | rfl <;> cases j <;> exact ⟨trivial, rfl⟩
instance : Wd wC 3 := ⟨fun _ => rfl, by decide, fun _ => rfl, fun _ => rfl, fun _ _ => rfl, fun m j z => (fz_flat (fz_wC z)).1 m j, fun m j z => (fz_flat (fz_wC z)).2 m j⟩
instance : Wd wG 3 := ⟨fun _ => rfl, by decide, fun _ => rfl, fun _ => rfl, fun _ _ => rfl, fun m j z => (fz_flat (fz_wG z)).1 m j, fun m j z => (fz_flat (fz_wG z)).2 m j⟩
theorem CvL.GC (z : Int) : CvL (wG z) (wC z) := by simpa [Pay.open, Pay.width, wC, wG] using CvL.unfold (.whole z) []
theorem CvL.CG (z : Int) : CvL (wC z) (wG z) := by simpa [Pay.open, Pay.width, wC, wG] using CvL.fold (.whole z) [] rfl
end Go.Proofs.YtbfapomdnocbaaaGreatDoor.AM
/- Whole numbers without what divides them all. -/
namespace Go.Proofs.YtbfapomdnocbaaaGreatDoor.AM
set_option linter.all false
set_option autoImplicit true
set_option relaxedAutoImplicit true
open Go Go.Proofs
set_option maxRecDepth 100000
set_option maxHeartbeats 8000000
set_option linter.unusedSimpArgs false
variable {P : Program}
def gcdL (l : List Int) : Nat := l.foldl (fun g z => Nat.gcd g z.natAbs) 0
theorem gcdL_snoc (l : List Int) (z : Int) : gcdL (l ++ [z]) = Nat.gcd (gcdL l) z.natAbs := by simp [gcdL]
theorem gcdF_blen {n : Nat} : ∀ (l : List Int) (g : Nat), blen g ≤ n → (∀ z ∈ l, wl z ≤ n) → blen (l.foldl (fun g z => Nat.gcd g z.natAbs) g) ≤ n
 | [], _, hg, _ => hg
 | z :: l, g, hg, h => gcdF_blen l _ (gcd_blen hg (h z (by simp))) fun y hy => h y (by simp [hy])
theorem gcdL_blen {n : Nat} (l : List Int) (h : ∀ z ∈ l, wl z ≤ n) : blen (gcdL l) ≤ n := gcdF_blen l 0 (Nat.le_trans (Nat.le_of_eq (show blen 0 = 0 by decide)) (Nat.zero_le _)) h
def primZ (g : Nat) (z : Int) : Int := if g = 0 then z else sg (decide (z < 0)) (z.natAbs / g)
def primL (l : List Int) : List Int := l.map (primZ (gcdL l))
theorem prim2_ic (hP : PrgOk P) {l : List Int} {i g : Nat} {z : Int} {K : Nat → AV → (Nat → AObj) → Prop} (hi : i < l.length) (hz : l[i] = z) (hzb : wl z ≤ 34359738368) (hg : blen g ≤ 34359738368)
 (k : ∀ nx m', KM [2, 0] m' (upd (upd (fun _ => .unused) 0 (.live [.imm l.length (cl wC l)])) 2 (.live [.opq (.nat (Nat.gcd g z.natAbs)), .pad])) → K nx (.tup []) m') :
 icX (ICall P) 130 [.int .i64 (i : Int), .ref 2 0, .ref 0 0] (upd (upd (fun _ => .unused) 0 (.live [.imm l.length (cl wC l)])) 2 (.live [.opq (.nat g), .pad])) (K := ⟨K⟩) := by
 have HE := Wt4_all hP T1 hP.t1
 refine icX_vc (E := ⟨T1, Wt4⟩) (fn130 hP) HE hP.mix rfl rfl (Nat.le_of_ble_eq_true rfl) 0 ?_
 have h3 : i * 3 ≤ l.length * 3 := by omega
 have hd : (cl wC l).drop (i * 3) = .bool (decide (z < 0)) :: .opq (.nat z.natAbs) :: .pad :: cl wC (l.drop (i + 1)) := by
  rw [cl_drop, List.drop_eq_getElem_cons hi, cl_cons, hz]; rfl
 have hlen : (cl wC (l.drop (i + 1))).length = (l.length - (i + 1)) * 3 := by rw [cl_len, List.length_drop]
 have hh : AV.head (cl wC (l.drop (i + 1))) = true := cl_head
 have hzb' := Nat.le_trans hzb (show _ ≤ 68719476736 by decide)
 have hg' := Nat.le_trans hg (show _ ≤ 68719476736 by decide)
 unfold wl at hzb'
 simp only [go_sem, hi, cl_len, h3, hd, hzb', hg', hlen, hh, upd_upd]
 have ho : objOnly [2, 0] (.live [.imm l.length (cl wC l)]) = true := by simp only [objOnly, onlyL, AV.only, cl_only, Bool.and_true]
 exact k _ _ (KM.p (.upd rfl rfl (.upd rfl ho .nil)))
theorem each_ic (hP : PrgOk P) {n fd : Nat} {dcs cs0 : List AV} {M : Nat → Nat → AObj} {L : List Nat} {K : Nat → AV → (Nat → AObj) → Prop} (hn : n ≤ 1099511627776)
 (h0 : ∀ i, M i 0 = .live [.imm n cs0]) (hM : ∀ i, GenM L (M i)) (hd : onlyL (fun r => L.contains r) dcs = true) (h0L : L.contains 0 = true)
 (step : ∀ i, i < n → ∀ K' : Nat → AV → (Nat → AObj) → Prop, (∀ nx m', KM L m' (M (i + 1)) → K' nx (.tup []) m') → icX (ICall P) fd (.int .i64 (i : Int) :: dcs) (M i) (K := ⟨K'⟩))
 (k : ∀ nx, K nx (.tup []) (M n)) :
 icX (ICall P) 129 [.fn fd [] dcs, .ref 0 0] (M 0) (K := ⟨K⟩) := by
 have HE := EnvOk.no hP.t1
 refine icX_vc (E := ⟨T1, noS⟩) (fn129 hP) HE hP.mix rfl rfl (Nat.le_of_ble_eq_true rfl) 0 ?_
 have h00 := h0 0
 have hdo : (AV.fn fd [] dcs).only (fun r => L.contains r) = true := by simp only [AV.only, onlyL, Bool.true_and]; exact hd
 have hro : (AV.ref 0 0).only (fun r => L.contains r) = true := by simp only [AV.only]; exact h0L
 simp only [go_sem, h00]
 refine trX_loop HE hP.mix L (fun i : Nat => ⟨upd (upd (upd (upd (fun _ => .junk) 0 (.fn fd [] dcs)) 1 (.ref 0 0)) 5 (.int .i64 (n : Int))) 6 (.int .i64 (i : Int)), M i, 13⟩)
  (fun i => i ≤ n) (fun i => n - i) 0 0 (hM 0).1 (Kept.of rfl (by repeat (first | exact KT.nil | refine KT.upd rfl (by first | rfl | exact hdo | exact hro) ?_)) (KM.gen (hM 0))) (Nat.zero_le _) 13 (by kernel_rfl) ?_
 intro i hi
 by_cases h : i < n
 · have hwi := wi_add1 i (by omega)
   simp only [go_sem, h, h0 i]
   refine step i h _ fun nx m' hm' => ?_
   simp only [go_sem, hwi]
   exact ⟨i + 1, Kept.of rfl (by repeat (first | exact KT.nil | refine KT.upd rfl (by first | rfl | exact hdo | exact hro) ?_)) hm', by omega, by omega⟩
 · obtain rfl : i = n := by omega
   simp only [go_sem, h]
   exact k _
def wX (p : Bool × Int) : List AV := if p.1 then wG p.2 else wC p.2
theorem fz_wX (p : Bool × Int) : ∀ x ∈ wX p, ∀ m j, fzC m j x ∧ fzV m j x = x := by
 obtain ⟨b, z⟩ := p
 cases b
 · exact fz_wC z
 · exact fz_wG z
instance : Wd wX 3 := ⟨fun ⟨b, _⟩ => by cases b <;> rfl, by decide, fun ⟨b, _⟩ => by cases b <;> rfl, fun ⟨b, _⟩ => by cases b <;> rfl, fun _ ⟨b, _⟩ => by cases b <;> rfl, fun m j z => (fz_flat (fz_wX z)).1 m j, fun m j z => (fz_flat (fz_wX z)).2 m j⟩
theorem CvL.XG (p : Bool × Int) : CvL (wX p) (wG p.2) := by
 obtain ⟨b, z⟩ := p
 cases b
 · exact .CG z
 · exact .refl _
def stP (g : Nat) (z : Int) : Bool × Int := if g = 0 then (false, z) else (true, primZ g z)
theorem stP_snd (g z) : (stP g z).2 = primZ g z := by unfold stP primZ; split <;> rfl
abbrev M3 (l : List Int) (g : Nat) (o : List (Bool × Int)) : Nat → AObj := upd (upd (upd (upd (fun _ => .unused) 0 (.live [.imm l.length (cl wC l)])) 2 (.live [.opq (.nat g), .pad])) 10 (.live (cl wX o))) 11 (.live [.sl 10 0 l.length 3])
theorem prim3_ic (hP : PrgOk P) {l : List Int} {i g : Nat} {z : Int} {o : List (Bool × Int)} {K : Nat → AV → (Nat → AObj) → Prop} (hi : i < l.length) (ho : o.length = l.length) (hz : l[i] = z) (hzb : wl z ≤ 34359738368) (hg : blen g ≤ 34359738368)
 (k : ∀ nx m', KM [11, 10, 2, 0] m' (M3 l g (o.set i (stP g z))) → K nx (.tup []) m') :
 icX (ICall P) 131 [.int .i64 (i : Int), .ref 0 0, .ref 11 0, .ref 2 0] (M3 l g o) (K := ⟨K⟩) := by
 have HE := Wt4_all hP T1 hP.t1
 refine icX_any 0 (icX_vc (E := ⟨T1, Wt4⟩) (fn131 hP) HE hP.mix rfl rfl (Nat.le_of_ble_eq_true rfl) 20 ?_)
 have hio : i < o.length := by omega
 have h3 : i * 3 ≤ l.length * 3 := by omega
 have h4 : i * 3 + 3 ≤ o.length * 3 := by omega
 have h5 : i * 3 + 3 ≤ l.length * 3 := by omega
 have h6 : i * 3 + 3 = (i + 1) * 3 := by omega
 have hd : (cl wC l).drop (i * 3) = .bool (decide (z < 0)) :: .opq (.nat z.natAbs) :: .pad :: cl wC (l.drop (i + 1)) := by
  rw [cl_drop, List.drop_eq_getElem_cons hi, cl_cons, hz]; rfl
 have hlen : (cl wC (l.drop (i + 1))).length = (l.length - (i + 1)) * 3 := by rw [cl_len, List.length_drop]
 have hh : AV.head (cl wC (l.drop (i + 1))) = true := cl_head
 have o1 : AV.head ((cl wX o).drop (i * 3)) = true := by rw [cl_drop]; exact cl_head
 have o2 : AV.head ((cl wX o).drop (i * 3 + 3)) = true := by rw [h6, cl_drop]; exact cl_head
 have s1 : (cl wX o).take (i * 3) ++ [.bool (decide (z < 0)), .opq (.nat z.natAbs), .pad] ++ (cl wX o).drop (i * 3 + 3) = cl wX (o.set i (false, z)) := cl_set (f := wX) (a := (false, z)) hio
 have hzb' := Nat.le_trans hzb (show _ ≤ 68719476736 by decide)
 have hg' := Nat.le_trans hg (show _ ≤ 68719476736 by decide)
 unfold wl at hzb'
 have ho0 : objOnly [11, 10, 2, 0] (.live [.imm l.length (cl wC l)]) = true := by simp only [objOnly, onlyL, AV.only, cl_only, Bool.and_true]
 have hoX : ∀ o : List (Bool × Int), objOnly [11, 10, 2, 0] (.live (cl wX o)) = true := fun o => by simp only [objOnly, cl_only]
 by_cases h0 : g = 0
 · have hs : stP g z = (false, z) := by unfold stP; rw [if_pos h0]
   rw [hs] at k
   subst h0
   have b0 : blen 0 ≤ 68719476736 := by decide
   simp only [go_sem, hi, hio, cl_len, ho, h3, h4, h5, hd, hzb', hg', hlen, hh, upd_upd, o1, o2, s1, b0]
   exact k _ _ (KM.p (.upd rfl rfl (.upd rfl (hoX _) (.upd rfl rfl (.upd rfl ho0 .nil)))))
 · have hs : stP g z = (true, primZ g z) := by unfold stP; rw [if_neg h0]
   rw [hs] at k
   have h0' : (g = 0) = False := eq_false h0
   have hq := Nat.le_trans (blen_le_of (Nat.div_le_self z.natAbs g) hzb) (show _ ≤ 68719476736 by decide)
   have hpz : sg (decide (z < 0)) (z.natAbs / g) = primZ g z := by unfold primZ; rw [if_neg h0]
   have o3 : (o.set i (false, z)).length = l.length := by rw [List.length_set, ho]
   have o4 : AV.head ((cl wX (o.set i (false, z))).drop (i * 3)) = true := by rw [cl_drop]; exact cl_head
   have o5 : AV.head ((cl wX (o.set i (false, z))).drop (i * 3 + 3)) = true := by rw [h6, cl_drop]; exact cl_head
   have s2 : (cl wX (o.set i (false, z))).take (i * 3) ++ [.opq (.whole (primZ g z)), .pad, .pad] ++ (cl wX (o.set i (false, z))).drop (i * 3 + 3) = cl wX (o.set i (true, primZ g z)) := by
    have := cl_set (f := wX) (l := o.set i (false, z)) (a := (true, primZ g z)) (i := i) (by omega)
    rw [List.set_set] at this; exact this
   simp only [go_sem, hi, hio, cl_len, ho, h3, h4, h5, hd, hzb', hg', hlen, hh, upd_upd, o1, o2, s1, h0', hq, hpz, o3, o4, o5, s2]
   exact k _ _ (KM.p (.upd rfl rfl (.upd rfl (hoX _) (.upd rfl rfl (.upd rfl ho0 .nil)))))
end Go.Proofs.YtbfapomdnocbaaaGreatDoor.AM
/- Whole numbers without what divides them all (2). -/
namespace Go.Proofs.YtbfapomdnocbaaaGreatDoor.AM
set_option linter.all false
set_option autoImplicit true
set_option relaxedAutoImplicit true
open Go Go.Proofs
set_option maxRecDepth 100000
set_option maxHeartbeats 8000000
set_option linter.unusedSimpArgs false
variable {P : Program}
theorem wPrim_spec (hP : PrgOk P) (l : List Int) (hl : l.length ≤ 1099511627776) (hb : ∀ z ∈ l, wl z ≤ 34359738368) : CSpec P 85 [.imm l.length (cl wG l)] (.imm l.length (cl wG (primL l))) := by
 have HE := Wt4_all hP T1 hP.t1
 refine CSpec.cv ?_ (.imm (.cl .GC l) .nil)
 have hgo : groundL [.imm l.length (cl wC l)] = true := by simp only [groundL, onlyL, AV.only, cl_only, Bool.and_true]
 refine CSpec_vc (E := ⟨T1, Wt4⟩) (fn85 hP) HE hP.mix rfl hgo rfl (Nat.le_of_ble_eq_true rfl) ?_
 have hg := gcdL_blen l hb
 have ho1 : ∀ L, objOnly L (.live [.imm l.length (cl wC l)]) = true := fun L => by simp only [objOnly, onlyL, AV.only, cl_only, Bool.and_true]
 have hoX : ∀ L, ∀ o : List (Bool × Int), objOnly L (.live (cl wX o)) = true := fun L o => by simp only [objOnly, cl_only]
 simp only [go_sem]
 refine icX_any 8 (each_ic hP (M := fun i => upd (upd (fun _ => .unused) 0 (.live [.imm l.length (cl wC l)])) 2 (.live [.opq (.nat (gcdL (l.take i))), .pad])) (L := [2, 0]) hl (fun _ => rfl) (fun i => ((GenM.nil.upd rfl (ho1 _)).upd rfl rfl)) rfl rfl (fun i hi K' k' => ?_) fun nx => ?_)
 · refine prim2_ic hP hi rfl (hb _ (List.getElem_mem hi)) (gcdL_blen _ fun z hz => hb z (List.mem_of_mem_take hz)) fun nx m' hm => k' nx m' ?_
   have e : gcdL (l.take (i + 1)) = Nat.gcd (gcdL (l.take i)) l[i].natAbs := by
    rw [List.take_add_one, List.getElem?_eq_getElem hi]; exact gcdL_snoc _ _
   simp only [e]; exact hm
 have hta : l.take l.length = l := List.take_length
 have hz : (List.replicate l.length [AV.bool false, .opq (.nat 0), .pad]).flatten = cl wX (List.replicate l.length (false, 0)) := cl_repl (f := wX) l.length (false, 0)
 have hck : (cl wX (List.replicate l.length (false, (0 : Int)))).all AV.ck = true := cl_ck
 simp only [go_sem, hta, hl, hz, hck, upd_upd]
 have key : ∀ i, i ≤ l.length → ((l.take i).map (stP (gcdL l)) ++ List.replicate (l.length - i) (false, 0)).length = l.length := fun i hi => by
  rw [List.length_append, List.length_map, List.length_take, List.length_replicate]; omega
 refine icX_any 100 (each_ic hP (M := fun i => M3 l (gcdL l) ((l.take i).map (stP (gcdL l)) ++ List.replicate (l.length - i) (false, 0))) (L := [11, 10, 2, 0]) hl (fun _ => rfl) (fun i => ((((GenM.nil.upd rfl (ho1 _)).upd rfl rfl).upd rfl (hoX _ _)).upd rfl rfl)) rfl rfl (fun i hi K' k' => ?_) fun nx => ?_)
 · refine prim3_ic hP hi (key i (by omega)) rfl (hb _ (List.getElem_mem hi)) hg fun nx m' hm => k' nx m' ?_
   have e : ((l.take i).map (stP (gcdL l)) ++ List.replicate (l.length - i) (false, 0)).set i (stP (gcdL l) l[i]) = (l.take (i + 1)).map (stP (gcdL l)) ++ List.replicate (l.length - (i + 1)) (false, 0) := by
    have h1 : ((l.take i).map (stP (gcdL l))).length = i := by rw [List.length_map, List.length_take]; omega
    rw [List.set_append_right _ _ (by omega), h1, Nat.sub_self, List.take_add_one, List.getElem?_eq_getElem hi, Option.toList_some, List.map_append, List.append_assoc, show l.length - i = (l.length - (i + 1)) + 1 by omega, List.replicate_succ]
    rfl
   rw [← e]; exact hm
 simp only [hta, Nat.sub_self, List.replicate_zero, List.append_nil]
 have hlx : (cl wX (l.map (stP (gcdL l)))).length = l.length * 3 := by rw [cl_len, List.length_map]
 have htk : (cl wX (l.map (stP (gcdL l)))).take (l.length * 3) = cl wX (l.map (stP (gcdL l))) := cl_all (by rw [List.length_map])
 have hhd : AV.head (cl wX (l.map (stP (gcdL l)))) = true := cl_head
 have hdd : (cl wX (l.map (stP (gcdL l)))).drop (l.length * 3) = [] := List.drop_of_length_le (by omega)
 have hon : onlyL (fun _ => false) (cl wX (l.map (stP (gcdL l)))) = true := cl_only _
 simp only [go_sem, hlx, htk, hhd, hdd, cl_fc, cl_fv, hon, Nat.le_refl]
 have e : primL l = (l.map (stP (gcdL l))).map Prod.snd := by
  unfold primL; rw [List.map_map]; exact List.map_congr_left fun z _ => (stP_snd _ _).symm
 rw [e]; exact CvL.conv (.imm (CvL.clm .XG _) .nil)
end Go.Proofs.YtbfapomdnocbaaaGreatDoor.AM
/- Ranks by elimination. -/
namespace Go.Proofs.YtbfapomdnocbaaaGreatDoor.AM
set_option linter.all false
set_option autoImplicit true
set_option relaxedAutoImplicit true
open Go Go.Proofs
set_option maxRecDepth 100000
def redA (rows : List (V3 × Nat)) (a : V3) : V3 := rows.foldl (fun b r => red1 r.1 r.2 b) a
def stepR (dir : V3 → V3) : List V3 → List (V3 × Nat) → Nat
 | [], rows => rows.length
 | a :: l, rows => match nzP (redA rows a) with
   | none => stepR dir l rows
   | some p => if rows.length + 1 = 3 then 3 else stepR dir l (rows ++ [(dir (redA rows a), p)])
theorem nz_rat {x y : Rat} (hx : x ≠ 0) (h : x * y = 0) : y = 0 := zero_of_mul hx h
theorem det_perp {n a b c : V3} (hn : n ≠ v0) (ha : vdt a n = 0) (hb : vdt b n = 0) (hc : vdt c n = 0) : vdet a b c = 0 := by
 have h1 : n.1 * vdet a b c = 0 := by
  have : n.1 * vdet a b c = vdt a n * (vcr b c).1 + vdt b n * (vcr c a).1 + vdt c n * (vcr a b).1 := by
   unfold vdet vdt vcr; simp only []; grind
  rw [this, ha, hb, hc]; grind
 have h2 : n.2.1 * vdet a b c = 0 := by
  have : n.2.1 * vdet a b c = vdt a n * (vcr b c).2.1 + vdt b n * (vcr c a).2.1 + vdt c n * (vcr a b).2.1 := by
   unfold vdet vdt vcr; simp only []; grind
  rw [this, ha, hb, hc]; grind
 have h3 : n.2.2 * vdet a b c = 0 := by
  have : n.2.2 * vdet a b c = vdt a n * (vcr b c).2.2 + vdt b n * (vcr c a).2.2 + vdt c n * (vcr a b).2.2 := by
   unfold vdet vdt vcr; simp only []; grind
  rw [this, ha, hb, hc]; grind
 by_cases e1 : n.1 = 0
 · by_cases e2 : n.2.1 = 0
   · by_cases e3 : n.2.2 = 0
     · exact absurd ((v0_iff n).2 ⟨e1, e2, e3⟩) hn
     · exact nz_rat e3 h3
   · exact nz_rat e2 h2
 · exact nz_rat e1 h1
theorem par_trans {r a b : V3} (hr : r ≠ v0) (ha : vcr a r = v0) (hb : vcr b r = v0) : vcr a b = v0 := by
 obtain ⟨a1, a2, a3⟩ := cr_zero.1 ha
 obtain ⟨b1, b2, b3⟩ := cr_zero.1 hb
 rw [cr_zero]
 by_cases e1 : r.1 = 0
 · by_cases e2 : r.2.1 = 0
   · by_cases e3 : r.2.2 = 0
     · exact absurd ((v0_iff r).2 ⟨e1, e2, e3⟩) hr
     · refine ⟨nz_rat e3 ?_, nz_rat e3 ?_, nz_rat e3 ?_⟩ <;> grind
   · refine ⟨nz_rat e2 ?_, nz_rat e2 ?_, nz_rat e2 ?_⟩ <;> grind
 · refine ⟨nz_rat e1 ?_, nz_rat e1 ?_, nz_rat e1 ?_⟩ <;> grind
theorem rs_nz {r s : V3} {p q : Nat} (hp : p < 3) (hq : q < 3) (hr : pick p r ≠ 0) (hs : pick q s ≠ 0) (h0 : pick p s = 0) : vcr r s ≠ v0 := by
 intro h
 obtain ⟨h1, h2, h3⟩ := cr_zero.1 h
 have hpq : p ≠ q := fun e => hs (e ▸ h0)
 rcases (show p = 0 ∨ p = 1 ∨ p = 2 by omega) with rfl | rfl | rfl <;> rcases (show q = 0 ∨ q = 1 ∨ q = 2 by omega) with rfl | rfl | rfl <;> first | exact absurd rfl hpq | skip
 all_goals simp only [pick0, pick1, pick2] at hr hs h0
 all_goals exact mul_nz hr hs (by grind)
def InvR (seen : List V3) : List (V3 × Nat) → Prop
 | [] => ∀ a ∈ seen, a = v0
 | [(r, p)] => p < 3 ∧ pick p r ≠ 0 ∧ (∃ a ∈ seen, ∃ k, r = vsc k a) ∧ ∀ a ∈ seen, vcr a r = v0
 | [(r, p), (s, q)] => p < 3 ∧ q < 3 ∧ pick p r ≠ 0 ∧ pick q s ≠ 0 ∧ pick p s = 0 ∧ (∃ a ∈ seen, ∃ b ∈ seen, ∃ k, vcr r s = vsc k (vcr a b)) ∧ ∀ a ∈ seen, vdt a (vcr r s) = 0
 | _ => False
theorem sc_v0 (k : Rat) : vsc k v0 = v0 := by unfold vsc v0; refine v3_ext ?_ ?_ ?_ <;> (simp only []; grind)
theorem pick_v0 (p : Nat) : pick p v0 = 0 := by unfold pick v0; split; · rfl
                                                split <;> rfl
theorem rank_ok {dir : V3 → V3} (hd : ∀ a, a ≠ v0 → ∃ k, k ≠ 0 ∧ dir a = vsc k a) : ∀ (l : List V3) (rows : List (V3 × Nat)) (seen : List V3), InvR seen rows → Rk (seen ++ l) (stepR dir l rows)
 | [], rows, seen, h => by
   rw [List.append_nil]
   unfold stepR
   match rows, h with
   | [], h => exact .inl ⟨rfl, h⟩
   | [(r, p)], ⟨h1, h2, ⟨a, ha, k, hk⟩, h4⟩ =>
     have hr0 : r ≠ v0 := fun e => h2 (by rw [e]; exact pick_v0 p)
     exact .inr (.inl ⟨rfl, ⟨a, ha, fun e => hr0 (by rw [hk, e]; exact sc_v0 k)⟩, fun x hx y hy => par_trans hr0 (h4 x hx) (h4 y hy)⟩)
   | [(r, p), (s, q)], ⟨h1, h2, h3, h4, h5, ⟨a, ha, b, hb, k, hk⟩, h7⟩ =>
     have hn := rs_nz h1 h2 h3 h4 h5
     exact .inr (.inr (.inl ⟨rfl, ⟨a, ha, b, hb, fun e => hn (by rw [hk, e]; exact sc_v0 k)⟩, fun x hx y hy z hz => det_perp hn (h7 x hx) (h7 y hy) (h7 z hz)⟩))
   | _ :: _ :: _ :: _, h => exact absurd h id
 | a :: l, rows, seen, h => by
   have e : seen ++ a :: l = (seen ++ [a]) ++ l := by simp
   have hin : a ∈ seen ++ [a] := by simp
   have hup : ∀ x ∈ seen, x ∈ seen ++ [a] := fun x hx => by simp [hx]
   have hall : ∀ {Q : V3 → Prop}, (∀ x ∈ seen, Q x) → Q a → ∀ x ∈ seen ++ [a], Q x := fun h1 h2 x hx => by
    rcases List.mem_append.1 hx with hx | hx
    · exact h1 x hx
    · rw [List.mem_singleton.1 hx]; exact h2
   rw [e]
   unfold stepR
   match rows, h with
   | [], h =>
     have er : redA [] a = a := rfl
     rw [er]
     cases hz : nzP a with
     | none => exact rank_ok hd l [] _ (hall h (nz_none hz))
     | some p =>
       obtain ⟨k1, k2⟩ := nz_some hz
       have ha0 : a ≠ v0 := fun e => k1 (by rw [e]; exact pick_v0 p)
       obtain ⟨k, hk0, hk⟩ := hd a ha0
       refine rank_ok hd l [(dir a, p)] _ ⟨k2, ?_, ⟨a, hin, k, hk⟩, hall (fun x hx => by rw [h x hx]; exact cr_zl _) (by rw [hk]; exact cr_self k a)⟩
       rw [hk, pick_sc]; exact mul_nz hk0 k1
   | [(r, p)], ⟨h1, h2, ⟨b, hb, k, hk⟩, h4⟩ =>
     have er : redA [(r, p)] a = red1 r p a := rfl
     rw [er]
     cases hz : nzP (red1 r p a) with
     | none => exact rank_ok hd l [(r, p)] _ ⟨h1, h2, ⟨b, hup b hb, k, hk⟩, hall h4 (red_zero h2 (nz_none hz))⟩
     | some q =>
       obtain ⟨k1, k2⟩ := nz_some hz
       have ha0 : red1 r p a ≠ v0 := fun e => k1 (by rw [e]; exact pick_v0 q)
       obtain ⟨j, hj0, hj⟩ := hd _ ha0
       refine rank_ok hd l [(r, p), (dir (red1 r p a), q)] _ ⟨h1, k2, h2, ?_, ?_, ⟨b, hup b hb, a, hin, j * pick p r * k, ?_⟩, hall (fun x hx => dt_par (h4 x hx)) ?_⟩
       · rw [hj, pick_sc]; exact mul_nz hj0 k1
       · rw [hj, pick_sc, red1_p, Rat.mul_zero]
       · rw [hj, cr_red, hk, cr_sc, sc_sc, ← hk]
       · rw [hj, cr_red, dt_sc, dt_cr_self, Rat.mul_zero]
   | [(r, p), (s, q)], ⟨h1, h2, h3, h4, h5, ⟨b, hb, c, hc, k, hk⟩, h7⟩ =>
     have er : redA [(r, p), (s, q)] a = red1 s q (red1 r p a) := rfl
     rw [er]
     cases hz : nzP (red1 s q (red1 r p a)) with
     | none =>
       refine rank_ok hd l [(r, p), (s, q)] _ ⟨h1, h2, h3, h4, h5, ⟨b, hup b hb, c, hup c hc, k, hk⟩, hall h7 ?_⟩
       have hz := nz_none hz
       have key : vdt (red1 s q (red1 r p a)) (vcr r s) = pick q s * pick p r * vdt a (vcr r s) := by
        unfold red1 vsb vsc vdt vcr
        simp only []
        generalize pick q s = x
        generalize pick p r = y
        generalize pick p a = z
        generalize pick q _ = w
        grind
       rw [hz] at key
       have : vdt v0 (vcr r s) = 0 := by unfold vdt v0; simp only []; grind
       rw [this] at key
       exact nz_rat (mul_nz h4 h3) key.symm
     | some t =>
       obtain ⟨k1, k2⟩ := nz_some hz
       have ha0 : red1 s q (red1 r p a) ≠ v0 := fun e => k1 (by rw [e]; exact pick_v0 t)
       have hd3 := third h1 h2 h3 h4 h5 ha0
       rw [hk, dt_sc] at hd3
       exact .inr (.inr (.inr ⟨rfl, a, by simp, b, by simp [hb], c, by simp [hc], (nz_of_mul hd3).2⟩))
   | _ :: _ :: _ :: _, h => exact absurd h id
end Go.Proofs.YtbfapomdnocbaaaGreatDoor.AM
/- What divides some numbers. -/
namespace Go.Proofs.YtbfapomdnocbaaaGreatDoor.AM
set_option linter.all false
set_option autoImplicit true
set_option relaxedAutoImplicit true
open Go Go.Proofs
set_option maxRecDepth 100000
theorem primZ_wl (g : Nat) (z : Int) : wl (primZ g z) ≤ wl z := by
 unfold primZ; split
 · exact Nat.le_refl _
 · rw [show wl (sg (decide (z < 0)) (z.natAbs / g)) = blen (z.natAbs / g) by unfold wl; rw [sg_abs]]
   exact blen_mono (Nat.div_le_self _ _)
theorem gcdF_dvd : ∀ (l : List Int) (g : Nat), l.foldl (fun g z => Nat.gcd g z.natAbs) g ∣ g ∧ ∀ z ∈ l, l.foldl (fun g z => Nat.gcd g z.natAbs) g ∣ z.natAbs
 | [], g => ⟨Nat.dvd_refl _, by simp⟩
 | y :: l, g => by
   obtain ⟨h1, h2⟩ := gcdF_dvd l (Nat.gcd g y.natAbs)
   simp only [List.foldl_cons]
   refine ⟨Nat.dvd_trans h1 (Nat.gcd_dvd_left _ _), fun z hz => ?_⟩
   rcases List.mem_cons.1 hz with rfl | hz
   · exact Nat.dvd_trans h1 (Nat.gcd_dvd_right _ _)
   · exact h2 z hz
theorem gcdL_dvd {l : List Int} {z : Int} (h : z ∈ l) : gcdL l ∣ z.natAbs := (gcdF_dvd l 0).2 z h
theorem dvd_gcdF {d : Nat} : ∀ (l : List Int) (g : Nat), d ∣ g → (∀ z ∈ l, d ∣ z.natAbs) → d ∣ l.foldl (fun g z => Nat.gcd g z.natAbs) g
 | [], _, h, _ => h
 | _ :: l, _, h, h' => dvd_gcdF l _ (Nat.dvd_gcd h (h' _ (by simp))) fun z hz => h' z (by simp [hz])
theorem dvd_gcdL {d : Nat} {l : List Int} (h : ∀ z ∈ l, d ∣ z.natAbs) : d ∣ gcdL l := dvd_gcdF l 0 (Nat.dvd_zero _) h
theorem primZ_abs {g : Nat} (h : g ≠ 0) (z : Int) : (primZ g z).natAbs = z.natAbs / g := by unfold primZ; rw [if_neg h, sg_abs]
theorem primZ_mul {g : Nat} {z : Int} (h : g ≠ 0) (hd : g ∣ z.natAbs) : primZ g z * (g : Int) = z := by
 have hz := sg_of z
 unfold primZ
 rw [if_neg h]
 have e := Nat.div_mul_cancel hd
 by_cases h1 : z < 0
 · rw [decide_eq_true h1, sg_t] at *
   rw [Int.neg_mul, ← Int.natCast_mul, e]; exact hz
 · rw [decide_eq_false h1, sg_f] at *
   rw [← Int.natCast_mul, e]; exact hz
theorem gcd_prim {l : List Int} (h : gcdL l ≠ 0) : gcdL (primL l) = 1 := by
 have key : gcdL (primL l) * gcdL l ∣ gcdL l := dvd_gcdL fun z hz => by
  have h1 := gcdL_dvd hz
  have h2 : primZ (gcdL l) z ∈ primL l := List.mem_map_of_mem hz
  have h3 := gcdL_dvd h2
  rw [primZ_abs h] at h3
  obtain ⟨c, hc⟩ := h3
  have e := Nat.div_mul_cancel h1
  exact ⟨c, by rw [← e, hc, Nat.mul_assoc, Nat.mul_comm c, ← Nat.mul_assoc]⟩
 obtain ⟨c, hc⟩ := key
 have hp : 0 < gcdL l := by omega
 have h1 : gcdL l * (gcdL (primL l) * c) = gcdL l * 1 := by
  rw [Nat.mul_one]; conv => rhs; rw [hc]
  rw [Nat.mul_comm (gcdL (primL l)) (gcdL l), Nat.mul_assoc]
 have h2 := Nat.eq_of_mul_eq_mul_left hp h1
 exact Nat.dvd_one.1 ⟨c, h2.symm⟩
theorem gcdL_zero {l : List Int} (h : gcdL l = 0) {z : Int} (hz : z ∈ l) : z = 0 := by
 have := gcdL_dvd hz
 rw [h] at this
 have := Nat.zero_dvd.1 this
 omega
end Go.Proofs.YtbfapomdnocbaaaGreatDoor.AM
/- Directions: plain facts. -/
namespace Go.Proofs.YtbfapomdnocbaaaGreatDoor.AM
set_option linter.all false
set_option autoImplicit true
set_option relaxedAutoImplicit true
open Go Go.Proofs
set_option maxRecDepth 100000
def lcmD (m d : Nat) : Nat := m * (d / Nat.gcd m d)
theorem lcmD_blen {m d x y : Nat} (h : blen m ≤ x) (h' : blen d ≤ y) : blen (lcmD m d) ≤ x + y := blen_mul_le h (blen_le_of (Nat.div_le_self _ _) h')
theorem lcmD_l (m d) : m ∣ lcmD m d := ⟨_, rfl⟩
theorem lcmD_r (m d : Nat) : d ∣ lcmD m d := by
 unfold lcmD
 obtain ⟨c, hc⟩ := Nat.gcd_dvd_left m d
 have e := Nat.div_mul_cancel (Nat.gcd_dvd_right m d)
 refine ⟨c, ?_⟩
 generalize Nat.gcd m d = g at *
 calc m * (d / g) = (d / g * g) * c := by rw [hc]; rw [Nat.mul_comm (g * c), Nat.mul_assoc]
  _ = d * c := by rw [e]
theorem lcmD_pos {m d : Nat} (hm : 0 < m) (hd : 0 < d) : 0 < lcmD m d := Nat.mul_pos hm (Nat.div_pos (Nat.le_of_dvd hd (Nat.gcd_dvd_right m d)) (Nat.gcd_pos_of_pos_right m hd))
def mV (a : V3) : Nat := lcmD (lcmD (lcmD 1 a.1.den) a.2.1.den) a.2.2.den
theorem mV_pos (a : V3) : 0 < mV a := lcmD_pos (lcmD_pos (lcmD_pos (by decide) a.1.den_pos) a.2.1.den_pos) a.2.2.den_pos
theorem mV_1 (a : V3) : a.1.den ∣ mV a := Nat.dvd_trans (lcmD_r _ _) (Nat.dvd_trans (lcmD_l _ _) (lcmD_l _ _))
theorem mV_2 (a : V3) : a.2.1.den ∣ mV a := Nat.dvd_trans (lcmD_r _ _) (lcmD_l _ _)
theorem mV_3 (a : V3) : a.2.2.den ∣ mV a := lcmD_r _ _
def nV (a : V3) (x : Rat) : Int := x.num * ((mV a / x.den : Nat) : Int)
def gV (a : V3) : Nat := gcdL [nV a a.1, nV a a.2.1, nV a a.2.2]
def dV (a : V3) (x : Rat) : Int := primZ (gV a) (nV a x)
noncomputable def dirA (a : V3) : V3 := ((dV a a.1 : Int), (dV a a.2.1 : Int), (dV a a.2.2 : Int))
theorem num_den (x : Rat) : (x.num : Rat) = x * (x.den : Rat) := by
 rw [mul_mk, ← mk_int]
 show mkRat x.num 1 = mkRat (x.num * (x.den : Int)) (x.den * 1)
 have := Rat.mkRat_mul_right (n := x.num) (d := 1) (a := x.den) x.den_nz
 rw [Nat.mul_one, ← this, Nat.one_mul]
theorem nV_eq {a : V3} {x : Rat} (h : x.den ∣ mV a) : ((nV a x : Int) : Rat) = x * (mV a : Rat) := by
 unfold nV
 obtain ⟨c, hc⟩ := h
 have hd : mV a / x.den = c := by rw [hc]; exact Nat.mul_div_cancel_left c x.den_pos
 rw [hd, hc, Rat.intCast_mul, num_den x, Rat.natCast_mul, Rat.mul_assoc]
 rfl
theorem nat_nz {n : Nat} (h : n ≠ 0) : (n : Rat) ≠ 0 := fun e => h (by exact_mod_cast e)
theorem gV_zero (a : V3) : gV a = 0 ↔ a = v0 := by
 have hm := nat_nz (Nat.pos_iff_ne_zero.1 (mV_pos a))
 constructor
 · intro h
   have k : ∀ {x : Rat}, x.den ∣ mV a → nV a x = 0 → x = 0 := fun hd e => by
    have := nV_eq hd
    rw [e] at this
    rcases Rat.mul_eq_zero.1 this.symm with h | h
    · exact h
    · exact absurd h hm
   refine (v0_iff a).2 ⟨k (mV_1 a) (gcdL_zero h (by simp)), k (mV_2 a) (gcdL_zero h (by simp)), k (mV_3 a) (gcdL_zero h (by simp))⟩
 · rintro rfl
   decide +kernel
theorem dV_mul {a : V3} (h0 : a ≠ v0) {x : Rat} (hd : x.den ∣ mV a) (hx : nV a x ∈ [nV a a.1, nV a a.2.1, nV a a.2.2]) : ((dV a x : Int) : Rat) = ((mV a : Rat) / (gV a : Rat)) * x := by
 have hg : gV a ≠ 0 := fun e => h0 ((gV_zero a).1 e)
 have e : primZ (gV a) (nV a x) * (gV a : Int) = nV a x := primZ_mul hg (gcdL_dvd hx)
 have e2 : ((dV a x : Int) : Rat) * (gV a : Rat) = x * (mV a : Rat) := by
  rw [← nV_eq hd]
  have : ((primZ (gV a) (nV a x) * (gV a : Int) : Int) : Rat) = ((nV a x : Int) : Rat) := by rw [e]
  rw [Rat.intCast_mul] at this
  exact this
 have hg' := nat_nz hg
 generalize (gV a : Rat) = g at *
 generalize (mV a : Rat) = m at *
 generalize ((dV a x : Int) : Rat) = d at *
 rw [Rat.div_def]
 have h1 := Rat.mul_inv_cancel g hg'
 generalize g⁻¹ = i at *
 calc d = d * g * i := by rw [Rat.mul_assoc, h1, Rat.mul_one]
  _ = m * i * x := by rw [e2]; grind
theorem nat_pos' {n : Nat} (h : n ≠ 0) : (0 : Rat) < (n : Rat) := by
 have : 0 < n := Nat.pos_of_ne_zero h
 exact_mod_cast this
theorem dirA_sc {a : V3} (h : a ≠ v0) : ∃ k : Rat, 0 < k ∧ dirA a = vsc k a := by
 have hg : gV a ≠ 0 := fun e => h ((gV_zero a).1 e)
 refine ⟨(mV a : Rat) / (gV a : Rat), ?_, ?_⟩
 · rw [Rat.div_def]
   exact Rat.mul_pos (nat_pos' (Nat.pos_iff_ne_zero.1 (mV_pos a))) (Rat.inv_pos.2 (nat_pos' hg))
 · exact v3_ext (dV_mul h (mV_1 a) (by simp)) (dV_mul h (mV_2 a) (by simp)) (dV_mul h (mV_3 a) (by simp))
theorem dirA_zero : dirA v0 = v0 := by
 have e : ∀ x : Rat, x = 0 → dV v0 x = 0 := fun x hx => by subst hx; decide +kernel
 exact v3_ext (by show ((dV v0 0 : Int) : Rat) = 0; rw [e 0 rfl]; rfl) (by show ((dV v0 0 : Int) : Rat) = 0; rw [e 0 rfl]; rfl) (by show ((dV v0 0 : Int) : Rat) = 0; rw [e 0 rfl]; rfl)
theorem dirA_gcd {a : V3} (h : a ≠ v0) : gcdL [dV a a.1, dV a a.2.1, dV a a.2.2] = 1 := gcd_prim (l := [nV a a.1, nV a a.2.1, nV a a.2.2]) fun e => h ((gV_zero a).1 e)
theorem prim_one {x y z x' y' z' : Int} {k : Rat} (hk : 0 < k) (h : gcdL [x, y, z] = 1) (h' : gcdL [x', y', z'] = 1) (hx : (x : Rat) = k * x') (hy : (y : Rat) = k * y') (hz : (z : Rat) = k * z') : k = 1 := by
 have hd : ∀ {x x' : Int}, (x : Rat) = k * x' → x * k.den = k.num * x' := fun {x x'} h => by
  have e := num_den k
  have : ((x * k.den : Int) : Rat) = ((k.num * x' : Int) : Rat) := by
   rw [Rat.intCast_mul, Rat.intCast_mul, h, e]
   show k * x' * (k.den : Rat) = k * (k.den : Rat) * x'
   grind
  exact_mod_cast this
 have hn : ∀ {x x' : Int}, (x : Rat) = k * x' → x.natAbs * k.den = k.num.natAbs * x'.natAbs := fun h => by
  have := congrArg Int.natAbs (hd h)
  rw [Int.natAbs_mul, Int.natAbs_mul] at this
  exact this
 have hp : ∀ {x x' : Int}, (x : Rat) = k * x' → k.num.natAbs ∣ x.natAbs := fun h => Nat.Coprime.dvd_of_dvd_mul_right k.reduced ⟨_, hn h⟩
 have hq : ∀ {x x' : Int}, (x : Rat) = k * x' → k.den ∣ x'.natAbs := fun h => Nat.Coprime.dvd_of_dvd_mul_left k.reduced.symm ⟨_, (hn h).symm.trans (Nat.mul_comm _ _)⟩
 have p1 : k.num.natAbs = 1 := Nat.dvd_one.1 (h ▸ dvd_gcdL fun w hw => by
  simp only [List.mem_cons, List.not_mem_nil, or_false] at hw
  rcases hw with rfl | rfl | rfl
  · exact hp hx
  · exact hp hy
  · exact hp hz)
 have q1 : k.den = 1 := Nat.dvd_one.1 (h' ▸ dvd_gcdL fun w hw => by
  simp only [List.mem_cons, List.not_mem_nil, or_false] at hw
  rcases hw with rfl | rfl | rfl
  · exact hq hx
  · exact hq hy
  · exact hq hz)
 have hk0 : 0 < k.num := by
  have := (Rat.lt_iff 0 k).1 hk
  simpa using this
 have e := num_den k
 rw [q1] at e
 have : k.num = 1 := by omega
 rw [this] at e
 grind
theorem vsc_one (a : V3) : vsc 1 a = a := by unfold vsc; refine v3_ext ?_ ?_ ?_ <;> (simp only []; grind)
theorem vsc_z (a : V3) : vsc 0 a = v0 := by unfold vsc v0; refine v3_ext ?_ ?_ ?_ <;> (simp only []; grind)
theorem vsc_nz {k : Rat} {a : V3} (hk : k ≠ 0) (ha : a ≠ v0) : vsc k a ≠ v0 := fun e => ha (by
 have := (v0_iff _).1 e
 exact (v0_iff a).2 ⟨zero_of_mul hk this.1, zero_of_mul hk this.2.1, zero_of_mul hk this.2.2⟩)
theorem dir_uniq {a b : V3} (ha : a ≠ v0) (hb : b ≠ v0) {k : Rat} (hk : 0 < k) (h : dirA a = vsc k (dirA b)) : dirA a = dirA b := by
 have := prim_one hk (dirA_gcd ha) (dirA_gcd hb) (congrArg (·.1) h) (congrArg (·.2.1) h) (congrArg (·.2.2) h)
 rw [h, this, vsc_one]
theorem dir_pos {k : Rat} (hk : 0 < k) (a : V3) : dirA (vsc k a) = dirA a := by
 by_cases h : a = v0
 · subst h; rw [sc_v0]
 · have hn : vsc k a ≠ v0 := vsc_nz (by grind) h
   obtain ⟨i, hi, ei⟩ := dirA_sc hn
   obtain ⟨j, hj, ej⟩ := dirA_sc h
   refine dir_uniq hn h (k := i * k * j⁻¹) (Rat.mul_pos (Rat.mul_pos hi hk) (Rat.inv_pos.2 hj)) ?_
   rw [ei, ej, sc_sc, sc_sc]
   have h1 := Rat.mul_inv_cancel j (by grind)
   congr 1
   generalize j⁻¹ = l at *
   grind
theorem dir_idem (a : V3) : dirA (dirA a) = dirA a := by
 by_cases h : a = v0
 · subst h; rw [dirA_zero, dirA_zero]
 · obtain ⟨j, hj, ej⟩ := dirA_sc h
   rw [ej, dir_pos hj, ← ej]
theorem dir_v0 (a : V3) : dirA a = v0 ↔ a = v0 := by
 refine ⟨fun e => Classical.byContradiction fun h => ?_, fun e => by rw [e, dirA_zero]⟩
 obtain ⟨j, hj, ej⟩ := dirA_sc h
 exact vsc_nz (by grind) h (ej ▸ e)
theorem gcd3_neg (x y z : Int) : gcdL [-x, -y, -z] = gcdL [x, y, z] := by simp [gcdL, Int.natAbs_neg]
theorem dir_neg (a : V3) : dirA (vsc (-1) a) = vsc (-1) (dirA a) := by
 by_cases h : a = v0
 · subst h; rw [sc_v0, dirA_zero, sc_v0]
 · have hn : vsc (-1) a ≠ v0 := vsc_nz (by decide) h
   obtain ⟨i, hi, ei⟩ := dirA_sc hn
   obtain ⟨j, hj, ej⟩ := dirA_sc h
   have h1 := Rat.mul_inv_cancel j (by grind)
   have e : dirA (vsc (-1) a) = vsc (i * j⁻¹) (vsc (-1) (dirA a)) := by
    rw [ei, ej, sc_sc, sc_sc, sc_sc]
    congr 1
    generalize j⁻¹ = l at *
    grind
   have hk : 0 < i * j⁻¹ := Rat.mul_pos hi (Rat.inv_pos.2 hj)
   have hc : ∀ n : Int, ((-n : Int) : Rat) = (-1) * (n : Rat) := fun n => by rw [Rat.intCast_neg]; grind
   have := prim_one (x' := -dV a a.1) (y' := -dV a a.2.1) (z' := -dV a a.2.2) hk (dirA_gcd hn) (by rw [gcd3_neg]; exact dirA_gcd h) (by rw [hc]; exact congrArg (·.1) e) (by rw [hc]; exact congrArg (·.2.1) e) (by rw [hc]; exact congrArg (·.2.2) e)
   rw [e, this, vsc_one]
theorem dir_any (k : Rat) (a : V3) : dirA (vsc k a) = vsc ((cmpQ k 0 : Int) : Rat) (dirA a) := by
 rcases (show k < 0 ∨ k = 0 ∨ 0 < k by grind) with h | h | h
 · rw [show cmpQ k 0 = -1 from if_pos h]
   have : vsc k a = vsc (-k) (vsc (-1) a) := by rw [sc_sc]; congr 1; grind
   rw [this, dir_pos (by grind), dir_neg]; rfl
 · subst h
   rw [vsc_z, dirA_zero, show cmpQ 0 0 = 0 by decide +kernel]
   exact (vsc_z _).symm
 · rw [show cmpQ k 0 = 1 by unfold cmpQ; rw [if_neg (by grind), if_pos h], dir_pos h]
   exact (vsc_one _).symm
theorem dir_dot {a : V3} (h : a ≠ v0) : 0 < vdt a (dirA a) := by
 obtain ⟨j, hj, ej⟩ := dirA_sc h
 rw [ej, dt_sc]
 refine Rat.mul_pos hj ?_
 have hsq : ∀ x : Rat, 0 ≤ x * x := fun x => by
  rcases (Rat.le_total : 0 ≤ x ∨ x ≤ 0) with h | h
  · exact Rat.mul_nonneg h h
  · have := Rat.mul_nonneg (a := -x) (b := -x) (by grind) (by grind)
    grind
 have h1 := hsq a.1
 have h2 := hsq a.2.1
 have h3 := hsq a.2.2
 unfold vdt
 refine Classical.byContradiction fun hn => h ((v0_iff a).2 ?_)
 have e1 : a.1 * a.1 = 0 := by grind
 have e2 : a.2.1 * a.2.1 = 0 := by grind
 have e3 : a.2.2 * a.2.2 = 0 := by grind
 exact ⟨(Rat.mul_eq_zero.1 e1).elim id id, (Rat.mul_eq_zero.1 e2).elim id id, (Rat.mul_eq_zero.1 e3).elim id id⟩
theorem dir_cross (a : V3) : vcr a (dirA a) = v0 := by
 by_cases h : a = v0
 · subst h; exact cr_zl _
 · obtain ⟨j, hj, ej⟩ := dirA_sc h
   rw [ej]; exact cr_self j a
theorem dir_ok (a : V3) (h : a ≠ v0) : ∃ k, k ≠ 0 ∧ dirA a = vsc k a := by
 obtain ⟨j, hj, ej⟩ := dirA_sc h
 exact ⟨j, by grind, ej⟩
noncomputable def rkN (l : List V3) : Nat := stepR dirA l []
theorem rkN_ok (l : List V3) : Rk l (rkN l) := by
 have := rank_ok dir_ok l [] [] (by intro a ha; simp at ha)
 rwa [List.nil_append] at this
end Go.Proofs.YtbfapomdnocbaaaGreatDoor.AM
/- Directions. -/
namespace Go.Proofs.YtbfapomdnocbaaaGreatDoor.AM
set_option linter.all false
set_option autoImplicit true
set_option relaxedAutoImplicit true
open Go Go.Proofs
set_option maxRecDepth 100000
set_option maxHeartbeats 8000000
set_option linter.unusedSimpArgs false
variable {P : Program}
def wPrim3S : List AV → Option (Prop × AV)
 | [.imm 3 [.opq (.whole x), .pad, .pad, .opq (.whole y), .pad, .pad, .opq (.whole z), .pad, .pad]] => some (wl x ≤ 34359738368 ∧ wl y ≤ 34359738368 ∧ wl z ≤ 34359738368, .imm 3 [.opq (.whole (primZ (gcdL [x, y, z]) x)), .pad, .pad, .opq (.whole (primZ (gcdL [x, y, z]) y)), .pad, .pad, .opq (.whole (primZ (gcdL [x, y, z]) z)), .pad, .pad])
 | _ => none
theorem wPrim3S_ok (hP : PrgOk P) (args p r) (h : wPrim3S args = some (p, r)) (hp : p) : CSpec P 85 args r := by
 unfold wPrim3S at h
 split at h
 · rename_i x y z
   simp only [Option.some.injEq, Prod.mk.injEq] at h
   obtain ⟨rfl, rfl⟩ := h
   exact wPrim_spec hP [x, y, z] (show 3 ≤ _ by decide) (fun w hw => by
    rcases List.mem_cons.1 hw with rfl | hw
    · exact hp.1
    · rcases List.mem_cons.1 hw with rfl | hw
      · exact hp.2.1
      · rw [List.mem_singleton.1 hw]; exact hp.2.2)
 · simp at h
def dirC : List AV → Option (Prop × AV)
 | [.int .i64 i, .fref [.imm 3 [.opq (.whole x), .pad, .pad, .opq (.whole y), .pad, .pad, .opq (.whole z), .pad, .pad]]] => if i = 0 then some (True, (.agg [.opq (.frac ((x : Rat))), .pad, .pad, .pad, .pad])) else if i = 1 then some (True, (.agg [.opq (.frac ((y : Rat))), .pad, .pad, .pad, .pad])) else if i = 2 then some (True, (.agg [.opq (.frac ((z : Rat))), .pad, .pad, .pad, .pad])) else none
 | _ => none
theorem dirC_0 (x y z) : dirC [.int .i64 0, .fref [.imm 3 [.opq (.whole x), .pad, .pad, .opq (.whole y), .pad, .pad, .opq (.whole z), .pad, .pad]]] = some (True, (.agg [.opq (.frac ((x : Rat))), .pad, .pad, .pad, .pad])) := rfl
theorem dirC_1 (x y z) : dirC [.int .i64 1, .fref [.imm 3 [.opq (.whole x), .pad, .pad, .opq (.whole y), .pad, .pad, .opq (.whole z), .pad, .pad]]] = some (True, (.agg [.opq (.frac ((y : Rat))), .pad, .pad, .pad, .pad])) := rfl
theorem dirC_2 (x y z) : dirC [.int .i64 2, .fref [.imm 3 [.opq (.whole x), .pad, .pad, .opq (.whole y), .pad, .pad, .opq (.whole z), .pad, .pad]]] = some (True, (.agg [.opq (.frac ((z : Rat))), .pad, .pad, .pad, .pad])) := rfl
theorem dirC_ok (hP : PrgOk P) (args p r) (h : dirC args = some (p, r)) (hp : p) : CSpec P 86 args r := by
 have HE := Xt1_all hP TF hP.tF
 have n1 : (1 : Int).toNat = 1 := rfl
 have n2 : (2 : Int).toNat = 2 := rfl
 unfold dirC at h
 split at h
 · rename_i i x y z
   split at h
   · rename_i e; subst e
     simp only [Option.some.injEq, Prod.mk.injEq] at h
     obtain ⟨_, rfl⟩ := h
     refine CSpec_go (E := ⟨TF, Xt1⟩) (fn86 hP) HE hP.mix ?_
     simp only [go_sem, n1, n2]
     exact fin_z
   · split at h
     · rename_i e; subst e
       simp only [Option.some.injEq, Prod.mk.injEq] at h
       obtain ⟨_, rfl⟩ := h
       refine CSpec_go (E := ⟨TF, Xt1⟩) (fn86 hP) HE hP.mix ?_
       simp only [go_sem, n1, n2]
       exact fin_z
     · split at h
       · rename_i e; subst e
         simp only [Option.some.injEq, Prod.mk.injEq] at h
         obtain ⟨_, rfl⟩ := h
         refine CSpec_go (E := ⟨TF, Xt1⟩) (fn86 hP) HE hP.mix ?_
         simp only [go_sem, n1, n2]
         exact fin_z
       · simp at h
 · simp at h
attribute [go_sem] wPrim3S dirC_0 dirC_1 dirC_2
noncomputable def Yt0 : Nat → List AV → Option (Prop × AV) := addS (addS Xt1 85 wPrim3S) 86 dirC
theorem Yt0_all (hP : PrgOk P) (T) (hT : TyOk P T) : EnvOk P ⟨T, Yt0⟩ := (((Xt1_all hP T hT).add (wPrim3S_ok hP)).add (dirC_ok hP))
theorem Yt0_at (f a) : Yt0 f a = (addS (addS Xt1 85 wPrim3S) 86 dirC) f a := rfl
attribute [go_sem] Yt0_at
theorem rr_app (s : St) (x y ts) : readsR s (.call { callee := .builtin .append, args := #[x, y], argTypes := ts }) = ids (aev s x) ++ ids (aev s y) := by simp [readsR, reads, looks, Op.operands, Call.operands]
attribute [go_sem] rr_app
theorem gcd_ne {m d : Nat} (h : 0 < d) : (Nat.gcd m d = 0) = False := eq_false (by have := Nat.gcd_pos_of_pos_right m h; omega)
theorem vDir_spec (hP : PrgOk P) (a : V3) (ha : fV a 268435456) : CSpec P 40 [(.agg [.opq (.frac (a.1)), .pad, .pad, .pad, .pad, .opq (.frac (a.2.1)), .pad, .pad, .pad, .pad, .opq (.frac (a.2.2)), .pad, .pad, .pad, .pad])] (.agg [.opq (.frac (((dV a a.1 : Int) : Rat))), .pad, .pad, .pad, .pad, .opq (.frac (((dV a a.2.1 : Int) : Rat))), .pad, .pad, .pad, .pad, .opq (.frac (((dV a a.2.2 : Int) : Rat))), .pad, .pad, .pad, .pad]) := by
 have HE := Yt0_all hP TF hP.tF
 obtain ⟨x, y, z⟩ := a
 obtain ⟨h1, h2, h3⟩ := ha
 simp only [] at h1 h2 h3 ⊢
 have w1 : IntKind.i64.wrap (0 + 1) = 1 := rfl
 have w2 : IntKind.i64.wrap (1 + 1) = 2 := rfl
 have w3 : IntKind.i64.wrap (2 + 1) = 3 := rfl
 have n1 : (1 : Int).toNat = 1 := rfl
 have n2 : (2 : Int).toNat = 2 := rfl
 have le1 : ((0 : Int) ≤ 1) = True := eq_true (by decide)
 have le2 : ((0 : Int) ≤ 2) = True := eq_true (by decide)
 have b1 : blen 1 ≤ 68719476736 := by decide
 obtain ⟨m1, hm1⟩ : ∃ m, 1 * (x.den / Nat.gcd 1 x.den) = m := ⟨_, rfl⟩
 obtain ⟨m2, hm2⟩ : ∃ m, m1 * (y.den / Nat.gcd m1 y.den) = m := ⟨_, rfl⟩
 obtain ⟨m3, hm3⟩ : ∃ m, m2 * (z.den / Nat.gcd m2 z.den) = m := ⟨_, rfl⟩
 have hmV : mV (x, y, z) = m3 := by rw [← hm3, ← hm2, ← hm1]; rfl
 have d1 := fl_den h1
 have d2 := fl_den h2
 have d3 := fl_den h3
 have c1 : blen m1 ≤ 1 + 268435456 := by rw [← hm1]; exact lcmD_blen (show blen 1 ≤ 1 by decide) d1
 have c2 : blen m2 ≤ 1 + 268435456 + 268435456 := by rw [← hm2]; exact lcmD_blen c1 d2
 have c3 : blen m3 ≤ 1 + 268435456 + 268435456 + 268435456 := by rw [← hm3]; exact lcmD_blen c2 d3
 have lt : (1 + 268435456 + 268435456 + 268435456 : Nat) ≤ 34359738368 := by decide
 have e1 : blen x.den ≤ 34359738368 := by omega
 have e2 : blen y.den ≤ 34359738368 := by omega
 have e3 : blen z.den ≤ 34359738368 := by omega
 have f1 : blen x.den ≤ 68719476736 := by omega
 have f2 : blen y.den ≤ 68719476736 := by omega
 have f3 : blen z.den ≤ 68719476736 := by omega
 have k1 : blen m1 ≤ 68719476736 := by omega
 have k2 : blen m2 ≤ 68719476736 := by omega
 have k3 : blen m3 ≤ 68719476736 := by omega
 have g1 : blen (Nat.gcd 1 x.den) ≤ 68719476736 := gcd_blen b1 f1
 have g2 : blen (Nat.gcd m1 y.den) ≤ 68719476736 := gcd_blen k1 f2
 have g3 : blen (Nat.gcd m2 z.den) ≤ 68719476736 := gcd_blen k2 f3
 have z1 := gcd_ne (m := 1) x.den_pos
 have z2 := gcd_ne (m := m1) y.den_pos
 have z3 := gcd_ne (m := m2) z.den_pos
 have q1 : blen (x.den / Nat.gcd 1 x.den) ≤ 68719476736 := blen_le_of (Nat.div_le_self _ _) f1
 have q2 : blen (y.den / Nat.gcd m1 y.den) ≤ 68719476736 := blen_le_of (Nat.div_le_self _ _) f2
 have q3 : blen (z.den / Nat.gcd m2 z.den) ≤ 68719476736 := blen_le_of (Nat.div_le_self _ _) f3
 have o1 : (x.den = 0) = False := eq_false x.den_nz
 have o2 : (y.den = 0) = False := eq_false y.den_nz
 have o3 : (z.den = 0) = False := eq_false z.den_nz
 have r1 : blen (m3 / x.den) ≤ 34359738368 := blen_le_of (Nat.div_le_self _ _) (by omega)
 have r2 : blen (m3 / y.den) ≤ 34359738368 := blen_le_of (Nat.div_le_self _ _) (by omega)
 have r3 : blen (m3 / z.den) ≤ 34359738368 := blen_le_of (Nat.div_le_self _ _) (by omega)
 have s1 : wl x.num ≤ 34359738368 := Nat.le_trans (fl_num h1) (by decide)
 have s2 : wl y.num ≤ 34359738368 := Nat.le_trans (fl_num h2) (by decide)
 have s3 : wl z.num ≤ 34359738368 := Nat.le_trans (fl_num h3) (by decide)
 have t1 : wl ((m3 / x.den : Nat) : Int) ≤ 34359738368 := r1
 have t2 : wl ((m3 / y.den : Nat) : Int) ≤ 34359738368 := r2
 have t3 : wl ((m3 / z.den : Nat) : Int) ≤ 34359738368 := r3
 have u0 : ∀ d : Nat, wl ((m3 / d : Nat) : Int) ≤ 1 + 268435456 + 268435456 + 268435456 := fun d => blen_le_of (Nat.div_le_self _ _) c3
 have u1 : wl (x.num * ((m3 / x.den : Nat) : Int)) ≤ 34359738368 := Nat.le_trans (wl_mul (fl_num h1) (u0 _)) (by decide)
 have u2 : wl (y.num * ((m3 / y.den : Nat) : Int)) ≤ 34359738368 := Nat.le_trans (wl_mul (fl_num h2) (u0 _)) (by decide)
 have u3 : wl (z.num * ((m3 / z.den : Nat) : Int)) ≤ 34359738368 := Nat.le_trans (wl_mul (fl_num h3) (u0 _)) (by decide)
 unfold dV gV nV
 rw [hmV]
 simp only []
 refine CSpec_go (E := ⟨TF, Yt0⟩) (fn40 hP) HE hP.mix ?_
 simp only [go_sem, le1]
 refine trX_once HE hP.mix 62 150 (by kernel_rfl) ?_
 simp only [go_sem, w1, n1, le1, b1, e1, f1, g1, z1, q1, hm1]
 refine goX_once HE hP.mix 62 200 (by kernel_rfl) ?_
 simp only [go_sem, w2, n1, le1, e2, f2, k1, g2, z2, q2, hm2]
 refine goX_once HE hP.mix 62 250 (by kernel_rfl) ?_
 simp only [go_sem, w3, n2, le2, e3, f3, k2, g3, z3, q3, hm3]
 refine goX_once HE hP.mix 62 300 (by kernel_rfl) ?_
 simp only [go_sem]
 refine trX_once HE hP.mix 62 400 (by kernel_rfl) ?_
 have v1 : blen (m3 / x.den) ≤ 68719476736 := Nat.le_trans r1 (by decide)
 have v2 : blen (m3 / y.den) ≤ 68719476736 := Nat.le_trans r2 (by decide)
 have v3 : blen (m3 / z.den) ≤ 68719476736 := Nat.le_trans r3 (by decide)
 simp only [go_sem, v1, w1, e1, f1, k3, o1, r1, s1, t1, sg_f, ne_eq, not_false_eq_true, imp_self]
 refine goX_once HE hP.mix 62 500 (by kernel_rfl) ?_
 simp only [go_sem, v2, w2, n1, le1, e2, f2, k3, o2, r2, s2, t2, sg_f, ne_eq, not_false_eq_true, imp_self]
 refine ⟨by simp, ?_⟩
 refine goX_once HE hP.mix 62 600 (by kernel_rfl) ?_
 simp only [go_sem, v3, w3, n2, le2, e3, f3, k3, o3, r3, s3, t3, sg_f, ne_eq, not_false_eq_true, imp_self]
 refine ⟨by simp, ?_⟩
 refine goX_once HE hP.mix 62 700 (by kernel_rfl) ?_
 simp only [go_sem, u1, u2, u3]
 refine icX_vc (E := ⟨TF, Yt0⟩) (fn63 hP) HE hP.mix rfl rfl (Nat.le_of_ble_eq_true rfl) 100 ?_
 have w1 : IntKind.i64.wrap (0 + 1) = 1 := rfl
 have w2 : IntKind.i64.wrap (1 + 1) = 2 := rfl
 have w3 : IntKind.i64.wrap (2 + 1) = 3 := rfl
 have n1 : (1 : Int).toNat = 1 := rfl
 have n2 : (2 : Int).toNat = 2 := rfl
 simp only [go_sem]
 refine trX_once HE hP.mix 15 150 (by kernel_rfl) ?_
 simp only [go_sem, w1, le1]
 refine goX_once HE hP.mix 15 200 (by kernel_rfl) ?_
 simp only [go_sem, w2, n1, le1]
 try refine ⟨by decide, ?_⟩
 refine goX_once HE hP.mix 15 250 (by kernel_rfl) ?_
 simp only [go_sem, w3, n2, le1]
 try refine ⟨by decide, ?_⟩
 refine goX_once HE hP.mix 15 300 (by kernel_rfl) ?_
 simp only [go_sem]
 unfold finX
 simp only [go_sem]
 exact .refl _
noncomputable def vDirS : List AV → Option (Prop × AV) := onV1 fun a => (fV a 268435456, (.agg [.opq (.frac ((dirA a).1)), .pad, .pad, .pad, .pad, .opq (.frac ((dirA a).2.1)), .pad, .pad, .pad, .pad, .opq (.frac ((dirA a).2.2)), .pad, .pad, .pad, .pad]))
theorem vDirS_ok (hP : PrgOk P) (args p r) : vDirS args = some (p, r) → p → CSpec P 40 args r := onV1_ok (fun a h => by exact vDir_spec hP a h) args p r
end Go.Proofs.YtbfapomdnocbaaaGreatDoor.AM
/- The document's directions. -/
namespace Go.Proofs.YtbfapomdnocbaaaGreatDoor.AM
set_option linter.all false
set_option autoImplicit true
set_option relaxedAutoImplicit true
open Go Go.Proofs
set_option maxRecDepth 100000
set_option maxHeartbeats 8000000
set_option linter.unusedSimpArgs false
variable {P : Program}
theorem CvL.rgO (q : Rat) : CvL (rG q) [.opq (.rfrac q), .pad, .pad] := fun W φ w l hl => by
 have h1 : CvL [.bool (decide (q.num < 0)), (.opq (.rnat (q.num.natAbs))), (.opq (.rnat (q.den)))] [.opq (.rfrac q), .pad, .pad] := by simpa [Pay.open, Pay.width] using CvL.fold (.rfrac q) [] rfl
 have h2 : CvL (rG q) [.bool (decide (q.num < 0)), (.opq (.rnat (q.num.natAbs))), (.opq (.rnat (q.den)))] := CvL.cons rfl (CvL.rnatOut _ (CvL.rnatOut _ .nil))
 exact h1 _ _ _ _ (h2 _ _ _ _ hl)
theorem CvL.rgI (q : Rat) : CvL [.opq (.rfrac q), .pad, .pad] (rG q) := fun W φ w l hl => by
 have h1 : CvL [.opq (.rfrac q), .pad, .pad] [.bool (decide (q.num < 0)), (.opq (.rnat (q.num.natAbs))), (.opq (.rnat (q.den)))] := by simpa [Pay.open, Pay.width] using CvL.unfold (.rfrac q) []
 have h2 : CvL [.bool (decide (q.num < 0)), (.opq (.rnat (q.num.natAbs))), (.opq (.rnat (q.den)))] (rG q) := CvL.cons rfl (CvL.rnatIn _ (CvL.rnatIn _ .nil))
 exact h2 _ _ _ _ (h1 _ _ _ _ hl)
theorem CvL.rg3O (x y z : Rat) : CvL (rG x ++ rG y ++ rG z) [.opq (.rfrac (x)), .pad, .pad, .opq (.rfrac (y)), .pad, .pad, .opq (.rfrac (z)), .pad, .pad] := CvL.app (CvL.app (.rgO x) (.rgO y) rfl) (.rgO z) rfl
theorem CvL.rg3I (x y z : Rat) : CvL [.opq (.rfrac (x)), .pad, .pad, .opq (.rfrac (y)), .pad, .pad, .opq (.rfrac (z)), .pad, .pad] (rG x ++ rG y ++ rG z) := CvL.app (CvL.app (.rgI x) (.rgI y) rfl) (.rgI z) rfl
def rA (q : Rat) : List AV := [.bool (decide (q.num < 0)), (.opq (.rnat (q.num.natAbs))), (.opq (.rnat (q.den)))]
theorem CvL.raO (q : Rat) : CvL (rA q) [.opq (.rfrac q), .pad, .pad] := by simpa [Pay.open, Pay.width, rA] using CvL.fold (.rfrac q) [] rfl
theorem CvL.ra3O (x y z : Rat) : CvL (rA x ++ rA y ++ rA z) [.opq (.rfrac (x)), .pad, .pad, .opq (.rfrac (y)), .pad, .pad, .opq (.rfrac (z)), .pad, .pad] := CvL.app (CvL.app (.raO x) (.raO y) rfl) (.raO z) rfl
theorem dirG {a : V3} (hn : a ≠ v0) {x : Rat} (hd : x.den ∣ mV a) (hx : nV a x ∈ [nV a a.1, nV a a.2.1, nV a a.2.2]) : rA ((dV a x : Int) : Rat) = [.bool (decide (x.num < 0)), (.opq (.rnat (x.num.natAbs * (mV a / x.den) / gV a))), (.opq (.rnat (1)))] := by
 have hg : gV a ≠ 0 := fun e => hn ((gV_zero a).1 e)
 have hq : 0 < mV a / x.den := Nat.div_pos (Nat.le_of_dvd (mV_pos a) hd) x.den_pos
 have hab : (nV a x).natAbs = x.num.natAbs * (mV a / x.den) := by unfold nV; rw [Int.natAbs_mul]; rfl
 have hneg : decide (nV a x < 0) = decide (x.num < 0) := by
  unfold nV
  have : (0 : Int) < ((mV a / x.den : Nat) : Int) := by omega
  by_cases h : x.num < 0
  · rw [decide_eq_true h, decide_eq_true (Int.mul_neg_of_neg_of_pos h this)]
  · rw [decide_eq_false h, decide_eq_false (by have := Int.mul_nonneg (a := x.num) (by omega) (Int.le_of_lt this); omega)]
 have e : dV a x = sg (decide (x.num < 0)) (x.num.natAbs * (mV a / x.den) / gV a) := by
  unfold dV primZ; rw [if_neg hg, hneg, hab]
 have hl : decide (x.num < 0) = true → 0 < x.num.natAbs * (mV a / x.den) / gV a := fun h => by
  have h2 : gV a ∣ (nV a x).natAbs := gcdL_dvd hx
  have h3 := of_decide_eq_true h
  rw [hab] at h2
  exact Nat.div_pos (Nat.le_of_dvd (Nat.mul_pos (by omega) hq) h2) (Nat.pos_of_ne_zero hg)
 unfold rA
 rw [e]
 show [AV.bool (decide (sg _ _ < 0)), .opq (.rnat (sg _ _).natAbs), .opq (.rnat 1)] = _
 rw [sg_lt hl, sg_abs]
theorem rawRF_cells {m x y p q} (h : rawRF (.agg [.bool m, x, y]) = some (p, q)) (hp : p) : CvL [.bool m, x, y] [.opq (.rfrac q), .pad, .pad] := by
 rw [rawRF_raw] at h
 simp only [Option.bind_eq_some_iff, Option.map_eq_some_iff, Prod.exists, Prod.mk.injEq] at h
 obtain ⟨p1, n, h1, p2, d, h2, rfl, rfl⟩ := h
 obtain ⟨c1, c2, c3, c4, c5⟩ := hp
 rw [qlow_eq]
 have e := rG_mk c3 c4 c5
 have h3 : CvL [.bool m, x, y] (rG (mkRat (sg m n) d)) := by
  rw [e]
  exact CvL.cons rfl (rawR_cv h1 c1 (rawR_cv h2 c2 .nil))
 exact h3.trans (CvL.rgO _)
noncomputable def zeroG : List AV → Option (Prop × AV)
 | [.agg [.bool m, x, y, .bool m', x', y', .bool m2, x2, y2]] => (rawRF (.agg [.bool m, x, y])).bind fun a => (rawRF (.agg [.bool m', x', y'])).bind fun b => (rawRF (.agg [.bool m2, x2, y2])).map fun c => (a.1 ∧ b.1 ∧ c.1, .bool (decide (((a.2, b.2, c.2) : V3) = v0)))
 | _ => none
theorem zeroG_eq (m x y m' x' y' m2 x2 y2) : zeroG [.agg [.bool m, x, y, .bool m', x', y', .bool m2, x2, y2]] = (rawRF (.agg [.bool m, x, y])).bind fun a => (rawRF (.agg [.bool m', x', y'])).bind fun b => (rawRF (.agg [.bool m2, x2, y2])).map fun c => (a.1 ∧ b.1 ∧ c.1, .bool (decide (((a.2, b.2, c.2) : V3) = v0))) := rfl
theorem zeroG_ok (hP : PrgOk P) (args p r) (he : zeroG args = some (p, r)) (hp : p) : CSpec P 24 args r := by
 unfold zeroG at he
 split at he
 · rename_i m x y m' x' y' m2 x2 y2
   simp only [Option.bind_eq_some_iff, Option.map_eq_some_iff, Prod.exists, Prod.mk.injEq] at he
   obtain ⟨p1, a, h1, p2, b, h2, p3, c, h3, rfl, rfl⟩ := he
   refine (rvZero_spec hP (a, b, c)).cv (CvL.agg ?_ .nil)
   exact CvL.app (a := [.bool m, x, y, .bool m', x', y']) (CvL.app (a := [.bool m, x, y]) (rawRF_cells h1 hp.1) (rawRF_cells h2 hp.2.1) rfl) (rawRF_cells h3 hp.2.2) rfl
 · simp at he
attribute [go_sem] zeroG_eq
noncomputable def Yt1 : Nat → List AV → Option (Prop × AV) := addS Xt0 24 zeroG
theorem Yt1_all (hP : PrgOk P) (T) (hT : TyOk P T) : EnvOk P ⟨T, Yt1⟩ := ((Xt0_all hP T hT).add (zeroG_ok hP))
theorem Yt1_at (f a) : Yt1 f a = (addS Xt0 24 zeroG) f a := rfl
attribute [go_sem] Yt1_at
theorem rvDir_spec (hP : PrgOk P) (a : V3) (ha : fV a 268435456) : CSpec P 41 [(.agg [.opq (.rfrac (a.1)), .pad, .pad, .opq (.rfrac (a.2.1)), .pad, .pad, .opq (.rfrac (a.2.2)), .pad, .pad])] (.agg [.opq (.rfrac ((dirA a).1)), .pad, .pad, .opq (.rfrac ((dirA a).2.1)), .pad, .pad, .opq (.rfrac ((dirA a).2.2)), .pad, .pad]) := by
 have HE := Yt1_all hP TF hP.tF
 refine CSpec.cv ?_ (CvL.agg (CvL.rg3I _ _ _) .nil)
 obtain ⟨x, y, z⟩ := a
 obtain ⟨h1, h2, h3⟩ := ha
 simp only [] at h1 h2 h3 ⊢
 by_cases h0 : ((x, y, z) : V3) = v0
 · rw [h0, dirA_zero, ← h0]
   refine CSpec.conv ?_ (CvL.conv (.agg (CvL.rg3O _ _ _) .nil))
   have hz := decide_eq_true h0
   show CSpec P 41 [.agg [.bool (decide (x.num < 0)), (.imm (digs 65536 (x.num.natAbs)).length (List.map (fun d : Nat => AV.int .u32 (d : Int)) (digs 65536 (x.num.natAbs)))), (.imm (digs 65536 (x.den)).length (List.map (fun d : Nat => AV.int .u32 (d : Int)) (digs 65536 (x.den)))), .bool (decide (y.num < 0)), (.imm (digs 65536 (y.num.natAbs)).length (List.map (fun d : Nat => AV.int .u32 (d : Int)) (digs 65536 (y.num.natAbs)))), (.imm (digs 65536 (y.den)).length (List.map (fun d : Nat => AV.int .u32 (d : Int)) (digs 65536 (y.den)))), .bool (decide (z.num < 0)), (.imm (digs 65536 (z.num.natAbs)).length (List.map (fun d : Nat => AV.int .u32 (d : Int)) (digs 65536 (z.num.natAbs)))), (.imm (digs 65536 (z.den)).length (List.map (fun d : Nat => AV.int .u32 (d : Int)) (digs 65536 (z.den))))]] (.agg [.bool (decide (x.num < 0)), (.imm (digs 65536 (x.num.natAbs)).length (List.map (fun d : Nat => AV.int .u32 (d : Int)) (digs 65536 (x.num.natAbs)))), (.imm (digs 65536 (x.den)).length (List.map (fun d : Nat => AV.int .u32 (d : Int)) (digs 65536 (x.den)))), .bool (decide (y.num < 0)), (.imm (digs 65536 (y.num.natAbs)).length (List.map (fun d : Nat => AV.int .u32 (d : Int)) (digs 65536 (y.num.natAbs)))), (.imm (digs 65536 (y.den)).length (List.map (fun d : Nat => AV.int .u32 (d : Int)) (digs 65536 (y.den)))), .bool (decide (z.num < 0)), (.imm (digs 65536 (z.num.natAbs)).length (List.map (fun d : Nat => AV.int .u32 (d : Int)) (digs 65536 (z.num.natAbs)))), (.imm (digs 65536 (z.den)).length (List.map (fun d : Nat => AV.int .u32 (d : Int)) (digs 65536 (z.den))))])
   refine CSpec_go (E := ⟨TF, Yt1⟩) (fn41 hP) HE hP.mix ?_
   simp only [go_sem, rawRF_G, hz]
   exact .refl _
 refine CSpec.conv ?_ (CvL.conv (.agg (CvL.ra3O _ _ _) .nil))
 have hz := decide_eq_false h0
 have hx := dirG h0 (mV_1 (x, y, z)) (by simp)
 have hy := dirG h0 (mV_2 (x, y, z)) (by simp)
 have hw := dirG h0 (mV_3 (x, y, z)) (by simp)
 simp only [] at hx hy hw
 have hG : rA (dirA (x, y, z)).1 ++ rA (dirA (x, y, z)).2.1 ++ rA (dirA (x, y, z)).2.2 = [.bool (decide (x.num < 0)), (.opq (.rnat (x.num.natAbs * (mV (x, y, z) / x.den) / gV (x, y, z)))), (.opq (.rnat (1))), .bool (decide (y.num < 0)), (.opq (.rnat (y.num.natAbs * (mV (x, y, z) / y.den) / gV (x, y, z)))), (.opq (.rnat (1))), .bool (decide (z.num < 0)), (.opq (.rnat (z.num.natAbs * (mV (x, y, z) / z.den) / gV (x, y, z)))), (.opq (.rnat (1)))] := by
  unfold dirA
  simp only []
  rw [hx, hy, hw]; rfl
 rw [hG]
 have hg0 : 0 < gV (x, y, z) := Nat.pos_of_ne_zero fun e => h0 ((gV_zero _).1 e)
 have hgV : gV (x, y, z) = Nat.gcd (Nat.gcd (Nat.gcd 0 (x.num.natAbs * (mV (x, y, z) / x.den))) (y.num.natAbs * (mV (x, y, z) / y.den))) (z.num.natAbs * (mV (x, y, z) / z.den)) := by
  unfold gV gcdL nV
  simp only [List.foldl_cons, List.foldl_nil, Int.natAbs_mul]; rfl
 have w1 : IntKind.i64.wrap (0 + 1) = 1 := rfl
 have w2 : IntKind.i64.wrap (1 + 1) = 2 := rfl
 have w3 : IntKind.i64.wrap (2 + 1) = 3 := rfl
 have n1 : (1 : Int).toNat = 1 := rfl
 have n2 : (2 : Int).toNat = 2 := rfl
 have le1 : ((0 : Int) ≤ 1) = True := eq_true (by decide)
 have le2 : ((0 : Int) ≤ 2) = True := eq_true (by decide)
 obtain ⟨m1, hm1⟩ : ∃ m, 1 * (x.den / Nat.gcd 1 x.den) = m := ⟨_, rfl⟩
 obtain ⟨m2, hm2⟩ : ∃ m, m1 * (y.den / Nat.gcd m1 y.den) = m := ⟨_, rfl⟩
 obtain ⟨m3, hm3⟩ : ∃ m, m2 * (z.den / Nat.gcd m2 z.den) = m := ⟨_, rfl⟩
 have hmV : mV (x, y, z) = m3 := by rw [← hm3, ← hm2, ← hm1]; rfl
 rw [hmV] at hgV ⊢
 have d1 := fl_den h1
 have d2 := fl_den h2
 have d3 := fl_den h3
 have c1 : blen m1 ≤ 1 + 268435456 := by rw [← hm1]; exact lcmD_blen (show blen 1 ≤ 1 by decide) d1
 have c2 : blen m2 ≤ 1 + 268435456 + 268435456 := by rw [← hm2]; exact lcmD_blen c1 d2
 have c3 : blen m3 ≤ 1 + 268435456 + 268435456 + 268435456 := by rw [← hm3]; exact lcmD_blen c2 d3
 have b1 : blen 1 ≤ 68719476736 := by decide
 have b1' : blen 1 ≤ 34359738368 := by decide
 have b0 : blen 0 ≤ 34359738368 := by decide
 have e1 : blen x.den ≤ 34359738368 := by omega
 have e2 : blen y.den ≤ 34359738368 := by omega
 have e3 : blen z.den ≤ 34359738368 := by omega
 have f1 : blen x.den ≤ 68719476736 := by omega
 have f2 : blen y.den ≤ 68719476736 := by omega
 have f3 : blen z.den ≤ 68719476736 := by omega
 have k1 : blen m1 ≤ 68719476736 := by omega
 have k2 : blen m2 ≤ 68719476736 := by omega
 have k3 : blen m3 ≤ 68719476736 := by omega
 have l1 : blen m1 ≤ 34359738368 := by omega
 have l2 : blen m2 ≤ 34359738368 := by omega
 have g1 : blen (Nat.gcd 1 x.den) ≤ 34359738368 := gcd_blen b1' e1
 have g2 : blen (Nat.gcd m1 y.den) ≤ 34359738368 := gcd_blen l1 e2
 have g3 : blen (Nat.gcd m2 z.den) ≤ 34359738368 := gcd_blen l2 e3
 have z1 : (0 < Nat.gcd 1 x.den) = True := eq_true (Nat.gcd_pos_of_pos_right _ x.den_pos)
 have z2 : (0 < Nat.gcd m1 y.den) = True := eq_true (Nat.gcd_pos_of_pos_right _ y.den_pos)
 have z3 : (0 < Nat.gcd m2 z.den) = True := eq_true (Nat.gcd_pos_of_pos_right _ z.den_pos)
 have q1 : blen (x.den / Nat.gcd 1 x.den) ≤ 68719476736 := blen_le_of (Nat.div_le_self _ _) f1
 have q2 : blen (y.den / Nat.gcd m1 y.den) ≤ 68719476736 := blen_le_of (Nat.div_le_self _ _) f2
 have q3 : blen (z.den / Nat.gcd m2 z.den) ≤ 68719476736 := blen_le_of (Nat.div_le_self _ _) f3
 have o1 : (0 < x.den) = True := eq_true x.den_pos
 have o2 : (0 < y.den) = True := eq_true y.den_pos
 have o3 : (0 < z.den) = True := eq_true z.den_pos
 have r1 : blen (m3 / x.den) ≤ 68719476736 := blen_le_of (Nat.div_le_self _ _) k3
 have r2 : blen (m3 / y.den) ≤ 68719476736 := blen_le_of (Nat.div_le_self _ _) k3
 have r3 : blen (m3 / z.den) ≤ 68719476736 := blen_le_of (Nat.div_le_self _ _) k3
 have s1 : blen x.num.natAbs ≤ 68719476736 := Nat.le_trans (fl_num h1) (by decide)
 have s2 : blen y.num.natAbs ≤ 68719476736 := Nat.le_trans (fl_num h2) (by decide)
 have s3 : blen z.num.natAbs ≤ 68719476736 := Nat.le_trans (fl_num h3) (by decide)
 have u0 : ∀ d : Nat, blen (m3 / d) ≤ 1 + 268435456 + 268435456 + 268435456 := fun d => blen_le_of (Nat.div_le_self _ _) c3
 obtain ⟨N1, hN1⟩ : ∃ m, x.num.natAbs * (m3 / x.den) = m := ⟨_, rfl⟩
 obtain ⟨N2, hN2⟩ : ∃ m, y.num.natAbs * (m3 / y.den) = m := ⟨_, rfl⟩
 obtain ⟨N3, hN3⟩ : ∃ m, z.num.natAbs * (m3 / z.den) = m := ⟨_, rfl⟩
 have u1 : blen N1 ≤ 34359738368 := by rw [← hN1]; exact Nat.le_trans (blen_mul_le (fl_num h1) (u0 _)) (by decide)
 have u2 : blen N2 ≤ 34359738368 := by rw [← hN2]; exact Nat.le_trans (blen_mul_le (fl_num h2) (u0 _)) (by decide)
 have u3 : blen N3 ≤ 34359738368 := by rw [← hN3]; exact Nat.le_trans (blen_mul_le (fl_num h3) (u0 _)) (by decide)
 have t1 := Nat.le_trans u1 (show _ ≤ 68719476736 by decide)
 have t2 := Nat.le_trans u2 (show _ ≤ 68719476736 by decide)
 have t3 := Nat.le_trans u3 (show _ ≤ 68719476736 by decide)
 rw [hN1, hN2, hN3] at hgV ⊢
 obtain ⟨G1, hG1⟩ : ∃ g, Nat.gcd 0 N1 = g := ⟨_, rfl⟩
 obtain ⟨G2, hG2⟩ : ∃ g, Nat.gcd G1 N2 = g := ⟨_, rfl⟩
 obtain ⟨G3, hG3⟩ : ∃ g, Nat.gcd G2 N3 = g := ⟨_, rfl⟩
 have v1 : blen G1 ≤ 34359738368 := by rw [← hG1]; exact gcd_blen b0 u1
 have v2 : blen G2 ≤ 34359738368 := by rw [← hG2]; exact gcd_blen v1 u2
 have v3 : blen G3 ≤ 34359738368 := by rw [← hG3]; exact gcd_blen v2 u3
 rw [hG1, hG2, hG3] at hgV
 rw [hgV] at hg0 ⊢
 show CSpec P 41 [.agg [.bool (decide (x.num < 0)), (.imm (digs 65536 (x.num.natAbs)).length (List.map (fun d : Nat => AV.int .u32 (d : Int)) (digs 65536 (x.num.natAbs)))), (.imm (digs 65536 (x.den)).length (List.map (fun d : Nat => AV.int .u32 (d : Int)) (digs 65536 (x.den)))), .bool (decide (y.num < 0)), (.imm (digs 65536 (y.num.natAbs)).length (List.map (fun d : Nat => AV.int .u32 (d : Int)) (digs 65536 (y.num.natAbs)))), (.imm (digs 65536 (y.den)).length (List.map (fun d : Nat => AV.int .u32 (d : Int)) (digs 65536 (y.den)))), .bool (decide (z.num < 0)), (.imm (digs 65536 (z.num.natAbs)).length (List.map (fun d : Nat => AV.int .u32 (d : Int)) (digs 65536 (z.num.natAbs)))), (.imm (digs 65536 (z.den)).length (List.map (fun d : Nat => AV.int .u32 (d : Int)) (digs 65536 (z.den))))]] _
 refine CSpec_go (E := ⟨TF, Yt1⟩) (fn41 hP) HE hP.mix ?_
 simp only [go_sem, rawRF_G, hz, le1]
 refine trX_once HE hP.mix 91 150 (by kernel_rfl) ?_
 simp only [go_sem, w1, n1, le1, b1, b1', e1, f1, g1, z1, q1, hm1]
 refine goX_once HE hP.mix 91 200 (by kernel_rfl) ?_
 simp only [go_sem, w2, n1, le1, e2, f2, k1, l1, g2, z2, q2, hm2]
 refine goX_once HE hP.mix 91 250 (by kernel_rfl) ?_
 simp only [go_sem, w3, n2, le2, e3, f3, k2, l2, g3, z3, q3, hm3]
 refine goX_once HE hP.mix 91 300 (by kernel_rfl) ?_
 simp only [go_sem]
 refine trX_once HE hP.mix 91 400 (by kernel_rfl) ?_
 simp only [go_sem, w1, e1, k3, o1, r1, s1, hN1, b0, u1, hG1]
 refine goX_once HE hP.mix 91 500 (by kernel_rfl) ?_
 simp only [go_sem, w2, n1, le1, e2, k3, o2, r2, s2, hN2, v1, u2, hG2]
 refine goX_once HE hP.mix 91 600 (by kernel_rfl) ?_
 simp only [go_sem, w3, n2, le2, e3, k3, o3, r3, s3, hN3, v2, u3, hG3]
 refine goX_once HE hP.mix 91 700 (by kernel_rfl) ?_
 have bi : ((-9223372036854775808 : Int) ≤ 0 ∧ (0 : Int) ≤ 9223372036854775807) = True := eq_true (by decide)
 simp only [go_sem, bi]
 refine trX_once HE hP.mix 91 800 (by kernel_rfl) ?_
 simp only [go_sem, w1, n1, le1, t1, v3, hg0]
 refine goX_once HE hP.mix 91 900 (by kernel_rfl) ?_
 simp only [go_sem, w2, n1, le1, t2, v3, hg0]
 refine goX_once HE hP.mix 91 1000 (by kernel_rfl) ?_
 simp only [go_sem, w3, n2, le1, le2, t3, v3, hg0]
 refine goX_once HE hP.mix 91 1100 (by kernel_rfl) ?_
 simp only [go_sem]
 exact .refl _
noncomputable def rvDirS : List AV → Option (Prop × AV) := onX1 fun a => (fV a 268435456, (.agg [.opq (.rfrac ((dirA a).1)), .pad, .pad, .opq (.rfrac ((dirA a).2.1)), .pad, .pad, .opq (.rfrac ((dirA a).2.2)), .pad, .pad]))
theorem rvDirS_ok (hP : PrgOk P) (args p r) : rvDirS args = some (p, r) → p → CSpec P 41 args r := onX1_ok (fun a h => by exact rvDir_spec hP a h) args p r
end Go.Proofs.YtbfapomdnocbaaaGreatDoor.AM
/- Ranks: package vec. -/
namespace Go.Proofs.YtbfapomdnocbaaaGreatDoor.AM
set_option linter.all false
set_option autoImplicit true
set_option relaxedAutoImplicit true
open Go Go.Proofs
set_option maxRecDepth 100000
set_option maxHeartbeats 8000000
set_option linter.unusedSimpArgs false
variable {P : Program}
attribute [go_sem] vDirS
noncomputable def Yt2 : Nat → List AV → Option (Prop × AV) := addS Xt1 40 vDirS
theorem Yt2_all (hP : PrgOk P) (T) (hT : TyOk P T) : EnvOk P ⟨T, Yt2⟩ := ((Xt1_all hP T hT).add (vDirS_ok hP))
theorem Yt2_at (f a) : Yt2 f a = (addS Xt1 40 vDirS) f a := rfl
attribute [go_sem] Yt2_at
def cV (a : V3) : List AV := [.opq (.frac (a.1)), .pad, .pad, .pad, .pad, .opq (.frac (a.2.1)), .pad, .pad, .pad, .pad, .opq (.frac (a.2.2)), .pad, .pad, .pad, .pad]
theorem fz_cV (a : V3) : ∀ x ∈ cV a, ∀ m j, fzC m j x ∧ fzV m j x = x := by
 intro x hx m j
 simp only [cV, List.mem_cons, List.not_mem_nil, or_false] at hx
 rcases hx with rfl | rfl | rfl | rfl | rfl | rfl | rfl | rfl | rfl | rfl | rfl | rfl | rfl | rfl | rfl <;> cases j <;> exact ⟨trivial, rfl⟩
instance : Wd cV 15 := ⟨fun _ => rfl, by decide, fun _ => rfl, fun _ => rfl, fun _ _ => rfl, fun m j z => (fz_flat (fz_cV z)).1 m j, fun m j z => (fz_flat (fz_cV z)).2 m j⟩
theorem cV_drop (a : V3) {p : Nat} (hp : p < 3) : ∃ t : List AV, List.drop (p * 5) ([.opq (.frac (a.1)), .pad, .pad, .pad, .pad, .opq (.frac (a.2.1)), .pad, .pad, .pad, .pad, .opq (.frac (a.2.2)), .pad, .pad, .pad, .pad] : List AV) = .opq (.frac (pick p a)) :: .pad :: .pad :: .pad :: .pad :: t ∧ AV.head (List.drop (p * 5) ([.opq (.frac a.2.1), .pad, .pad, .pad, .pad, .opq (.frac a.2.2), .pad, .pad, .pad, .pad] : List AV)) = true := by
 rcases (show p = 0 ∨ p = 1 ∨ p = 2 by omega) with rfl | rfl | rfl
 · exact ⟨_, rfl, rfl⟩
 · exact ⟨_, rfl, rfl⟩
 · exact ⟨_, rfl, rfl⟩
theorem red1_1 (r p a) : qsub (qmul (pick p r) a.1) (qmul (pick p a) r.1) = (red1 r p a).1 := by rw [qsub_eq, qmul_eq, qmul_eq]; rfl
theorem red1_2 (r p a) : qsub (qmul (pick p r) a.2.1) (qmul (pick p a) r.2.1) = (red1 r p a).2.1 := by rw [qsub_eq, qmul_eq, qmul_eq]; rfl
theorem red1_3 (r p a) : qsub (qmul (pick p r) a.2.2) (qmul (pick p a) r.2.2) = (red1 r p a).2.2 := by rw [qsub_eq, qmul_eq, qmul_eq]; rfl
theorem fV_mono {a : V3} {n m : Nat} (h : fV a n) (hm : n ≤ m) : fV a m := ⟨Nat.le_trans h.1 hm, Nat.le_trans h.2.1 hm, Nat.le_trans h.2.2 hm⟩
theorem fl_pick {a : V3} {n : Nat} (h : fV a n) (p : Nat) : fl (pick p a) ≤ n := by
 unfold pick; split
 · exact h.1
 · split
   · exact h.2.1
   · exact h.2.2
theorem red1_fV {r a : V3} {n m : Nat} (p : Nat) (hr : fV r n) (ha : fV a m) : fV (red1 r p a) (n + m + (m + n) + 1) := by
 have k1 := fl_pick hr p
 have k2 := fl_pick ha p
 unfold red1 vsb vsc
 exact ⟨fl_sub (fl_mul k1 ha.1) (fl_mul k2 hr.1), fl_sub (fl_mul k1 ha.2.1) (fl_mul k2 hr.2.1), fl_sub (fl_mul k1 ha.2.2) (fl_mul k2 hr.2.2)⟩
theorem dir_fV {a : V3} {n : Nat} (h : fV a n) : fV (dirA a) (n + (1 + n + n + n)) := by
 have hm : blen (mV a) ≤ 1 + n + n + n := lcmD_blen (lcmD_blen (lcmD_blen (show blen 1 ≤ 1 by decide) (fl_den h.1)) (fl_den h.2.1)) (fl_den h.2.2)
 have k : ∀ {x : Rat}, fl x ≤ n → fl ((dV a x : Int) : Rat) ≤ n + (1 + n + n + n) := fun {x} hx => by
  refine fl_int (Nat.le_trans (primZ_wl _ _) ?_) (by omega)
  unfold nV
  refine wl_mul (fl_num hx) ?_
  exact blen_le_of (Nat.div_le_self _ _) hm
 exact ⟨k h.1, k h.2.1, k h.2.2⟩
def okR : List (V3 × Nat) → Prop
 | [] => True
 | [(r, p)] => fV r 262145 ∧ p < 3
 | [(r, p), (s, q)] => fV r 262145 ∧ p < 3 ∧ fV s 2621457 ∧ q < 3
 | _ => False
def FR (l : List V3) : Nat × Nat × Nat × List (V3 × Nat) → St
 | (q, k, i, rows) => match rows with
   | [] => ⟨upd (upd (upd (upd (upd (upd (fun _ => .junk) 0 (.imm l.length (cl cV l))) 3 .nils) 4 .nils) 10 (.imm l.length (cl cV l))) 11 (.int .i64 (l.length : Int))) 12 (.int .i64 (i : Int)), fun _ => .unused, 68⟩
   | [(r, p)] => ⟨upd (upd (upd (upd (upd (upd (fun _ => .junk) 0 (.imm l.length (cl cV l))) 3 (.sl q 0 1 15)) 4 (.sl k 0 1 1)) 10 (.imm l.length (cl cV l))) 11 (.int .i64 (l.length : Int))) 12 (.int .i64 (i : Int)), upd (upd (fun _ => .unused) q (.live [.opq (.frac (r.1)), .pad, .pad, .pad, .pad, .opq (.frac (r.2.1)), .pad, .pad, .pad, .pad, .opq (.frac (r.2.2)), .pad, .pad, .pad, .pad])) k (.live [.int .i64 (p : Int)]), 68⟩
   | [(r, p), (s, p')] => ⟨upd (upd (upd (upd (upd (upd (fun _ => .junk) 0 (.imm l.length (cl cV l))) 3 (.sl q 0 2 15)) 4 (.sl k 0 2 1)) 10 (.imm l.length (cl cV l))) 11 (.int .i64 (l.length : Int))) 12 (.int .i64 (i : Int)), upd (upd (fun _ => .unused) q (.live ([.opq (.frac (r.1)), .pad, .pad, .pad, .pad, .opq (.frac (r.2.1)), .pad, .pad, .pad, .pad, .opq (.frac (r.2.2)), .pad, .pad, .pad, .pad] ++ [.opq (.frac (s.1)), .pad, .pad, .pad, .pad, .opq (.frac (s.2.1)), .pad, .pad, .pad, .pad, .opq (.frac (s.2.2)), .pad, .pad, .pad, .pad]))) k (.live [.int .i64 (p : Int), .int .i64 (p' : Int)]), 68⟩
   | _ => ⟨fun _ => .junk, fun _ => .unused, 68⟩
theorem stepR_none {l : List V3} {rows : List (V3 × Nat)} {a : V3} (h : nzP (redA rows a) = none) : stepR dirA (a :: l) rows = stepR dirA l rows := by
 conv => lhs; unfold stepR
 rw [h]
theorem stepR_some {l : List V3} {rows : List (V3 × Nat)} {a : V3} {p : Nat} (h : nzP (redA rows a) = some p) (hr : rows.length < 2) : stepR dirA (a :: l) rows = stepR dirA l (rows ++ [(dirA (redA rows a), p)]) := by
 conv => lhs; unfold stepR
 rw [h]
 exact if_neg (by omega)
theorem stepR_three {l : List V3} {rows : List (V3 × Nat)} {a : V3} {p : Nat} (h : nzP (redA rows a) = some p) (hr : rows.length = 2) : stepR dirA (a :: l) rows = 3 := by
 conv => lhs; unfold stepR
 rw [h]
 exact if_pos (by omega)
theorem ad_k (a k : Nat) : a + k + 1 = a + (k + 1) := rfl
theorem FR_0 (l q k i) : FR l (q, k, i, []) = ⟨upd (upd (upd (upd (upd (upd (fun _ => .junk) 0 (.imm l.length (cl cV l))) 3 .nils) 4 .nils) 10 (.imm l.length (cl cV l))) 11 (.int .i64 (l.length : Int))) 12 (.int .i64 (i : Int)), fun _ => .unused, 68⟩ := rfl
theorem FR_1 (l q k i r p) : FR l (q, k, i, [(r, p)]) = ⟨upd (upd (upd (upd (upd (upd (fun _ => .junk) 0 (.imm l.length (cl cV l))) 3 (.sl q 0 1 15)) 4 (.sl k 0 1 1)) 10 (.imm l.length (cl cV l))) 11 (.int .i64 (l.length : Int))) 12 (.int .i64 (i : Int)), upd (upd (fun _ => .unused) q (.live [.opq (.frac (r.1)), .pad, .pad, .pad, .pad, .opq (.frac (r.2.1)), .pad, .pad, .pad, .pad, .opq (.frac (r.2.2)), .pad, .pad, .pad, .pad])) k (.live [.int .i64 (p : Int)]), 68⟩ := rfl
theorem FR_2 (l q k i r p s p') : FR l (q, k, i, [(r, p), (s, p')]) = ⟨upd (upd (upd (upd (upd (upd (fun _ => .junk) 0 (.imm l.length (cl cV l))) 3 (.sl q 0 2 15)) 4 (.sl k 0 2 1)) 10 (.imm l.length (cl cV l))) 11 (.int .i64 (l.length : Int))) 12 (.int .i64 (i : Int)), upd (upd (fun _ => .unused) q (.live ([.opq (.frac (r.1)), .pad, .pad, .pad, .pad, .opq (.frac (r.2.1)), .pad, .pad, .pad, .pad, .opq (.frac (r.2.2)), .pad, .pad, .pad, .pad] ++ [.opq (.frac (s.1)), .pad, .pad, .pad, .pad, .opq (.frac (s.2.1)), .pad, .pad, .pad, .pad, .opq (.frac (s.2.2)), .pad, .pad, .pad, .pad]))) k (.live [.int .i64 (p : Int), .int .i64 (p' : Int)]), 68⟩ := rfl
theorem okR_1 {b : V3} {p : Nat} (h : fV b 65536) (hp : p < 3) : okR [(dirA b, p)] := ⟨fV_mono (dir_fV h) (by decide), hp⟩
theorem okR_2 {r b : V3} {p q : Nat} (hr : fV r 262145) (hp : p < 3) (h : fV b 655363) (hq : q < 3) : okR [(r, p), (dirA b, q)] := ⟨hr, hp, fV_mono (dir_fV h) (by decide), hq⟩
theorem nz_0 {b : V3} (h : ¬ b.1 = 0) : nzP b = some 0 := by unfold nzP; rw [if_pos h]
theorem nz_1 {b : V3} (h : b.1 = 0) (h' : ¬ b.2.1 = 0) : nzP b = some 1 := by unfold nzP; rw [if_neg (fun k => k h), if_pos h']
theorem nz_2 {b : V3} (h : b.1 = 0) (h' : b.2.1 = 0) (h2 : ¬ b.2.2 = 0) : nzP b = some 2 := by unfold nzP; rw [if_neg (fun k => k h), if_neg (fun k => k h'), if_pos h2]
theorem nz_3 {b : V3} (h : b.1 = 0) (h' : b.2.1 = 0) (h2 : b.2.2 = 0) : nzP b = none := by unfold nzP; rw [if_neg (fun k => k h), if_neg (fun k => k h'), if_neg (fun k => k h2)]
theorem vRank_spec (hP : PrgOk P) (l : List V3) (hl : l.length ≤ 1000000) (hb : ∀ a ∈ l, fV a 65536) : CSpec P 17 [.imm l.length (cl cV l)] (.int .i64 (rkN l : Nat)) := by
 have HE := Yt2_all hP TF hP.tF
 have hgo : groundL [.imm l.length (cl cV l)] = true := by simp only [groundL, onlyL, AV.only, cl_only, Bool.and_true]
 refine CSpec_vc (E := ⟨TF, Yt2⟩) (fn17 hP) HE hP.mix rfl hgo rfl (Nat.le_of_ble_eq_true rfl) ?_
 have hro : ∀ f, (AV.imm l.length (cl cV l)).only f = true := fun f => by simp only [AV.only, cl_only]
 have hget : ∀ i (h : i < l.length), ∃ a, l.drop i = a :: l.drop (i + 1) ∧ fV a 65536 ∧ (cl cV l).drop (i * 15) = [.opq (.frac (a.1)), .pad, .pad, .pad, .pad, .opq (.frac (a.2.1)), .pad, .pad, .pad, .pad, .opq (.frac (a.2.2)), .pad, .pad, .pad, .pad] ++ cl cV (l.drop (i + 1)) := fun i h => by
  refine ⟨l[i], List.drop_eq_getElem_cons h, hb _ (List.getElem_mem h), ?_⟩
  rw [cl_drop, List.drop_eq_getElem_cons h, cl_cons]; rfl
 have hlen : ∀ i, (cl cV (l.drop (i + 1))).length = (l.length - (i + 1)) * 15 := fun i => by rw [cl_len, List.length_drop]
 have hh : ∀ i, AV.head (cl cV (l.drop (i + 1))) = true := fun i => cl_head
 simp only [go_sem]
 refine trX_loopV HE hP.mix (fun x => match x.2.2.2 with | [] => [] | _ => [x.2.1, x.1]) (FR l) (fun x => x.1 < x.2.1 ∧ x.2.2.1 ≤ l.length ∧ okR x.2.2.2 ∧ stepR dirA (l.drop x.2.2.1) x.2.2.2 = rkN l) (fun x => l.length - x.2.2.1) (0, 1, 0, []) (fun x => x.2.1 + 1) (fun _ _ h => absurd rfl h) ?_ ⟨by decide, Nat.zero_le _, trivial, rfl⟩ 68 (by kernel_rfl) ?_
 · exact Kept.of rfl (by repeat (first | exact KT.nil | refine KT.upd rfl (by first | rfl | exact hro _) ?_)) (KM.p .nil)
 rintro ⟨q, k, i, rows⟩ ⟨hqk, hi, hrows, hst⟩
 simp only [] at hqk hi hrows hst
 match rows, hrows, hst with
 | [], hrows0, hst =>
   simp only [FR]
   by_cases h : i < l.length
   · obtain ⟨a, ha, hba, hd⟩ := hget i h
     have hl0 := hlen i
     have hh0 := hh i
     have h15 : i * 15 ≤ l.length * 15 := by omega
     rw [ha] at hst
     have hwi := wi_add1 i (by omega)
     have n1 : (1 : Int).toNat = 1 := rfl
     have n2 : (2 : Int).toNat = 2 := rfl
     have le1 : ((0 : Int) ≤ 1) = True := eq_true (by decide)
     have le2 : ((0 : Int) ≤ 2) = True := eq_true (by decide)
     have w1 : IntKind.i64.wrap (0 + 1) = 1 := rfl
     have w2 : IntKind.i64.wrap (1 + 1) = 2 := rfl
     have w3 : IntKind.i64.wrap (2 + 1) = 3 := rfl
     simp only [go_sem, h, hd, hl0, hh0, h15, cl_len]
     refine trX_once HE hP.mix 68 (k + 40) (by kernel_rfl) ?_
     simp only [go_sem]
     refine trX_once HE hP.mix 68 (k + 100) (by kernel_rfl) ?_
     have eb : redA [] a = a := rfl
     obtain ⟨a1, a2, a3⟩ := fV_mono hba (show _ ≤ 68719476736 by decide)
     have hb1 := fV_mono hba (show _ ≤ 268435456 by decide)
     have s1 := fl_num a1
     have s2 := fl_num a2
     have s3 := fl_num a3
     by_cases c1 : (a).1 = 0
     · have c1' := decide_eq_true c1
       simp only [go_sem, cmpQ_z, c1', w1, s1]
       refine goX_once HE hP.mix 68 (k + 200) (by kernel_rfl) ?_
       by_cases c2 : (a).2.1 = 0
       · have c2' := decide_eq_true c2
         simp only [go_sem, cmpQ_z, c2', n1, le1, w2, s2]
         refine goX_once HE hP.mix 68 (k + 300) (by kernel_rfl) ?_
         by_cases c3 : (a).2.2 = 0
         · have c3' := decide_eq_true c3
           simp only [go_sem, cmpQ_z, c3', n2, le2, w3, s3]
           refine goX_once HE hP.mix 68 (k + 400) (by kernel_rfl) ?_
           have hz := nz_3 c1 c2 c3
           simp only [go_sem, hwi]
           refine ⟨(q, k, i + 1, []), ?_, ⟨hqk, h, hrows0, (stepR_none (rows := []) (a := a) (by rw [eb]; exact hz)).symm.trans hst⟩, by show l.length - (i + 1) < l.length - i; omega⟩
           rw [FR_0]
           exact Kept.of rfl (by repeat (first | exact KT.nil | refine KT.upd rfl (by first | rfl | exact hro _ | simp [AV.only]) ?_)) (KM.p KMp.nil)
         · have c3' := decide_eq_false c3
           have hz := nz_2 c1 c2 c3
           simp only [go_sem, cmpQ_z, c3', n2, le2, w3, s3, hb1, hwi, ad_k]
           refine ⟨(k + 313, k + 317, i + 1, [(dirA a, 2)]), ?_, ⟨by show k + 313 < k + 317; omega, h, okR_1 hba (by decide), by have e := (stepR_some (rows := []) (a := a) (p := 2) (by rw [eb]; exact hz) (by simp)).symm.trans hst; rw [eb] at e; exact e⟩, by show l.length - (i + 1) < l.length - i; omega⟩
           rw [FR_1]
           exact Kept.of rfl (by repeat (first | exact KT.nil | refine KT.upd rfl (by first | rfl | exact hro _ | simp [AV.only]) ?_)) (by refine KM.p (KMp.upd ?_ ?_ (KMp.upd ?_ ?_ KMp.nil)) <;> first | rfl | simp [upd])
       · have c2' := decide_eq_false c2
         have hz := nz_1 c1 c2
         simp only [go_sem, cmpQ_z, c2', n1, le1, w2, s2, hb1, hwi, ad_k]
         refine ⟨(k + 213, k + 217, i + 1, [(dirA a, 1)]), ?_, ⟨by show k + 213 < k + 217; omega, h, okR_1 hba (by decide), by have e := (stepR_some (rows := []) (a := a) (p := 1) (by rw [eb]; exact hz) (by simp)).symm.trans hst; rw [eb] at e; exact e⟩, by show l.length - (i + 1) < l.length - i; omega⟩
         rw [FR_1]
         exact Kept.of rfl (by repeat (first | exact KT.nil | refine KT.upd rfl (by first | rfl | exact hro _ | simp [AV.only]) ?_)) (by refine KM.p (KMp.upd ?_ ?_ (KMp.upd ?_ ?_ KMp.nil)) <;> first | rfl | simp [upd])
     · have c1' := decide_eq_false c1
       have hz := nz_0 c1
       simp only [go_sem, cmpQ_z, c1', w1, s1, hb1, hwi, ad_k]
       refine ⟨(k + 113, k + 117, i + 1, [(dirA a, 0)]), ?_, ⟨by show k + 113 < k + 117; omega, h, okR_1 hba (by decide), by have e := (stepR_some (rows := []) (a := a) (p := 0) (by rw [eb]; exact hz) (by simp)).symm.trans hst; rw [eb] at e; exact e⟩, by show l.length - (i + 1) < l.length - i; omega⟩
       rw [FR_1]
       exact Kept.of rfl (by repeat (first | exact KT.nil | refine KT.upd rfl (by first | rfl | exact hro _ | simp [AV.only]) ?_)) (by refine KM.p (KMp.upd ?_ ?_ (KMp.upd ?_ ?_ KMp.nil)) <;> first | rfl | simp [upd])
   · have hi' : l.drop i = [] := List.drop_of_length_le (by omega)
     rw [hi'] at hst
     simp only [go_sem, h]
     rw [← hst]; exact .refl _
 | [(r, p)], hrows0, hst =>
   simp only [FR]
   have hrows1 := hrows0
   obtain ⟨hr, hp⟩ := hrows1
   have ne1 : ∀ j, (q == k + (j + 1)) = false := fun j => by simp; omega
   have ne2 : ∀ j, (k + (j + 1) == q) = false := fun j => by simp; omega
   have ne3 : (q == k) = false := by simp; omega
   have ne5 : ∀ j, (q = k + j) = False := fun j => eq_false (by omega)
   have ne4 : (k == q) = false := by simp; omega
   by_cases h : i < l.length
   · obtain ⟨a, ha, hba, hd⟩ := hget i h
     have hl0 := hlen i
     have hh0 := hh i
     have h15 : i * 15 ≤ l.length * 15 := by omega
     rw [ha] at hst
     have hwi := wi_add1 i (by omega)
     have n1 : (1 : Int).toNat = 1 := rfl
     have n2 : (2 : Int).toNat = 2 := rfl
     have le1 : ((0 : Int) ≤ 1) = True := eq_true (by decide)
     have le2 : ((0 : Int) ≤ 2) = True := eq_true (by decide)
     have w1 : IntKind.i64.wrap (0 + 1) = 1 := rfl
     have w2 : IntKind.i64.wrap (1 + 1) = 2 := rfl
     have w3 : IntKind.i64.wrap (2 + 1) = 3 := rfl
     obtain ⟨t1, dr1, dh1⟩ := cV_drop r hp
     obtain ⟨t2, dr2, dh2⟩ := cV_drop a hp
     simp only [go_sem, h, hd, hl0, hh0, h15, cl_len, ne1, ne2, ne3, ne4, ad_k]
     refine trX_once HE hP.mix 68 (k + 40) (by kernel_rfl) ?_
     have hp5 : p * 5 ≤ 10 := by omega
     have hpr := Nat.le_trans (fl_pick hr p) (show _ ≤ FB by decide)
     have hpa := Nat.le_trans (fl_pick hba p) (show _ ≤ FB by decide)
     obtain ⟨A1, A2, A3⟩ := fV_mono hba (show _ ≤ FB by decide)
     obtain ⟨R1, R2, R3⟩ := fV_mono hr (show _ ≤ FB by decide)
     have m1 : ∀ {x}, fl x ≤ 65536 → fl (qmul (pick p r) x) ≤ FB := fun hx => Nat.le_trans (fl_qmul (fl_pick hr p) hx) (by decide)
     have m2 : ∀ {x}, fl x ≤ 262145 → fl (qmul (pick p a) x) ≤ FB := fun hx => Nat.le_trans (fl_qmul (fl_pick hba p) hx) (by decide)
     simp only [go_sem, dr1, dh1, dr2, dh2, hp, hp5, hpr, hpa, A1, A2, A3, R1, R2, R3, m1 hba.1, m1 hba.2.1, m1 hba.2.2, m2 hr.1, m2 hr.2.1, m2 hr.2.2, red1_1, red1_2, red1_3, w1, ne1, ne2, ne3, ne4, ad_k]
     refine goX_once HE hP.mix 68 (k + 70) (by kernel_rfl) ?_
     have hbb := fV_mono (red1_fV p hr hba) (show _ ≤ 655363 by decide)
     have eb : redA [(r, p)] a = red1 r p a := rfl
     generalize red1 r p a = b at hbb eb ⊢
     simp only [go_sem, ne1, ne2, ne3, ne4, ad_k]
     refine trX_once HE hP.mix 68 (k + 100) (by kernel_rfl) ?_
     obtain ⟨a1, a2, a3⟩ := fV_mono hbb (show _ ≤ 68719476736 by decide)
     have hb1 := fV_mono hbb (show _ ≤ 268435456 by decide)
     have s1 := fl_num a1
     have s2 := fl_num a2
     have s3 := fl_num a3
     by_cases c1 : (b).1 = 0
     · have c1' := decide_eq_true c1
       simp only [go_sem, cmpQ_z, c1', w1, s1, ne1, ne2, ne3, ne4, ad_k]
       refine goX_once HE hP.mix 68 (k + 200) (by kernel_rfl) ?_
       by_cases c2 : (b).2.1 = 0
       · have c2' := decide_eq_true c2
         simp only [go_sem, cmpQ_z, c2', n1, le1, w2, s2, ne1, ne2, ne3, ne4, ad_k]
         refine goX_once HE hP.mix 68 (k + 300) (by kernel_rfl) ?_
         by_cases c3 : (b).2.2 = 0
         · have c3' := decide_eq_true c3
           simp only [go_sem, cmpQ_z, c3', n2, le2, w3, s3, ne1, ne2, ne3, ne4, ad_k]
           refine goX_once HE hP.mix 68 (k + 400) (by kernel_rfl) ?_
           have hz := nz_3 c1 c2 c3
           simp only [go_sem, hwi, ne1, ne2, ne3, ne4, ad_k]
           refine ⟨(q, k, i + 1, [(r, p)]), ?_, ⟨hqk, h, hrows0, (stepR_none (rows := [(r, p)]) (a := a) (by rw [eb]; exact hz)).symm.trans hst⟩, by show l.length - (i + 1) < l.length - i; omega⟩
           rw [FR_1]
           exact Kept.of rfl (by repeat (first | exact KT.nil | refine KT.upd rfl (by first | rfl | exact hro _ | simp [AV.only]) ?_)) (by refine KM.p (KMp.upd ?_ ?_ (KMp.upd ?_ ?_ KMp.nil)) <;> first | rfl | simp [upd, ne5, Nat.ne_of_lt hqk, Nat.ne_of_gt hqk])
         · have c3' := decide_eq_false c3
           have hz := nz_2 c1 c2 c3
           simp only [go_sem, cmpQ_z, c3', n2, le2, w3, s3, hb1, hwi, ad_k, ne1, ne2, ne3, ne4, ad_k]
           first | refine ⟨by simp [ne5], by simp [ne5], ?_⟩ | refine ⟨by simp [ne5], ?_⟩
           refine ⟨(k + 313, k + 317, i + 1, [(r, p), (dirA b, 2)]), ?_, ⟨by show k + 313 < k + 317; omega, h, okR_2 hr hp hbb (by decide), by have e := (stepR_some (rows := [(r, p)]) (a := a) (p := 2) (by rw [eb]; exact hz) (by simp)).symm.trans hst; rw [eb] at e; exact e⟩, by show l.length - (i + 1) < l.length - i; omega⟩
           rw [FR_2]
           exact Kept.of rfl (by repeat (first | exact KT.nil | refine KT.upd rfl (by first | rfl | exact hro _ | simp [AV.only]) ?_)) (by refine KM.p (KMp.upd ?_ ?_ (KMp.upd ?_ ?_ KMp.nil)) <;> first | rfl | simp [upd])
       · have c2' := decide_eq_false c2
         have hz := nz_1 c1 c2
         simp only [go_sem, cmpQ_z, c2', n1, le1, w2, s2, hb1, hwi, ad_k, ne1, ne2, ne3, ne4, ad_k]
         first | refine ⟨by simp [ne5], by simp [ne5], ?_⟩ | refine ⟨by simp [ne5], ?_⟩
         refine ⟨(k + 213, k + 217, i + 1, [(r, p), (dirA b, 1)]), ?_, ⟨by show k + 213 < k + 217; omega, h, okR_2 hr hp hbb (by decide), by have e := (stepR_some (rows := [(r, p)]) (a := a) (p := 1) (by rw [eb]; exact hz) (by simp)).symm.trans hst; rw [eb] at e; exact e⟩, by show l.length - (i + 1) < l.length - i; omega⟩
         rw [FR_2]
         exact Kept.of rfl (by repeat (first | exact KT.nil | refine KT.upd rfl (by first | rfl | exact hro _ | simp [AV.only]) ?_)) (by refine KM.p (KMp.upd ?_ ?_ (KMp.upd ?_ ?_ KMp.nil)) <;> first | rfl | simp [upd])
     · have c1' := decide_eq_false c1
       have hz := nz_0 c1
       simp only [go_sem, cmpQ_z, c1', w1, s1, hb1, hwi, ad_k, ne1, ne2, ne3, ne4, ad_k]
       first | refine ⟨by simp [ne5], by simp [ne5], ?_⟩ | refine ⟨by simp [ne5], ?_⟩
       refine ⟨(k + 113, k + 117, i + 1, [(r, p), (dirA b, 0)]), ?_, ⟨by show k + 113 < k + 117; omega, h, okR_2 hr hp hbb (by decide), by have e := (stepR_some (rows := [(r, p)]) (a := a) (p := 0) (by rw [eb]; exact hz) (by simp)).symm.trans hst; rw [eb] at e; exact e⟩, by show l.length - (i + 1) < l.length - i; omega⟩
       rw [FR_2]
       exact Kept.of rfl (by repeat (first | exact KT.nil | refine KT.upd rfl (by first | rfl | exact hro _ | simp [AV.only]) ?_)) (by refine KM.p (KMp.upd ?_ ?_ (KMp.upd ?_ ?_ KMp.nil)) <;> first | rfl | simp [upd])
   · have hi' : l.drop i = [] := List.drop_of_length_le (by omega)
     rw [hi'] at hst
     simp only [go_sem, h, ne1, ne2, ne3, ne4, ad_k]
     rw [← hst]; exact .refl _
 | [(r, p), (s, p')], hrows0, hst =>
   simp only [FR]
   have hrows1 := hrows0
   obtain ⟨hr, hp, hs, hp'⟩ := hrows1
   have ne1 : ∀ j, (q == k + (j + 1)) = false := fun j => by simp; omega
   have ne2 : ∀ j, (k + (j + 1) == q) = false := fun j => by simp; omega
   have ne3 : (q == k) = false := by simp; omega
   have ne5 : ∀ j, (q = k + j) = False := fun j => eq_false (by omega)
   have ne4 : (k == q) = false := by simp; omega
   by_cases h : i < l.length
   · obtain ⟨a, ha, hba, hd⟩ := hget i h
     have hl0 := hlen i
     have hh0 := hh i
     have h15 : i * 15 ≤ l.length * 15 := by omega
     rw [ha] at hst
     have hwi := wi_add1 i (by omega)
     have n1 : (1 : Int).toNat = 1 := rfl
     have n2 : (2 : Int).toNat = 2 := rfl
     have le1 : ((0 : Int) ≤ 1) = True := eq_true (by decide)
     have le2 : ((0 : Int) ≤ 2) = True := eq_true (by decide)
     have w1 : IntKind.i64.wrap (0 + 1) = 1 := rfl
     have w2 : IntKind.i64.wrap (1 + 1) = 2 := rfl
     have w3 : IntKind.i64.wrap (2 + 1) = 3 := rfl
     obtain ⟨t1, dr1, dh1⟩ := cV_drop r hp
     obtain ⟨t2, dr2, dh2⟩ := cV_drop a hp
     simp only [go_sem, h, hd, hl0, hh0, h15, cl_len, ne1, ne2, ne3, ne4, ad_k]
     refine trX_once HE hP.mix 68 (k + 40) (by kernel_rfl) ?_
     have hp5 : p * 5 ≤ 10 := by omega
     have hpr := Nat.le_trans (fl_pick hr p) (show _ ≤ FB by decide)
     have hpa := Nat.le_trans (fl_pick hba p) (show _ ≤ FB by decide)
     obtain ⟨A1, A2, A3⟩ := fV_mono hba (show _ ≤ FB by decide)
     obtain ⟨R1, R2, R3⟩ := fV_mono hr (show _ ≤ FB by decide)
     have m1 : ∀ {x}, fl x ≤ 65536 → fl (qmul (pick p r) x) ≤ FB := fun hx => Nat.le_trans (fl_qmul (fl_pick hr p) hx) (by decide)
     have m2 : ∀ {x}, fl x ≤ 262145 → fl (qmul (pick p a) x) ≤ FB := fun hx => Nat.le_trans (fl_qmul (fl_pick hba p) hx) (by decide)
     simp only [go_sem, dr1, dh1, dr2, dh2, hp, hp5, hpr, hpa, A1, A2, A3, R1, R2, R3, m1 hba.1, m1 hba.2.1, m1 hba.2.2, m2 hr.1, m2 hr.2.1, m2 hr.2.2, red1_1, red1_2, red1_3, w1, ne1, ne2, ne3, ne4, ad_k]
     refine goX_once HE hP.mix 68 (k + 70) (by kernel_rfl) ?_
     have hbc := fV_mono (red1_fV p hr hba) (show _ ≤ 655363 by decide)
     have ec : redA [(r, p), (s, p')] a = red1 s p' (red1 r p a) := rfl
     generalize red1 r p a = c at hbc ec ⊢
     obtain ⟨t3, dr3, dh3⟩ := cV_drop s hp'
     obtain ⟨t4, dr4, dh4⟩ := cV_drop c hp'
     have hp5' : p' * 5 ≤ 10 := by omega
     have hps := Nat.le_trans (fl_pick hs p') (show _ ≤ FB by decide)
     have hpc := Nat.le_trans (fl_pick hbc p') (show _ ≤ FB by decide)
     obtain ⟨C1, C2, C3⟩ := fV_mono hbc (show _ ≤ FB by decide)
     obtain ⟨S1, S2, S3⟩ := fV_mono hs (show _ ≤ FB by decide)
     have m3 : ∀ {x}, fl x ≤ 655363 → fl (qmul (pick p' s) x) ≤ FB := fun hx => Nat.le_trans (fl_qmul (fl_pick hs p') hx) (by decide)
     have m4 : ∀ {x}, fl x ≤ 2621457 → fl (qmul (pick p' c) x) ≤ FB := fun hx => Nat.le_trans (fl_qmul (fl_pick hbc p') hx) (by decide)
     simp only [go_sem, n1, le1, dr3, dh3, dr4, dh4, hp', hp5', hps, hpc, C1, C2, C3, S1, S2, S3, m3 hbc.1, m3 hbc.2.1, m3 hbc.2.2, m4 hs.1, m4 hs.2.1, m4 hs.2.2, red1_1, red1_2, red1_3, w2, ne1, ne2, ne3, ne4, ad_k]
     refine goX_once HE hP.mix 68 (k + 90) (by kernel_rfl) ?_
     have hbb := fV_mono (red1_fV p' hs hbc) (show _ ≤ 6553643 by decide)
     have eb : redA [(r, p), (s, p')] a = red1 s p' c := ec
     generalize red1 s p' c = b at hbb eb ⊢
     simp only [go_sem, ne1, ne2, ne3, ne4, ad_k]
     refine trX_once HE hP.mix 68 (k + 100) (by kernel_rfl) ?_
     obtain ⟨a1, a2, a3⟩ := fV_mono hbb (show _ ≤ 68719476736 by decide)
     have hb1 := fV_mono hbb (show _ ≤ 268435456 by decide)
     have s1 := fl_num a1
     have s2 := fl_num a2
     have s3 := fl_num a3
     by_cases c1 : (b).1 = 0
     · have c1' := decide_eq_true c1
       simp only [go_sem, cmpQ_z, c1', w1, s1, ne1, ne2, ne3, ne4, ad_k]
       refine goX_once HE hP.mix 68 (k + 200) (by kernel_rfl) ?_
       by_cases c2 : (b).2.1 = 0
       · have c2' := decide_eq_true c2
         simp only [go_sem, cmpQ_z, c2', n1, le1, w2, s2, ne1, ne2, ne3, ne4, ad_k]
         refine goX_once HE hP.mix 68 (k + 300) (by kernel_rfl) ?_
         by_cases c3 : (b).2.2 = 0
         · have c3' := decide_eq_true c3
           simp only [go_sem, cmpQ_z, c3', n2, le2, w3, s3, ne1, ne2, ne3, ne4, ad_k]
           refine goX_once HE hP.mix 68 (k + 400) (by kernel_rfl) ?_
           have hz := nz_3 c1 c2 c3
           simp only [go_sem, hwi, ne1, ne2, ne3, ne4, ad_k]
           refine ⟨(q, k, i + 1, [(r, p), (s, p')]), ?_, ⟨hqk, h, hrows0, (stepR_none (rows := [(r, p), (s, p')]) (a := a) (by rw [eb]; exact hz)).symm.trans hst⟩, by show l.length - (i + 1) < l.length - i; omega⟩
           rw [FR_2]
           exact Kept.of rfl (by repeat (first | exact KT.nil | refine KT.upd rfl (by first | rfl | exact hro _ | simp [AV.only]) ?_)) (by refine KM.p (KMp.upd ?_ ?_ (KMp.upd ?_ ?_ KMp.nil)) <;> first | rfl | simp [upd, ne5, Nat.ne_of_lt hqk, Nat.ne_of_gt hqk])
         · have c3' := decide_eq_false c3
           have hz := nz_2 c1 c2 c3
           simp only [go_sem, cmpQ_z, c3', n2, le2, w3, s3, hb1, hwi, ad_k, ne1, ne2, ne3, ne4, ad_k]
           refine ⟨by simp [ne5], ?_⟩
           rw [← hst, stepR_three (rows := [(r, p), (s, p')]) (a := a) (p := 2) (by rw [eb]; exact hz) rfl]; first | exact Conv.refl _ | exact ⟨by simp [ne5], Conv.refl _⟩
       · have c2' := decide_eq_false c2
         have hz := nz_1 c1 c2
         simp only [go_sem, cmpQ_z, c2', n1, le1, w2, s2, hb1, hwi, ad_k, ne1, ne2, ne3, ne4, ad_k]
         refine ⟨by simp [ne5], ?_⟩
         rw [← hst, stepR_three (rows := [(r, p), (s, p')]) (a := a) (p := 1) (by rw [eb]; exact hz) rfl]; first | exact Conv.refl _ | exact ⟨by simp [ne5], Conv.refl _⟩
     · have c1' := decide_eq_false c1
       have hz := nz_0 c1
       simp only [go_sem, cmpQ_z, c1', w1, s1, hb1, hwi, ad_k, ne1, ne2, ne3, ne4, ad_k]
       refine ⟨by simp [ne5], ?_⟩
       rw [← hst, stepR_three (rows := [(r, p), (s, p')]) (a := a) (p := 0) (by rw [eb]; exact hz) rfl]; first | exact Conv.refl _ | exact ⟨by simp [ne5], Conv.refl _⟩
   · have hi' : l.drop i = [] := List.drop_of_length_le (by omega)
     rw [hi'] at hst
     simp only [go_sem, h, ne1, ne2, ne3, ne4, ad_k]
     rw [← hst]; exact .refl _
 | _ :: _ :: _ :: _, hrows, _ => exact absurd hrows id
end Go.Proofs.YtbfapomdnocbaaaGreatDoor.AM
/- Ranks: the document's. -/
namespace Go.Proofs.YtbfapomdnocbaaaGreatDoor.AM
set_option linter.all false
set_option autoImplicit true
set_option relaxedAutoImplicit true
open Go Go.Proofs
set_option maxRecDepth 100000
set_option maxHeartbeats 8000000
set_option linter.unusedSimpArgs false
variable {P : Program}
theorem cr_swap (a b : V3) : vcr a b = vsc (-1) (vcr b a) := by unfold vsc vcr; refine v3_ext ?_ ?_ ?_ <;> (simp only []; grind)
theorem cr_swap0 {a b : V3} (h : vcr a b = v0) : vcr b a = v0 := by rw [cr_swap, h]; exact sc_v0 _
theorem cr_same (a : V3) : vcr a a = v0 := by unfold vcr v0; refine v3_ext ?_ ?_ ?_ <;> (simp only []; grind)
theorem dt_swap (a b : V3) : vdt a b = vdt b a := by unfold vdt; grind
theorem dt_zl (b : V3) : vdt v0 b = 0 := by unfold vdt v0; simp only []; grind
def J1 (l : List V3) (n : Nat) : Prop := n ≤ 2 ∧ (1 ≤ n → ∃ a ∈ l, a ≠ v0) ∧ (2 ≤ n → ∃ a ∈ l, ∃ b ∈ l, vcr a b ≠ v0)
def J2 (l p : List V3) (n : Nat) : Prop := (n = 0 → ∀ a ∈ p, a = v0) ∧ (n ≤ 1 → ∀ a ∈ p, ∀ b ∈ p, vcr a b = v0) ∧ ∀ a ∈ p, ∀ b ∈ p, vcr a b ≠ v0 → ∀ c ∈ l, vdt (vcr a b) c = 0
def J3 (l p : List V3) (a : V3) (n : Nat) : Prop := (n = 0 → a = v0) ∧ (n ≤ 1 → ∀ b ∈ p, vcr a b = v0) ∧ ∀ b ∈ p, vcr a b ≠ v0 → ∀ c ∈ l, vdt (vcr a b) c = 0
theorem J_end {l : List V3} {n : Nat} (h1 : J1 l n) (h2 : J2 l l n) : Rk l n := by
 obtain ⟨a1, a2, a3⟩ := h1
 obtain ⟨b1, b2, b3⟩ := h2
 rcases (show n = 0 ∨ n = 1 ∨ n = 2 by omega) with rfl | rfl | rfl
 · exact .inl ⟨rfl, b1 rfl⟩
 · exact .inr (.inl ⟨rfl, a2 (by decide), b2 (by decide)⟩)
 · refine .inr (.inr (.inl ⟨rfl, a3 (by decide), fun a ha b hb c hc => ?_⟩))
   unfold vdet
   by_cases h : vcr b c = v0
   · rw [h, dt_swap]; exact dt_zl a
   · rw [dt_swap]; exact b3 b hb c hc h a ha
theorem J2_nil (l n) : J2 l [] n := ⟨fun _ _ h => by simp at h, fun _ _ h => by simp at h, fun _ h => by simp at h⟩
theorem J2_up {l p : List V3} {n m : Nat} (hm : n ≤ m) (h : J2 l p n) : J2 l p m := ⟨fun e => h.1 (by omega), fun e => h.2.1 (by omega), h.2.2⟩
theorem J2_snoc {l p : List V3} {a : V3} {n : Nat} (h : J2 l p n) (k : J3 l p a n) : J2 l (p ++ [a]) n := by
 obtain ⟨h1, h2, h3⟩ := h
 obtain ⟨k1, k2, k3⟩ := k
 have neg : ∀ x : V3, ∀ c, vdt (vcr a x) c = 0 → vdt (vcr x a) c = 0 := fun x c e => by
  rw [cr_swap, dt_swap, dt_sc, dt_swap, e, Rat.mul_zero]
 refine ⟨fun e x hx => ?_, fun e x hx y hy => ?_, fun x hx y hy hn c hc => ?_⟩
 · rcases List.mem_append.1 hx with hx | hx
   · exact h1 e x hx
   · rw [List.mem_singleton.1 hx]; exact k1 e
 · rcases List.mem_append.1 hx with hx | hx
   · rcases List.mem_append.1 hy with hy | hy
     · exact h2 e x hx y hy
     · rw [List.mem_singleton.1 hy]; exact cr_swap0 (k2 e x hx)
   · rw [List.mem_singleton.1 hx]
     rcases List.mem_append.1 hy with hy | hy
     · exact k2 e y hy
     · rw [List.mem_singleton.1 hy]; exact cr_same a
 · rcases List.mem_append.1 hx with hx | hx
   · rcases List.mem_append.1 hy with hy | hy
     · exact h3 x hx y hy hn c hc
     · rw [List.mem_singleton.1 hy] at hn ⊢
       exact neg x c (k3 x hx (fun e => hn (cr_swap0 e)) c hc)
   · rw [List.mem_singleton.1 hx] at hn ⊢
     rcases List.mem_append.1 hy with hy | hy
     · exact k3 y hy hn c hc
     · rw [List.mem_singleton.1 hy] at hn ⊢
       exact absurd (cr_same a) hn
theorem J3_nil {l : List V3} {a : V3} {n : Nat} (h : n = 0 → a = v0) : J3 l [] a n := ⟨h, fun _ _ h => by simp at h, fun _ h => by simp at h⟩
theorem J3_zero {l p : List V3} {a b : V3} {n : Nat} (h : J3 l p a n) (hb : vcr a b = v0) : J3 l (p ++ [b]) a n := by
 obtain ⟨h1, h2, h3⟩ := h
 refine ⟨h1, fun e x hx => ?_, fun x hx hn => ?_⟩
 · rcases List.mem_append.1 hx with hx | hx
   · exact h2 e x hx
   · rw [List.mem_singleton.1 hx]; exact hb
 · rcases List.mem_append.1 hx with hx | hx
   · exact h3 x hx hn
   · rw [List.mem_singleton.1 hx] at hn; exact absurd hb hn
theorem J3_two {l p : List V3} {a b : V3} {n : Nat} (h : J3 l p a n) (hb : ∀ c ∈ l, vdt (vcr a b) c = 0) : J3 l (p ++ [b]) a 2 := by
 obtain ⟨h1, h2, h3⟩ := h
 refine ⟨fun e => by omega, fun e => by omega, fun x hx hn => ?_⟩
 rcases List.mem_append.1 hx with hx | hx
 · exact h3 x hx hn
 · rw [List.mem_singleton.1 hx]; exact hb
def cW (a : V3) : List AV := [.opq (.rfrac (a.1)), .pad, .pad, .opq (.rfrac (a.2.1)), .pad, .pad, .opq (.rfrac (a.2.2)), .pad, .pad]
theorem fz_cW (a : V3) : ∀ x ∈ cW a, ∀ m j, fzC m j x ∧ fzV m j x = x := by
 intro x hx m j
 simp only [cW, List.mem_cons, List.not_mem_nil, or_false] at hx
 rcases hx with rfl | rfl | rfl | rfl | rfl | rfl | rfl | rfl | rfl <;> cases j <;> exact ⟨trivial, rfl⟩
instance : Wd cW 9 := ⟨fun _ => rfl, by decide, fun _ => rfl, fun _ => rfl, fun _ _ => rfl, fun m j z => (fz_flat (fz_cW z)).1 m j, fun m j z => (fz_flat (fz_cW z)).2 m j⟩
theorem vcq_vcr (a b : V3) : vcq a b = vcr a b := by unfold vcq vcr; simp only [qsub_eq, qmul_eq]
theorem qdt_vdt (a b : V3) : qdt a b = vdt a b := by unfold qdt vdt; simp only [qadd_eq, qmul_eq]
theorem mx1 (n : Nat) : (if n < 1 then (1 : Int) else (n : Int)) = ((max n 1 : Nat) : Int) := by split <;> omega
theorem mx2 {n : Nat} (h : n ≤ 2) : (if n < 2 then (2 : Int) else (n : Int)) = ((2 : Nat) : Int) := by split <;> omega
theorem J1_up {l : List V3} {a : V3} {n : Nat} (ha : a ∈ l) (hz : a ≠ v0) (h : J1 l n) : J1 l (max n 1) := by
 obtain ⟨h1, h2, h3⟩ := h
 exact ⟨by omega, fun _ => ⟨a, ha, hz⟩, fun e => h3 (by omega)⟩
theorem J1_two {l : List V3} {a b : V3} (ha : a ∈ l) (hb : b ∈ l) (h : vcr a b ≠ v0) : J1 l 2 := ⟨by decide, fun _ => ⟨a, ha, cr_nz h⟩, fun _ => ⟨a, ha, b, hb, h⟩⟩
theorem rvRank_spec (hP : PrgOk P) (l : List V3) (hl : l.length ≤ 1000000) (hb : ∀ a ∈ l, fV a 65536) : CSpec P 43 [.imm l.length (cl cW l)] (.int .i64 (rkN l : Nat)) := by
 have HE := Xt1_all hP TF hP.tF
 have hgo : groundL [.imm l.length (cl cW l)] = true := by simp only [groundL, onlyL, AV.only, cl_only, Bool.and_true]
 refine CSpec_vc (E := ⟨TF, Xt1⟩) (fn43 hP) HE hP.mix rfl hgo rfl (Nat.le_of_ble_eq_true rfl) ?_
 have hro : ∀ f, (AV.imm l.length (cl cW l)).only f = true := fun f => by simp only [AV.only, cl_only]
 have hget : ∀ i (h : i < l.length), ∃ a, a ∈ l ∧ l.take (i + 1) = l.take i ++ [a] ∧ fV a 65536 ∧ (cl cW l).drop (i * 9) = [.opq (.rfrac (a.1)), .pad, .pad, .opq (.rfrac (a.2.1)), .pad, .pad, .opq (.rfrac (a.2.2)), .pad, .pad] ++ cl cW (l.drop (i + 1)) := fun i h => by
  refine ⟨l[i], List.getElem_mem h, ?_, hb _ (List.getElem_mem h), ?_⟩
  · rw [List.take_add_one, List.getElem?_eq_getElem h]; rfl
  · rw [cl_drop, List.drop_eq_getElem_cons h, cl_cons]; rfl
 have hlen : ∀ i, (cl cW (l.drop (i + 1))).length = (l.length - (i + 1)) * 9 := fun i => by rw [cl_len, List.length_drop]
 have hh : ∀ i, AV.head (cl cW (l.drop (i + 1))) = true := fun i => cl_head
 simp only [go_sem]
 refine trX_loopV HE hP.mix (fun _ : Nat × Nat => []) (fun x => ⟨upd (upd (upd (fun _ => .junk) 0 (.imm l.length (cl cW l))) 3 (.int .i64 (x.1 : Int))) 4 (.int .i64 (x.2 : Int)), fun _ => .unused, 55⟩) (fun x => x.2 ≤ l.length ∧ J1 l x.1 ∧ J2 l (l.take x.2) x.1) (fun x => l.length - x.2) (0, 0) (fun _ => 100) (fun _ _ h => absurd rfl h) ?_ ⟨Nat.zero_le _, ⟨by decide, fun h => absurd h (by decide), fun h => absurd h (by decide)⟩, J2_nil _ _⟩ 55 (by kernel_rfl) ?_
 · exact Kept.of rfl (by repeat (first | exact KT.nil | refine KT.upd rfl (by first | rfl | exact hro _) ?_)) (KM.p .nil)
 rintro ⟨n, i⟩ ⟨hi, h1, h2⟩
 simp only [] at hi h1 h2
 by_cases h : i < l.length
 · obtain ⟨a, ha, ht, hba, hd⟩ := hget i h
   have hl0 := hlen i
   have hh0 := hh i
   have h9 : i * 9 ≤ l.length * 9 := by omega
   have hba1 := fV_mono hba (show 65536 ≤ 268435456 by decide)
   obtain ⟨A1, A2, A3⟩ := hba1
   by_cases hz : a = v0
   · have hz' : decide (((a.1, a.2.1, a.2.2) : V3) = v0) = true := decide_eq_true hz
     simp only [go_sem, h, hd, hl0, hh0, cl_len, h9, hz']
     have k1 := h1
     have k2 := h2
     have k3 : n = 0 → a = v0 := fun _ => hz
     refine trX_loopV HE hP.mix (fun _ : Nat × Nat => []) (fun x => ⟨upd (upd (upd (upd (fun _ => .junk) 0 (.imm l.length (cl cW l))) 3 (.int .i64 (x.1 : Int))) 4 (.int .i64 (i : Int))) 5 (.int .i64 (x.2 : Int)), fun _ => .unused, 55⟩) (fun x => x.2 ≤ i ∧ J1 l x.1 ∧ J2 l (l.take i) x.1 ∧ J3 l (l.take x.2) a x.1) (fun x => i - x.2) (n, 0) (fun _ => 200) (fun _ _ h => absurd rfl h) (Kept.of rfl (by repeat (first | exact KT.nil | refine KT.upd rfl (by first | rfl | exact hro _ | simp [AV.only]) ?_)) (KM.p KMp.nil)) ⟨Nat.zero_le _, k1, k2, J3_nil k3⟩ 55 (by kernel_rfl) ?_
     rintro ⟨m, j⟩ ⟨hj, j1, j2, j3⟩
     simp only [] at hj j1 j2 j3
     by_cases hji : j < i
     · obtain ⟨b, hbl, htb, hbb, hdb⟩ := hget j (by omega)
       have hl1 := hlen j
       have hh1 := hh j
       have h9j : j * 9 ≤ l.length * 9 := by omega
       obtain ⟨B1, B2, B3⟩ := fV_mono hbb (show 65536 ≤ 268435456 by decide)
       have hjl : j < l.length := by omega
       have hwj := wi_add1 j (by omega)
       by_cases hc : vcr a b = v0
       · have hc' : decide ((((vcq a b).1, (vcq a b).2.1, (vcq a b).2.2) : V3) = v0) = true := decide_eq_true (by rw [vcq_vcr]; exact hc)
         simp only [go_sem, h, hji, hjl, hd, hl0, hh0, hdb, hl1, hh1, cl_len, h9, h9j, A1, A2, A3, B1, B2, B3, hc', hwj]
         exact ⟨(m, j + 1), Kept.of rfl (by repeat (first | exact KT.nil | refine KT.upd rfl (by first | rfl | exact hro _ | simp [AV.only]) ?_)) (KM.p KMp.nil), ⟨hji, j1, j2, by show J3 l (l.take (j + 1)) a m; rw [htb]; exact J3_zero j3 hc⟩, by show i - (j + 1) < i - j; omega⟩
       · have hc' : decide ((((vcq a b).1, (vcq a b).2.1, (vcq a b).2.2) : V3) = v0) = false := decide_eq_false (by rw [vcq_vcr]; exact hc)
         have hm2 := j1.1
         simp only [go_sem, h, hji, hjl, hd, hl0, hh0, hdb, hl1, hh1, cl_len, h9, h9j, A1, A2, A3, B1, B2, B3, hc', mx2 hm2]
         obtain ⟨D1, D2, D3⟩ := fV_mono (vcq_fl hba hbb) (show _ ≤ 67108864 by decide)
         refine trX_loopV HE hP.mix (fun _ : Nat => [212]) (fun y => ⟨upd (upd (upd (upd (upd (upd (fun _ => .junk) 0 (.imm l.length (cl cW l))) 3 (.int .i64 ((2 : Nat) : Int))) 4 (.int .i64 (i : Int))) 5 (.int .i64 (j : Int))) 6 (.ref 212 0)) 7 (.int .i64 (y : Int)), upd (fun _ => .unused) 212 (.live [.opq (.rfrac ((vcq a b).1)), .pad, .pad, .opq (.rfrac ((vcq a b).2.1)), .pad, .pad, .opq (.rfrac ((vcq a b).2.2)), .pad, .pad]), 55⟩) (fun y => y ≤ l.length ∧ ∀ c ∈ l.take y, vdt (vcr a b) c = 0) (fun y => l.length - y) 0 (fun _ => 300) (fun _ => Has.upd rfl (Has.upd rfl Has.nil)) (Kept.of rfl (by repeat (first | exact KT.nil | refine KT.upd rfl (by first | rfl | exact hro _ | simp [AV.only]) ?_)) (by refine KM.p (KMp.upd ?_ ?_ KMp.nil) <;> rfl)) ⟨Nat.zero_le _, fun c hc => by simp at hc⟩ 55 (by kernel_rfl) ?_
         rintro y ⟨hy, hall⟩
         by_cases hyl : y < l.length
         · obtain ⟨c, hcl, htc, hbc, hdc⟩ := hget y hyl
           have hl2 := hlen y
           have hh2 := hh y
           have h9y : y * 9 ≤ l.length * 9 := by omega
           obtain ⟨E1, E2, E3⟩ := fV_mono hbc (show 65536 ≤ 67108864 by decide)
           have hwy := wi_add1 y (by omega)
           have hq : qdt ((vcq a b).1, (vcq a b).2.1, (vcq a b).2.2) (c.1, c.2.1, c.2.2) = vdt (vcr a b) c := by rw [qdt_vdt, ← vcq_vcr]
           by_cases hd0 : vdt (vcr a b) c = 0
           · have hq0 : (cmpQ (qdt ((vcq a b).1, (vcq a b).2.1, (vcq a b).2.2) (c.1, c.2.1, c.2.2)) 0 != 0) = false := by rw [hq, hd0, cmpQ_self]; rfl
             simp only [go_sem, hyl, hdc, hl2, hh2, cl_len, h9y, D1, D2, D3, E1, E2, E3, hq0, hwy]
             exact ⟨y + 1, Kept.of rfl (by repeat (first | exact KT.nil | refine KT.upd rfl (by first | rfl | exact hro _ | simp [AV.only]) ?_)) (by refine KM.p (KMp.upd ?_ ?_ KMp.nil) <;> rfl), ⟨hyl, fun c' hc' => by
              rw [htc] at hc'
              rcases List.mem_append.1 hc' with hc' | hc'
              · exact hall c' hc'
              · rw [List.mem_singleton.1 hc']; exact hd0⟩, by show l.length - (y + 1) < l.length - y; omega⟩
           · have hq0 : (cmpQ (qdt ((vcq a b).1, (vcq a b).2.1, (vcq a b).2.2) (c.1, c.2.1, c.2.2)) 0 != 0) = true := by
              rw [hq]
              have := cmpQ_z (vdt (vcr a b) c) 0
              rw [decide_eq_false hd0] at this
              simp only [bne, this]; rfl
             simp only [go_sem, hyl, hdc, hl2, hh2, cl_len, h9y, D1, D2, D3, E1, E2, E3, hq0, hwy]
             have h3 : Rk l 3 := .inr (.inr (.inr ⟨rfl, c, hcl, a, ha, b, hbl, fun e => hd0 (by rw [dt_swap]; exact e)⟩))
             rw [← h3.uniq (rkN_ok l)]
             exact .refl _
         · have hyi : l.take y = l := List.take_of_length_le (by omega)
           rw [hyi] at hall
           simp only [go_sem, hyl, hwj]
           exact ⟨(2, j + 1), Kept.of rfl (by repeat (first | exact KT.nil | refine KT.upd rfl (by first | rfl | exact hro _ | simp [AV.only]) ?_)) (KM.p KMp.nil), ⟨hji, J1_two ha hbl hc, J2_up hm2 j2, by show J3 l (l.take (j + 1)) a 2; rw [htb]; exact J3_two j3 hall⟩, by show i - (j + 1) < i - j; omega⟩
     · have hji' : j = i := by omega
       subst hji'
       have hwi := wi_add1 j (by omega)
       simp only [go_sem, hji, hwi]
       exact ⟨(m, j + 1), Kept.of rfl (by repeat (first | exact KT.nil | refine KT.upd rfl (by first | rfl | exact hro _ | simp [AV.only]) ?_)) (KM.p KMp.nil), ⟨h, j1, by show J2 l (l.take (j + 1)) m; rw [ht]; exact J2_snoc j2 j3⟩, by show l.length - (j + 1) < l.length - j; omega⟩
   · have hz' : decide (((a.1, a.2.1, a.2.2) : V3) = v0) = false := decide_eq_false hz
     simp only [go_sem, h, hd, hl0, hh0, cl_len, h9, hz', mx1]
     have k1 := J1_up ha hz h1
     have k2 := J2_up (Nat.le_max_left n 1) h2
     have k3 : max n 1 = 0 → a = v0 := fun e => by omega
     refine trX_loopV HE hP.mix (fun _ : Nat × Nat => []) (fun x => ⟨upd (upd (upd (upd (fun _ => .junk) 0 (.imm l.length (cl cW l))) 3 (.int .i64 (x.1 : Int))) 4 (.int .i64 (i : Int))) 5 (.int .i64 (x.2 : Int)), fun _ => .unused, 55⟩) (fun x => x.2 ≤ i ∧ J1 l x.1 ∧ J2 l (l.take i) x.1 ∧ J3 l (l.take x.2) a x.1) (fun x => i - x.2) (max n 1, 0) (fun _ => 200) (fun _ _ h => absurd rfl h) (Kept.of rfl (by repeat (first | exact KT.nil | refine KT.upd rfl (by first | rfl | exact hro _ | simp [AV.only]) ?_)) (KM.p KMp.nil)) ⟨Nat.zero_le _, k1, k2, J3_nil k3⟩ 55 (by kernel_rfl) ?_
     rintro ⟨m, j⟩ ⟨hj, j1, j2, j3⟩
     simp only [] at hj j1 j2 j3
     by_cases hji : j < i
     · obtain ⟨b, hbl, htb, hbb, hdb⟩ := hget j (by omega)
       have hl1 := hlen j
       have hh1 := hh j
       have h9j : j * 9 ≤ l.length * 9 := by omega
       obtain ⟨B1, B2, B3⟩ := fV_mono hbb (show 65536 ≤ 268435456 by decide)
       have hjl : j < l.length := by omega
       have hwj := wi_add1 j (by omega)
       by_cases hc : vcr a b = v0
       · have hc' : decide ((((vcq a b).1, (vcq a b).2.1, (vcq a b).2.2) : V3) = v0) = true := decide_eq_true (by rw [vcq_vcr]; exact hc)
         simp only [go_sem, h, hji, hjl, hd, hl0, hh0, hdb, hl1, hh1, cl_len, h9, h9j, A1, A2, A3, B1, B2, B3, hc', hwj]
         exact ⟨(m, j + 1), Kept.of rfl (by repeat (first | exact KT.nil | refine KT.upd rfl (by first | rfl | exact hro _ | simp [AV.only]) ?_)) (KM.p KMp.nil), ⟨hji, j1, j2, by show J3 l (l.take (j + 1)) a m; rw [htb]; exact J3_zero j3 hc⟩, by show i - (j + 1) < i - j; omega⟩
       · have hc' : decide ((((vcq a b).1, (vcq a b).2.1, (vcq a b).2.2) : V3) = v0) = false := decide_eq_false (by rw [vcq_vcr]; exact hc)
         have hm2 := j1.1
         simp only [go_sem, h, hji, hjl, hd, hl0, hh0, hdb, hl1, hh1, cl_len, h9, h9j, A1, A2, A3, B1, B2, B3, hc', mx2 hm2]
         obtain ⟨D1, D2, D3⟩ := fV_mono (vcq_fl hba hbb) (show _ ≤ 67108864 by decide)
         refine trX_loopV HE hP.mix (fun _ : Nat => [212]) (fun y => ⟨upd (upd (upd (upd (upd (upd (fun _ => .junk) 0 (.imm l.length (cl cW l))) 3 (.int .i64 ((2 : Nat) : Int))) 4 (.int .i64 (i : Int))) 5 (.int .i64 (j : Int))) 6 (.ref 212 0)) 7 (.int .i64 (y : Int)), upd (fun _ => .unused) 212 (.live [.opq (.rfrac ((vcq a b).1)), .pad, .pad, .opq (.rfrac ((vcq a b).2.1)), .pad, .pad, .opq (.rfrac ((vcq a b).2.2)), .pad, .pad]), 55⟩) (fun y => y ≤ l.length ∧ ∀ c ∈ l.take y, vdt (vcr a b) c = 0) (fun y => l.length - y) 0 (fun _ => 300) (fun _ => Has.upd rfl (Has.upd rfl Has.nil)) (Kept.of rfl (by repeat (first | exact KT.nil | refine KT.upd rfl (by first | rfl | exact hro _ | simp [AV.only]) ?_)) (by refine KM.p (KMp.upd ?_ ?_ KMp.nil) <;> rfl)) ⟨Nat.zero_le _, fun c hc => by simp at hc⟩ 55 (by kernel_rfl) ?_
         rintro y ⟨hy, hall⟩
         by_cases hyl : y < l.length
         · obtain ⟨c, hcl, htc, hbc, hdc⟩ := hget y hyl
           have hl2 := hlen y
           have hh2 := hh y
           have h9y : y * 9 ≤ l.length * 9 := by omega
           obtain ⟨E1, E2, E3⟩ := fV_mono hbc (show 65536 ≤ 67108864 by decide)
           have hwy := wi_add1 y (by omega)
           have hq : qdt ((vcq a b).1, (vcq a b).2.1, (vcq a b).2.2) (c.1, c.2.1, c.2.2) = vdt (vcr a b) c := by rw [qdt_vdt, ← vcq_vcr]
           by_cases hd0 : vdt (vcr a b) c = 0
           · have hq0 : (cmpQ (qdt ((vcq a b).1, (vcq a b).2.1, (vcq a b).2.2) (c.1, c.2.1, c.2.2)) 0 != 0) = false := by rw [hq, hd0, cmpQ_self]; rfl
             simp only [go_sem, hyl, hdc, hl2, hh2, cl_len, h9y, D1, D2, D3, E1, E2, E3, hq0, hwy]
             exact ⟨y + 1, Kept.of rfl (by repeat (first | exact KT.nil | refine KT.upd rfl (by first | rfl | exact hro _ | simp [AV.only]) ?_)) (by refine KM.p (KMp.upd ?_ ?_ KMp.nil) <;> rfl), ⟨hyl, fun c' hc' => by
              rw [htc] at hc'
              rcases List.mem_append.1 hc' with hc' | hc'
              · exact hall c' hc'
              · rw [List.mem_singleton.1 hc']; exact hd0⟩, by show l.length - (y + 1) < l.length - y; omega⟩
           · have hq0 : (cmpQ (qdt ((vcq a b).1, (vcq a b).2.1, (vcq a b).2.2) (c.1, c.2.1, c.2.2)) 0 != 0) = true := by
              rw [hq]
              have := cmpQ_z (vdt (vcr a b) c) 0
              rw [decide_eq_false hd0] at this
              simp only [bne, this]; rfl
             simp only [go_sem, hyl, hdc, hl2, hh2, cl_len, h9y, D1, D2, D3, E1, E2, E3, hq0, hwy]
             have h3 : Rk l 3 := .inr (.inr (.inr ⟨rfl, c, hcl, a, ha, b, hbl, fun e => hd0 (by rw [dt_swap]; exact e)⟩))
             rw [← h3.uniq (rkN_ok l)]
             exact .refl _
         · have hyi : l.take y = l := List.take_of_length_le (by omega)
           rw [hyi] at hall
           simp only [go_sem, hyl, hwj]
           exact ⟨(2, j + 1), Kept.of rfl (by repeat (first | exact KT.nil | refine KT.upd rfl (by first | rfl | exact hro _ | simp [AV.only]) ?_)) (KM.p KMp.nil), ⟨hji, J1_two ha hbl hc, J2_up hm2 j2, by show J3 l (l.take (j + 1)) a 2; rw [htb]; exact J3_two j3 hall⟩, by show i - (j + 1) < i - j; omega⟩
     · have hji' : j = i := by omega
       subst hji'
       have hwi := wi_add1 j (by omega)
       simp only [go_sem, hji, hwi]
       exact ⟨(m, j + 1), Kept.of rfl (by repeat (first | exact KT.nil | refine KT.upd rfl (by first | rfl | exact hro _ | simp [AV.only]) ?_)) (KM.p KMp.nil), ⟨h, j1, by show J2 l (l.take (j + 1)) m; rw [ht]; exact J2_snoc j2 j3⟩, by show l.length - (j + 1) < l.length - j; omega⟩
 · have hi' : l.take i = l := List.take_of_length_le (by omega)
   rw [hi'] at h2
   simp only [go_sem, h]
   rw [(J_end h1 h2).uniq (rkN_ok l)]
   exact .refl _
end Go.Proofs.YtbfapomdnocbaaaGreatDoor.AM
/- Arguments that are rows of strings: how long they are. -/
namespace Go.Proofs.YtbfapomdnocbaaaGreatDoor.AM
set_option linter.all false
set_option autoImplicit true
set_option relaxedAutoImplicit true
open Go Go.Proofs
def maxS : Nat := 140737488355328
theorem le_maxS {n : Nat} (h : n ≤ reachBytes) : n ≤ maxS := Nat.le_trans h (by decide)
section
variable {H : Type} {enc : TypeId × Value → H} {P : Program} {w : World}
theorem trod_str {t : TypeId} {cs : List Value} {x : DataW H × List MemPlace} {fuel : Nat} (ht : P.underlying t = some .string) (h : DataW.trod enc P w 0 (fun _ => true) true fuel t cs = some x) : ∃ s : ByteArray, cs = [.string s] ∧ x.1 = .lit (.string s.data.toList) := by
 cases fuel with
 | zero => simp [DataW.trod] at h
 | succ n =>
   unfold DataW.trod at h
   rw [ht] at h
   split at h <;> simp_all
   rw [← h.2]
theorem strs_w {B : Nat} : ∀ (fs : List Field) (o n : Nat) (cs : List Value) (ys : List (DataW H × List MemPlace)), chkF P (List.replicate fs.length .str) fs o = true → (∀ (i : Nat) (f : Field), fs[i]? = some f → DataW.trod enc P w 0 (fun _ => true) true n f.type ((cs.drop f.offset).take (P.cellsOf f.type)) = ys[i]?) → ys.length = fs.length → cs.length = o + fs.length → (DataW.weightsEach P (fs.map (·.type)) (ys.map (·.1))).all (fun x => decide (x ≤ B)) = true → ∃ ss : List ByteArray, ss.length = fs.length ∧ (∀ s ∈ ss, s.size ≤ B) ∧ RL0 w (cs.drop o) (ss.map .str)
 | [], o, n, cs, ys, _, _, _, hl, _ => ⟨[], rfl, by simp, by rw [List.drop_of_length_le (by simp at hl; omega)]; exact .nil⟩
 | f :: fs, o, n, cs, ys, hc, hall, hy, hl, hw => by
   simp only [List.length_cons, List.replicate_succ, chkF, Bool.and_eq_true, beq_iff_eq] at hc
   obtain ⟨⟨⟨h1, h2⟩, h3⟩, h4⟩ := hc
   have ht : P.underlying f.type = some .string := by simp only [Sha.chk] at h3; split at h3 <;> simp_all
   match ys, hy with
   | y :: ys, hy =>
     have hy0 := hall 0 f rfl
     simp only [List.getElem?_cons_zero] at hy0
     obtain ⟨s, e1, e2⟩ := trod_str ht hy0
     simp only [List.map_cons, DataW.weightsEach, e2, DataW.weights, List.all_append, Bool.and_eq_true, List.all_cons, List.all_nil, and_true, decide_eq_true_eq] at hw
     have hwd : (Sha.str).width = 1 := rfl
     obtain ⟨ss, k1, k2, k3⟩ := strs_w fs (o + 1) n cs ys (by rw [← hwd]; exact h4) (fun i g hg => by simpa using hall (i + 1) g (by simpa using hg)) (by simpa using hy) (by simp at hl; omega) hw.2
     refine ⟨s :: ss, by simp [k1], fun z hz => ?_, ?_⟩
     · rcases List.mem_cons.1 hz with rfl | hz
       · have := hw.1
         simpa using this
       · exact k2 z hz
     · rw [cut_app (k := 1) (by simp at hl; omega)]
       rw [h1, h2, hwd] at e1
       rw [e1]
       exact (RL.str _ .nil).app k3
theorem arg_w {l : List Sha} {t : TypeId} {k : Nat} {B : Nat} (hk : l = List.replicate k .str) (hc : (Sha.row l).chk P t = true) {fs : Array Field} (hu : P.underlying t = some (.struct fs)) {v : Value} {d : DataW H} {ps : List MemPlace} {b : Nat} (h : DataW.Trod enc P w 0 (fun _ => true) true t v d ps) (hv : Value.okWide P w .any b t v) (hw : (d.weights P t).all (fun x => decide (x ≤ B)) = true) : ∃ ss : List ByteArray, ss.length = k ∧ (∀ s ∈ ss, s.size ≤ B) ∧ RL0 w [v] [.agg (ss.map .str)] := by
 subst hk
 obtain ⟨fuel, h⟩ := h
 simp only [Sha.chk, Bool.and_eq_true, beq_iff_eq, hu] at hc
 obtain ⟨hwd, hc⟩ := hc
 obtain ⟨xs, n, _, hx, hl, hxl, hall⟩ := DataW.trod_struct hu h
 have wl : ∀ k : Nat, widthL (List.replicate k .str) = k := fun k => by
  induction k with
  | zero => rfl
  | succ k ih => rw [List.replicate_succ]; simp only [widthL, ih]; show 1 + k = k + 1; omega
 have hlen : ∀ (k : Nat) (gs : List Field) (o : Nat), chkF P (List.replicate k .str) gs o = true → gs.length = k := fun k => by
  induction k with
  | zero => intro gs o hg; cases gs with
    | nil => rfl
    | cons _ _ => simp [chkF] at hg
  | succ k ih =>
    intro gs o hg
    cases gs with
    | nil => simp [List.replicate_succ, chkF] at hg
    | cons g gs =>
      rw [List.replicate_succ] at hg
      simp only [chkF, Bool.and_eq_true] at hg
      simp [ih gs _ hg.2]
 have hfl := hlen k fs.toList 0 hc
 have hd : d = .agg (xs.map (·.1)) := congrArg Prod.fst hx
 rw [hd] at hw
 simp only [DataW.weights, hu] at hw
 have := strs_w (enc := enc) (w := w) (B := B) fs.toList 0 n v.cells.toList xs (by rw [hfl]; exact hc) (fun i f hf => hall i f (by simpa using hf)) (by simpa using hxl) (by rw [hl, hwd, wl]; omega) hw
 obtain ⟨ss, k1, k2, k3⟩ := this
 have : ∃ cs, v = .agg cs := by
  unfold Value.okWide at hv
  rw [hu] at hv; exact ⟨_, hv.choose_spec.1⟩
 obtain ⟨cs, rfl⟩ := this
 exact ⟨ss, by rw [k1, hfl], k2, by simpa using RL.agg (cs := cs.toList) (by simpa [Value.cells] using k3) .nil⟩
theorem arg_p {t : TypeId} {B : Nat} (hc : (Sha.row [.str, .str, .str]).chk P t = true) {fs : Array Field} (hu : P.underlying t = some (.struct fs)) {v : Value} {d : DataW H} {ps : List MemPlace} {b : Nat} (h : DataW.Trod enc P w 0 (fun _ => true) true t v d ps) (hv : Value.okWide P w .any b t v) (hw : (d.weights P t).all (fun x => decide (x ≤ B)) = true) : ∃ x y z : ByteArray, x.size ≤ B ∧ y.size ≤ B ∧ z.size ≤ B ∧ RL0 w [v] [.agg [.str x, .str y, .str z]] := by
 obtain ⟨ss, h1, h2, h3⟩ := arg_w (k := 3) rfl hc hu h hv hw
 match ss, h1 with
 | [x, y, z], _ => exact ⟨x, y, z, h2 x (by simp), h2 y (by simp), h2 z (by simp), h3⟩
end
end Go.Proofs.YtbfapomdnocbaaaGreatDoor.AM
