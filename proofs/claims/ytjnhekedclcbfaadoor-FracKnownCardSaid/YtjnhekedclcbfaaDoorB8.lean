/- Fractions: their cells; in lowest terms. -/
import Derived.Test.YtjnhekedclcbfaaDoorB7
import Derived.Test.YtjnhekedclcbfaaDoorB2
namespace Go.Proofs.YtjnhekedclcbfaaDoor.AM
set_option linter.all false
set_option autoImplicit true
set_option relaxedAutoImplicit true
open Go Go.Proofs
set_option maxRecDepth 100000
set_option maxHeartbeats 8000000
set_option linter.unusedSimpArgs false
variable {P : Program}

/-- The cells of one. -/
def fC (q : Rat) : List AV := [.opq (.whole q.num), .pad, .pad, .opq (.nat (q.den - 1)), .pad]
theorem CvL.fracIn (q : Rat) {xs bs} (h : CvL xs bs) : CvL ((.agg [.opq (.frac (q)), .pad, .pad, .pad, .pad]) :: xs) (.agg (fC q) :: bs) := .agg (by simpa [Pay.open, Pay.width, fC] using CvL.unfold (.frac q) []) h
theorem CvL.fracOut (q : Rat) {xs bs} (h : CvL xs bs) : CvL (.agg (fC q) :: xs) ((.agg [.opq (.frac (q)), .pad, .pad, .pad, .pad]) :: bs) := .agg (by simpa [Pay.open, Pay.width, fC] using CvL.fold (.frac q) [] rfl) h
theorem Conv.frac (q : Rat) : Conv (.agg (fC q)) (.agg [.opq (.frac (q)), .pad, .pad, .pad, .pad]) := CvL.conv (.fracOut q .nil)
noncomputable def rawF : AV → Option (Prop × Rat)
  | .agg [.opq (.frac q), .pad, .pad, .pad, .pad] => some (True, q)
  | .agg [.opq (.whole z), .pad, .pad, .opq (.nat l), .pad] => some (Nat.gcd z.natAbs (l + 1) = 1, qlow z (l + 1))
  | _ => none
theorem rawF_atom (q : Rat) : rawF (.agg [.opq (.frac (q)), .pad, .pad, .pad, .pad]) = some (True, q) := rfl
theorem rawF_raw (z l) : rawF (.agg [.opq (.whole z), .pad, .pad, .opq (.nat l), .pad]) = some (Nat.gcd z.natAbs (l + 1) = 1, qlow z (l + 1)) := rfl
theorem q_self' (q : Rat) : qlow q.num (q.den - 1 + 1) = q := by rw [den_eq, qlow_eq]; exact q_self q
theorem q_gcd' (q : Rat) : (Nat.gcd q.num.natAbs (q.den - 1 + 1) = 1) = True := by rw [den_eq]; exact eq_true (q_gcd q)
theorem fC_mk {z : Int} {d : Nat} (hd : 0 < d) (h : Nat.gcd z.natAbs d = 1) : fC (mkRat z d) = [.opq (.whole z), .pad, .pad, .opq (.nat (d - 1)), .pad] := by
  unfold fC
  rw [mk_num hd, mk_den hd, h, Nat.div_one, Nat.div_one, sg_of]
theorem rawF_cv {v : AV} {p q} (h : rawF v = some (p, q)) (hp : p) {xs bs} (k : CvL xs bs) : CvL (v :: xs) ((.agg [.opq (.frac (q)), .pad, .pad, .pad, .pad]) :: bs) := by
  unfold rawF at h
  split at h
  · simp only [Option.some.injEq, Prod.mk.injEq] at h
    obtain ⟨rfl, rfl⟩ := h
    exact .agg (.refl _) k
  · simp only [Option.some.injEq, Prod.mk.injEq] at h
    obtain ⟨rfl, rfl⟩ := h
    rename_i z l
    have e : fC (mkRat z (l + 1)) = [.opq (.whole z), .pad, .pad, .opq (.nat l), .pad] := fC_mk (by omega) hp
    rw [← e, qlow_eq]; exact .fracOut _ k
  · simp at h
noncomputable def onF1 (f : Rat → Prop × AV) : List AV → Option (Prop × AV)
  | [x] => (rawF x).map fun a => (a.1 ∧ (f a.2).1, (f a.2).2)
  | _ => none
noncomputable def onF2 (f : Rat → Rat → Prop × AV) : List AV → Option (Prop × AV)
  | [x, y] => (rawF x).bind fun a => (rawF y).map fun b => (a.1 ∧ b.1 ∧ (f a.2 b.2).1, (f a.2 b.2).2)
  | _ => none
theorem onF1_ok {fi : Nat} {f : Rat → Prop × AV} (h : ∀ a, (f a).1 → CSpec P fi [(.agg [.opq (.frac (a)), .pad, .pad, .pad, .pad])] (f a).2) (args p r) (he : onF1 f args = some (p, r)) (hp : p) : CSpec P fi args r := by
  unfold onF1 at he
  split at he
  · simp only [Option.map_eq_some_iff, Prod.exists, Prod.mk.injEq] at he
    obtain ⟨q, a, h1, rfl, rfl⟩ := he
    exact (h a hp.2).cv (rawF_cv h1 hp.1 .nil)
  · simp at he
theorem onF2_ok {fi : Nat} {f : Rat → Rat → Prop × AV} (h : ∀ a b, (f a b).1 → CSpec P fi [(.agg [.opq (.frac (a)), .pad, .pad, .pad, .pad]), (.agg [.opq (.frac (b)), .pad, .pad, .pad, .pad])] (f a b).2) (args p r) (he : onF2 f args = some (p, r)) (hp : p) : CSpec P fi args r := by
  unfold onF2 at he
  split at he
  · simp only [Option.bind_eq_some_iff, Option.map_eq_some_iff, Prod.exists, Prod.mk.injEq] at he
    obtain ⟨q, a, h1, q', b, h2, rfl, rfl⟩ := he
    exact (h a b hp.2.2).cv (rawF_cv h1 hp.1 (rawF_cv h2 hp.2.1 .nil))
  · simp at he
theorem onF1_eq (f x) : onF1 f [x] = (rawF x).map fun a => (a.1 ∧ (f a.2).1, (f a.2).2) := rfl
theorem onF2_eq (f x y) : onF2 f [x, y] = (rawF x).bind fun a => (rawF y).map fun b => (a.1 ∧ b.1 ∧ (f a.2 b.2).1, (f a.2 b.2).2) := rfl
attribute [go_sem] rawF_atom rawF_raw onF1_eq onF2_eq q_self' q_gcd'
abbrev FB : Nat := 1073741824

theorem one_spec (hP : PrgOk P) : CSpec P 43 [] (.agg [.opq (.nat (1)), .pad]) := by
  have HE := Wt3_all hP T2 hP.t2
  have h1 : (1 : Int).toNat = 1 := rfl
  refine CSpec_vc (E := ⟨T2, Wt3⟩) (fn43 hP) HE hP.mix rfl (by first | rfl | (simp only [go_sem]; done)) (by first | rfl | (simp only [go_sem]; done)) (Nat.le_of_ble_eq_true rfl) ?_
  simp (maxSteps := 1000000) only [go_sem, h1]
  (repeat' (first | exact Conv.refl _ | refine And.intro ?_ ?_)) <;> first | omega | decide
def oneS : List AV → Option (Prop × AV)
  | [] => some (True, (.agg [.opq (.nat (1)), .pad]))
  | _ => none
theorem oneS_ok (hP : PrgOk P) (args p r) (h : oneS args = some (p, r)) (hp : p) : CSpec P 43 args r := by
  unfold oneS at h
  split at h
  · simp only [Option.some.injEq, Prod.mk.injEq] at h
    obtain ⟨rfl, rfl⟩ := h
    exact one_spec hP
  · simp at h
attribute [go_sem] oneS
theorem part_spec (hP : PrgOk P) (x g : Nat) (hx : blen x ≤ 68719476736) (hg : blen g ≤ 34359738368) (h0 : 0 < g) : CSpec P 71 [(.agg [.opq (.nat (x)), .pad]), .fref [.opq (.nat g), .pad]] (.agg [.opq (.nat (x / g)), .pad]) := by
  have HE := Wt3_all hP T2 hP.t2
  have hz : (g = 0) = False := eq_false (by omega)
  refine CSpec_vc (E := ⟨T2, Wt3⟩) (fn71 hP) HE hP.mix rfl (by first | rfl | (simp only [go_sem]; done)) (by first | rfl | (simp only [go_sem]; done)) (Nat.le_of_ble_eq_true rfl) ?_
  simp (maxSteps := 1000000) only [go_sem, hx, hg, hz]
  (repeat' (first | exact Conv.refl _ | refine And.intro ?_ ?_)) <;> first | omega | decide
def partS : List AV → Option (Prop × AV)
  | [x, .fref [.opq (.nat g), .pad]] => (rawN x).map fun a => (a.1 ∧ blen a.2 ≤ 68719476736 ∧ blen g ≤ 34359738368 ∧ 0 < g, (.agg [.opq (.nat (a.2 / g)), .pad]))
  | _ => none
theorem partS_eq (x g) : partS [x, .fref [.opq (.nat g), .pad]] = (rawN x).map fun a => (a.1 ∧ blen a.2 ≤ 68719476736 ∧ blen g ≤ 34359738368 ∧ 0 < g, (.agg [.opq (.nat (a.2 / g)), .pad])) := rfl
theorem partS_ok (hP : PrgOk P) (args p r) (he : partS args = some (p, r)) (hp : p) : CSpec P 71 args r := by
  unfold partS at he
  split at he
  · simp only [Option.map_eq_some_iff, Prod.exists, Prod.mk.injEq] at he
    obtain ⟨q, a, h1, rfl, rfl⟩ := he
    exact (part_spec hP a _ hp.2.1 hp.2.2.1 hp.2.2.2).cv (rawN_cv h1 hp.1 (.refl _))
  · simp at he
attribute [go_sem] partS_eq
noncomputable def Ft0 : Nat → List AV → Option (Prop × AV) := addS (addS Wt3 43 oneS) 71 partS
theorem Ft0_all (hP : PrgOk P) (T) (hT : TyOk P T) : EnvOk P ⟨T, Ft0⟩ := (((Wt3_all hP T hT).add (oneS_ok hP)).add (partS_ok hP))
theorem Ft0_at (f a) : Ft0 f a = (addS (addS Wt3 43 oneS) 71 partS) f a := rfl
attribute [go_sem] Ft0_at
theorem fr_live2 (cs) : (AObj.live cs).freeze = .ro cs := rfl
theorem fr_ro (cs) : (AObj.ro cs).freeze = .ro cs := rfl
attribute [go_sem] fr_live2 fr_ro
theorem sgn_neg (z : Int) : (sgnZ z < 0) = (z < 0) := by
  unfold sgnZ; rw [eq_iff_iff]; split
  · omega
  · split <;> omega
theorem blen_one_iff (d : Nat) : blen d = 1 ↔ d = 1 := by
  constructor
  · intro h
    have h1 : d < 2 ^ 1 := (blen_le_iff d 1).1 (by omega)
    have h2 : d ≠ 0 := fun e => by rw [e] at h; exact absurd h (by decide)
    omega
  · intro h; rw [h]; decide
theorem blen_two {d : Nat} (h0 : 0 < d) (h : d ≠ 1) : 1 < blen d := by
  have h1 : blen d ≠ 0 := by rw [Ne, blen_zero_iff]; omega
  have h2 := mt (blen_one_iff d).1 h
  omega
theorem low_spec (hP : PrgOk P) (z : Int) (d : Nat) (hz : wl z ≤ 34359738368) (hd : blen d ≤ 34359738368) (h0 : 0 < d) : CSpec P 38 [(.agg [.opq (.whole (z)), .pad, .pad]), (.agg [.opq (.nat (d)), .pad])] (.agg [.opq (.frac (qlow z d)), .pad, .pad, .pad, .pad]) := by
  have HE := Ft0_all hP T2 hP.t2
  rw [qlow_eq]
  refine CSpec.conv (r := .agg (fC (mkRat z d))) ?_ (.frac _)
  have hz' := Nat.le_trans hz (show _ ≤ 68719476736 by decide)
  have hd' := Nat.le_trans hd (show _ ≤ 68719476736 by decide)
  refine CSpec_vc (E := ⟨T2, Ft0⟩) (fn38 hP) HE hP.mix rfl (by first | rfl | (simp only [go_sem]; done)) (by first | rfl | (simp only [go_sem]; done)) (Nat.le_of_ble_eq_true rfl) ?_
  by_cases h1 : d = 1
  · subst h1
    have hb : (blen 1 == 1) = true := by decide
    rw [fC_mk (by decide) (Nat.gcd_one_right _)]
    simp (maxSteps := 1000000) only [go_sem, hz', hd', hb]
    (repeat' (first | exact Conv.refl _ | refine And.intro ?_ ?_)) <;> first | omega | decide
  · have hb : (blen d == 1) = false := beq_eq_false_iff_ne.2 (mt (blen_one_iff d).1 h1)
    have hg0 : 0 < Nat.gcd z.natAbs d := Nat.gcd_pos_of_pos_right _ h0
    have hgb : blen (Nat.gcd z.natAbs d) ≤ 34359738368 := gcd_blen hz hd
    have hgb' := Nat.le_trans hgb (show _ ≤ 68719476736 by decide)
    by_cases h2 : Nat.gcd z.natAbs d = 1
    · have hb2 : (1 < blen 1) = False := eq_false (by decide)
      have hlt : (d < 1) = False := eq_false (by omega)
      rw [fC_mk h0 h2]
      simp (maxSteps := 1000000) only [go_sem, hz, hd, hz', hd', hb, h2, hb2, hlt]
      (repeat' (first | exact Conv.refl _ | refine And.intro ?_ ?_)) <;> first | omega | decide
    · have hb2 : (1 < blen (Nat.gcd z.natAbs d)) = True := eq_true (blen_two hg0 h2)
      have hgz : (Nat.gcd z.natAbs d = 0) = False := eq_false (by omega)
      have hq1 := blen_le_of (Nat.div_le_self z.natAbs (Nat.gcd z.natAbs d)) hz'
      have hq2 := blen_le_of (Nat.div_le_self d (Nat.gcd z.natAbs d)) hd'
      have hdg : 0 < d / Nat.gcd z.natAbs d := Nat.div_pos (Nat.le_of_dvd h0 (Nat.gcd_dvd_right _ _)) hg0
      have hlt : (d / Nat.gcd z.natAbs d < 1) = False := eq_false (by omega)
      have e : fC (mkRat z d) = [.opq (.whole (sg (decide (z < 0)) (z.natAbs / Nat.gcd z.natAbs d))), .pad, .pad, .opq (.nat (d / Nat.gcd z.natAbs d - 1)), .pad] := by
        unfold fC; rw [mk_num h0, mk_den h0]
      rw [e]
      simp (maxSteps := 1000000) only [go_sem, hz, hd, hz', hd', hb, hb2, hgb, hgb', sgn_neg, hg0, hq1, hq2, hlt]
      (repeat' (first | exact Conv.refl _ | refine And.intro ?_ ?_)) <;> first | omega | decide
noncomputable def lowS : List AV → Option (Prop × AV)
  | [x, y] => (rawW x).bind fun z => (rawN y).map fun d => (z.1 ∧ d.1 ∧ wl z.2 ≤ 34359738368 ∧ blen d.2 ≤ 34359738368 ∧ 0 < d.2, (.agg [.opq (.frac (qlow z.2 d.2)), .pad, .pad, .pad, .pad]))
  | _ => none
theorem lowS_eq (x y) : lowS [x, y] = (rawW x).bind fun z => (rawN y).map fun d => (z.1 ∧ d.1 ∧ wl z.2 ≤ 34359738368 ∧ blen d.2 ≤ 34359738368 ∧ 0 < d.2, (.agg [.opq (.frac (qlow z.2 d.2)), .pad, .pad, .pad, .pad])) := rfl
theorem lowS_ok (hP : PrgOk P) (args p r) (he : lowS args = some (p, r)) (hp : p) : CSpec P 38 args r := by
  unfold lowS at he
  split at he
  · simp only [Option.bind_eq_some_iff, Option.map_eq_some_iff, Prod.exists, Prod.mk.injEq] at he
    obtain ⟨q, a, h1, q', b, h2, rfl, rfl⟩ := he
    exact (low_spec hP a b hp.2.2.1 hp.2.2.2.1 hp.2.2.2.2).cv (rawW_cv h1 hp.1 (rawN_cv h2 hp.2.1 .nil))
  · simp at he
attribute [go_sem] lowS_eq
theorem fDen_spec (hP : PrgOk P) (q : Rat) (h : blen q.den ≤ 34359738368) : CSpec P 12 [(.agg [.opq (.frac (q)), .pad, .pad, .pad, .pad])] (.agg [.opq (.nat (q.den)), .pad]) := by
  have HE := Ft0_all hP T2 hP.t2
  refine CSpec.cv ?_ (.fracIn q .nil)
  have hl : blen (q.den - 1) ≤ 68719476736 := blen_le_of (Nat.sub_le _ _) (Nat.le_trans h (by decide))
  have h1 : blen 1 ≤ 68719476736 := by decide
  have e := den_eq q
  unfold fC
  refine CSpec_vc (E := ⟨T2, Ft0⟩) (fn12 hP) HE hP.mix rfl (by first | rfl | (simp only [go_sem]; done)) (by first | rfl | (simp only [go_sem]; done)) (Nat.le_of_ble_eq_true rfl) ?_
  simp (maxSteps := 1000000) only [go_sem, hl, h1, e]
  (repeat' (first | exact Conv.refl _ | refine And.intro ?_ ?_)) <;> first | omega | decide
noncomputable def fDenS : List AV → Option (Prop × AV) := onF1 fun q => (blen q.den ≤ 34359738368, (.agg [.opq (.nat (q.den)), .pad]))
theorem fDenS_ok (hP : PrgOk P) (args p r) : fDenS args = some (p, r) → p → CSpec P 12 args r := onF1_ok (fun a h => by exact fDen_spec hP a h) args p r
theorem fNum_spec (hP : PrgOk P) (q : Rat) : CSpec P 15 [(.agg [.opq (.frac (q)), .pad, .pad, .pad, .pad])] (.agg [.opq (.whole (q.num)), .pad, .pad]) := by
  have HE := Ft0_all hP T2 hP.t2
  refine CSpec.cv ?_ (.fracIn q .nil)
  unfold fC
  refine CSpec_vc (E := ⟨T2, Ft0⟩) (fn15 hP) HE hP.mix rfl (by first | rfl | (simp only [go_sem]; done)) (by first | rfl | (simp only [go_sem]; done)) (Nat.le_of_ble_eq_true rfl) ?_
  simp (maxSteps := 1000000) only [go_sem]
  (repeat' (first | exact Conv.refl _ | refine And.intro ?_ ?_)) <;> first | omega | decide
noncomputable def fNumS : List AV → Option (Prop × AV) := onF1 fun q => (True, (.agg [.opq (.whole (q.num)), .pad, .pad]))
theorem fNumS_ok (hP : PrgOk P) (args p r) : fNumS args = some (p, r) → p → CSpec P 15 args r := onF1_ok (fun a _ => by exact fNum_spec hP a) args p r
theorem fSign_spec (hP : PrgOk P) (q : Rat) (h : wl q.num ≤ 68719476736) : CSpec P 23 [(.agg [.opq (.frac (q)), .pad, .pad, .pad, .pad])] (.int .i64 (cmpQ q 0)) := by
  have HE := Ft0_all hP T2 hP.t2
  refine CSpec.cv ?_ (.fracIn q .nil)
  rw [← sgn_cmp]
  unfold fC
  refine CSpec_vc (E := ⟨T2, Ft0⟩) (fn23 hP) HE hP.mix rfl (by first | rfl | (simp only [go_sem]; done)) (by first | rfl | (simp only [go_sem]; done)) (Nat.le_of_ble_eq_true rfl) ?_
  simp (maxSteps := 1000000) only [go_sem, h]
  (repeat' (first | exact Conv.refl _ | refine And.intro ?_ ?_)) <;> first | omega | decide
noncomputable def fSignS : List AV → Option (Prop × AV) := onF1 fun q => (wl q.num ≤ 68719476736, .int .i64 (cmpQ q 0))
theorem fSignS_ok (hP : PrgOk P) (args p r) : fSignS args = some (p, r) → p → CSpec P 23 args r := onF1_ok (fun a h => by exact fSign_spec hP a h) args p r
theorem ent_spec (hP : PrgOk P) (q : Rat) (h : blen q.den ≤ 34359738368) : CSpec P 47 [(.agg [.opq (.frac (q)), .pad, .pad, .pad, .pad])] (.bool (decide (q.den = 1))) := by
  have HE := Ft0_all hP T2 hP.t2
  refine CSpec.cv ?_ (.fracIn q .nil)
  have hl : blen (q.den - 1) ≤ 68719476736 := blen_le_of (Nat.sub_le _ _) (Nat.le_trans h (by decide))
  have hp := q.den_pos
  have e : (blen (q.den - 1) == 0) = decide (q.den = 1) := by
    rw [Bool.eq_iff_iff]; simp only [beq_iff_eq, decide_eq_true_eq, blen_zero_iff]; omega
  unfold fC
  refine CSpec_vc (E := ⟨T2, Ft0⟩) (fn47 hP) HE hP.mix rfl (by first | rfl | (simp only [go_sem]; done)) (by first | rfl | (simp only [go_sem]; done)) (Nat.le_of_ble_eq_true rfl) ?_
  simp (maxSteps := 1000000) only [go_sem, hl, e]
  (repeat' (first | exact Conv.refl _ | refine And.intro ?_ ?_)) <;> first | omega | decide
noncomputable def entS : List AV → Option (Prop × AV) := onF1 fun q => (blen q.den ≤ 34359738368, .bool (decide (q.den = 1)))
theorem entS_ok (hP : PrgOk P) (args p r) : entS args = some (p, r) → p → CSpec P 47 args r := onF1_ok (fun a h => by exact ent_spec hP a h) args p r
theorem by_spec (hP : PrgOk P) (z : Int) (d : Nat) (hz : wl z ≤ 34359738368) (hd : blen d ≤ 34359738368) : CSpec P 49 [(.agg [.opq (.whole (z)), .pad, .pad]), (.agg [.opq (.nat (d)), .pad])] (.agg [.opq (.whole (z * d)), .pad, .pad]) := by
  have HE := Ft0_all hP T2 hP.t2
  have hd' := Nat.le_trans hd (show _ ≤ 68719476736 by decide)
  have hdz : wl (d : Int) ≤ 34359738368 := hd
  refine CSpec_vc (E := ⟨T2, Ft0⟩) (fn49 hP) HE hP.mix rfl (by first | rfl | (simp only [go_sem]; done)) (by first | rfl | (simp only [go_sem]; done)) (Nat.le_of_ble_eq_true rfl) ?_
  simp (maxSteps := 1000000) only [go_sem, hz, hd', hdz, sg_abs, sg_f]
  (repeat' (first | exact Conv.refl _ | refine And.intro ?_ ?_)) <;> first | omega | decide
def byS : List AV → Option (Prop × AV)
  | [x, y] => (rawW x).bind fun z => (rawN y).map fun d => (z.1 ∧ d.1 ∧ wl z.2 ≤ 34359738368 ∧ blen d.2 ≤ 34359738368, (.agg [.opq (.whole (z.2 * d.2)), .pad, .pad]))
  | _ => none
theorem byS_eq (x y) : byS [x, y] = (rawW x).bind fun z => (rawN y).map fun d => (z.1 ∧ d.1 ∧ wl z.2 ≤ 34359738368 ∧ blen d.2 ≤ 34359738368, (.agg [.opq (.whole (z.2 * d.2)), .pad, .pad])) := rfl
theorem byS_ok (hP : PrgOk P) (args p r) (he : byS args = some (p, r)) (hp : p) : CSpec P 49 args r := by
  unfold byS at he
  split at he
  · simp only [Option.bind_eq_some_iff, Option.map_eq_some_iff, Prod.exists, Prod.mk.injEq] at he
    obtain ⟨q, a, h1, q', b, h2, rfl, rfl⟩ := he
    exact (by_spec hP a b hp.2.2.1 hp.2.2.2).cv (rawW_cv h1 hp.1 (rawN_cv h2 hp.2.1 .nil))
  · simp at he
theorem fOf_spec (hP : PrgOk P) (z : Int) : CSpec P 19 [(.agg [.opq (.whole (z)), .pad, .pad])] (.agg [.opq (.frac ((z : Rat))), .pad, .pad, .pad, .pad]) := by
  have HE := Ft0_all hP T2 hP.t2
  refine CSpec.conv (r := .agg (fC (z : Rat))) ?_ (.frac _)
  have e : fC (z : Rat) = [.opq (.whole z), .pad, .pad, .opq (.nat 0), .pad] := rfl
  rw [e]
  refine CSpec_vc (E := ⟨T2, Ft0⟩) (fn19 hP) HE hP.mix rfl (by first | rfl | (simp only [go_sem]; done)) (by first | rfl | (simp only [go_sem]; done)) (Nat.le_of_ble_eq_true rfl) ?_
  simp (maxSteps := 1000000) only [go_sem]
  (repeat' (first | exact Conv.refl _ | refine And.intro ?_ ?_)) <;> first | omega | decide
def fOfS : List AV → Option (Prop × AV) := onW1 fun z => (True, (.agg [.opq (.frac ((z : Rat))), .pad, .pad, .pad, .pad]))
theorem fOfS_ok (hP : PrgOk P) (args p r) : fOfS args = some (p, r) → p → CSpec P 19 args r := onW1_ok (fun a _ => by exact fOf_spec hP a) args p r
theorem fInt_spec (hP : PrgOk P) (n : Int) (h1 : -9223372036854775808 ≤ n) (h2 : n ≤ 9223372036854775807) : CSpec P 32 [.int .i64 n] (.agg [.opq (.frac ((n : Rat))), .pad, .pad, .pad, .pad]) := by
  have HE := Ft0_all hP T2 hP.t2
  refine CSpec.conv (r := .agg (fC (n : Rat))) ?_ (.frac _)
  have e : fC (n : Rat) = [.opq (.whole n), .pad, .pad, .opq (.nat 0), .pad] := rfl
  rw [e]
  refine CSpec_vc (E := ⟨T2, Ft0⟩) (fn32 hP) HE hP.mix rfl (by first | rfl | (simp only [go_sem]; done)) (by first | rfl | (simp only [go_sem]; done)) (Nat.le_of_ble_eq_true rfl) ?_
  simp (maxSteps := 1000000) only [go_sem, h1, h2]
  (repeat' (first | exact Conv.refl _ | refine And.intro ?_ ?_)) <;> first | omega | decide
def fIntS : List AV → Option (Prop × AV)
  | [.int .i64 n] => some (-9223372036854775808 ≤ n ∧ n ≤ 9223372036854775807, (.agg [.opq (.frac ((n : Rat))), .pad, .pad, .pad, .pad]))
  | _ => none
theorem fIntS_ok (hP : PrgOk P) (args p r) (h : fIntS args = some (p, r)) (hp : p) : CSpec P 32 args r := by
  unfold fIntS at h
  split at h
  · simp only [Option.some.injEq, Prod.mk.injEq] at h
    obtain ⟨rfl, rfl⟩ := h
    exact fInt_spec hP _ hp.1 hp.2
  · simp at h
noncomputable def fNegS : List AV → Option (Prop × AV) := onF1 fun q => (wl q.num ≤ 68719476736, (.agg [.opq (.frac (qneg q)), .pad, .pad, .pad, .pad]))
attribute [go_sem] fDenS fNumS fSignS entS byS_eq fOfS fIntS fNegS
noncomputable def Ft1 : Nat → List AV → Option (Prop × AV) := addS (addS (addS (addS (addS (addS (addS (addS Ft0 38 lowS) 12 fDenS) 15 fNumS) 23 fSignS) 47 entS) 49 byS) 19 fOfS) 32 fIntS
theorem Ft1_all (hP : PrgOk P) (T) (hT : TyOk P T) : EnvOk P ⟨T, Ft1⟩ := (((((((((Ft0_all hP T hT).add (lowS_ok hP)).add (fDenS_ok hP)).add (fNumS_ok hP)).add (fSignS_ok hP)).add (entS_ok hP)).add (byS_ok hP)).add (fOfS_ok hP)).add (fIntS_ok hP))
theorem Ft1_at (f a) : Ft1 f a = (addS (addS (addS (addS (addS (addS (addS (addS Ft0 38 lowS) 12 fDenS) 15 fNumS) 23 fSignS) 47 entS) 49 byS) 19 fOfS) 32 fIntS) f a := rfl
attribute [go_sem] Ft1_at
end Go.Proofs.YtjnhekedclcbfaaDoor.AM
/- Fractions: sums, products, order. -/
namespace Go.Proofs.YtjnhekedclcbfaaDoor.AM
set_option linter.all false
set_option autoImplicit true
set_option relaxedAutoImplicit true
open Go Go.Proofs
set_option maxRecDepth 100000
set_option maxHeartbeats 8000000
set_option linter.unusedSimpArgs false
variable {P : Program}

theorem fl_num {q : Rat} {n : Nat} (h : fl q ≤ n) : wl q.num ≤ n := (fl_le.1 h).1
theorem fl_den {q : Rat} {n : Nat} (h : fl q ≤ n) : blen q.den ≤ n := (fl_le.1 h).2
theorem fl_denZ {q : Rat} {n : Nat} (h : fl q ≤ n) : wl (q.den : Int) ≤ n := (fl_le.1 h).2
theorem blen_mul' {a b n m : Nat} (h : blen a ≤ n) (h' : blen b ≤ m) : blen (a * b) ≤ n + m := blen_mul_le h h'
/-- The premise on a length, wherever it is asked. -/
theorem fl_any {q : Rat} (h : fl q ≤ FB) {n : Nat} (hn : FB ≤ n) : (wl q.num ≤ n) = True ∧ (blen q.den ≤ n) = True := ⟨eq_true (Nat.le_trans (fl_num h) hn), eq_true (Nat.le_trans (fl_den h) hn)⟩
theorem fCmp_spec (hP : PrgOk P) (a b : Rat) (ha : fl a ≤ FB) (hb : fl b ≤ FB) : CSpec P 18 [(.agg [.opq (.frac (a)), .pad, .pad, .pad, .pad]), (.agg [.opq (.frac (b)), .pad, .pad, .pad, .pad])] (.int .i64 (cmpQ a b)) := by
  have HE := Ft1_all hP T2 hP.t2
  refine CSpec.cv ?_ (.fracIn a (.fracIn b .nil))
  have a1 : wl a.num ≤ 34359738368 := Nat.le_trans (fl_num ha) (by decide)
  have a2 : blen a.den ≤ 34359738368 := Nat.le_trans (fl_den ha) (by decide)
  have a3 : wl a.num ≤ 68719476736 := Nat.le_trans (fl_num ha) (by decide)
  have a4 : blen a.den ≤ 68719476736 := Nat.le_trans (fl_den ha) (by decide)
  have a5 : 0 < a.den := a.den_pos
  have b1 : wl b.num ≤ 34359738368 := Nat.le_trans (fl_num hb) (by decide)
  have b2 : blen b.den ≤ 34359738368 := Nat.le_trans (fl_den hb) (by decide)
  have b3 : wl b.num ≤ 68719476736 := Nat.le_trans (fl_num hb) (by decide)
  have b4 : blen b.den ≤ 68719476736 := Nat.le_trans (fl_den hb) (by decide)
  have b5 : 0 < b.den := b.den_pos
  have m1 : wl (a.num * b.den) ≤ 68719476736 := Nat.le_trans (wl_mul (fl_num ha) (fl_denZ hb)) (by decide)
  have m2 : wl (b.num * a.den) ≤ 68719476736 := Nat.le_trans (wl_mul (fl_num hb) (fl_denZ ha)) (by decide)
  rw [cmpQ_mk]
  unfold fC
  refine CSpec_vc (E := ⟨T2, Ft1⟩) (fn18 hP) HE hP.mix rfl (by first | rfl | (simp only [go_sem]; done)) (by first | rfl | (simp only [go_sem]; done)) (Nat.le_of_ble_eq_true rfl) ?_
  by_cases h1 : a.den = 1
  · by_cases h2 : b.den = 1
    · have h1' : decide (a.den = 1) = true := decide_eq_true h1
      have h2' : decide (b.den = 1) = true := decide_eq_true h2
      have e : cmpZ (a.num * b.den) (b.num * a.den) = cmpZ a.num b.num := by rw [h1, h2, Int.natCast_one, Int.mul_one, Int.mul_one]
      rw [e]
      simp (maxSteps := 1000000) only [go_sem, a1, a2, a3, b1, b2, b3, m1, m2, h1', h2']
      (repeat' (first | exact Conv.refl _ | refine And.intro ?_ ?_)) <;> first | omega | decide
    · have h1' : decide (a.den = 1) = true := decide_eq_true h1
      have h2' : decide (b.den = 1) = false := decide_eq_false h2
      simp (maxSteps := 1000000) only [go_sem, a1, a2, a3, b1, b2, b3, m1, m2, h1', h2']
      (repeat' (first | exact Conv.refl _ | refine And.intro ?_ ?_)) <;> first | omega | decide
  · have h1' : decide (a.den = 1) = false := decide_eq_false h1
    simp (maxSteps := 1000000) only [go_sem, a1, a2, a3, b1, b2, b3, m1, m2, h1']
    (repeat' (first | exact Conv.refl _ | refine And.intro ?_ ?_)) <;> first | omega | decide
noncomputable def fCmpS : List AV → Option (Prop × AV) := onF2 fun a b => (fl a ≤ FB ∧ fl b ≤ FB, .int .i64 (cmpQ a b))
theorem fCmpS_ok (hP : PrgOk P) (args p r) : fCmpS args = some (p, r) → p → CSpec P 18 args r := onF2_ok (fun a b h => by exact fCmp_spec hP a b h.1 h.2) args p r

end Go.Proofs.YtjnhekedclcbfaaDoor.AM
/- Fractions: sums, products. -/
namespace Go.Proofs.YtjnhekedclcbfaaDoor.AM
set_option linter.all false
set_option autoImplicit true
set_option relaxedAutoImplicit true
open Go Go.Proofs
set_option maxRecDepth 100000
set_option maxHeartbeats 8000000
set_option linter.unusedSimpArgs false
variable {P : Program}

theorem jAdd_spec (hP : PrgOk P) (a b : Rat) (ha : fl a ≤ FB) (hb : fl b ≤ FB) : CSpec P 53 [(.agg [.opq (.frac (a)), .pad, .pad, .pad, .pad]), (.agg [.opq (.frac (b)), .pad, .pad, .pad, .pad]), .fn 20 [] []] (.agg [.opq (.frac (qadd a b)), .pad, .pad, .pad, .pad]) := by
  have HE := Ft1_all hP T2 hP.t2
  rw [qadd_eq]
  refine CSpec.cv ?_ (.fracIn a (.fracIn b (.refl _)))
  have a1 : wl a.num ≤ 34359738368 := Nat.le_trans (fl_num ha) (by decide)
  have a2 : blen a.den ≤ 34359738368 := Nat.le_trans (fl_den ha) (by decide)
  have a3 : wl a.num ≤ 68719476736 := Nat.le_trans (fl_num ha) (by decide)
  have a4 : blen a.den ≤ 68719476736 := Nat.le_trans (fl_den ha) (by decide)
  have a5 : 0 < a.den := a.den_pos
  have b1 : wl b.num ≤ 34359738368 := Nat.le_trans (fl_num hb) (by decide)
  have b2 : blen b.den ≤ 34359738368 := Nat.le_trans (fl_den hb) (by decide)
  have b3 : wl b.num ≤ 68719476736 := Nat.le_trans (fl_num hb) (by decide)
  have b4 : blen b.den ≤ 68719476736 := Nat.le_trans (fl_den hb) (by decide)
  have b5 : 0 < b.den := b.den_pos
  have m0 : wl (a.num + b.num) ≤ 34359738368 := Nat.le_trans (wl_add (fl_num ha) (fl_num hb)) (by decide)
  have m1 : wl (a.num * b.den) ≤ 34359738368 := Nat.le_trans (wl_mul (fl_num ha) (fl_denZ hb)) (by decide)
  have m2 : wl (b.num * a.den) ≤ 34359738368 := Nat.le_trans (wl_mul (fl_num hb) (fl_denZ ha)) (by decide)
  have m3 : wl (a.num * b.den + b.num * a.den) ≤ 34359738368 := Nat.le_trans (wl_add (wl_mul (fl_num ha) (fl_denZ hb)) (wl_mul (fl_num hb) (fl_denZ ha))) (by decide)
  have m4 : blen (a.den * b.den) ≤ 34359738368 := Nat.le_trans (blen_mul_le (fl_den ha) (fl_den hb)) (by decide)
  have m5 : 0 < a.den * b.den := Nat.mul_pos a5 b5
  by_cases h : a.den = 1 ∧ b.den = 1
  · refine CSpec.conv (r := .agg (fC (a + b))) ?_ (.frac _)
    have e : fC (a + b) = [.opq (.whole (a.num + b.num)), .pad, .pad, .opq (.nat 0), .pad] := by
      rw [add_mk, h.1, h.2, fC_mk (by decide) (Nat.gcd_one_right _), Int.natCast_one, Int.mul_one, Int.mul_one]
    have h1' : decide (a.den = 1) = true := decide_eq_true h.1
    have h2' : decide (b.den = 1) = true := decide_eq_true h.2
    rw [e]
    unfold fC
    refine CSpec_vc (E := ⟨T2, Ft1⟩) (fn53 hP) HE hP.mix rfl (by first | rfl | (simp only [go_sem]; done)) (by first | rfl | (simp only [go_sem]; done)) (Nat.le_of_ble_eq_true rfl) ?_
    simp (maxSteps := 1000000) only [go_sem, a1, a2, b1, b2, m0, h1', h2']
    (repeat' (first | exact Conv.refl _ | refine And.intro ?_ ?_)) <;> first | omega | decide
  · rw [add_mk, ← qlow_eq]
    unfold fC
    refine CSpec_vc (E := ⟨T2, Ft1⟩) (fn53 hP) HE hP.mix rfl (by first | rfl | (simp only [go_sem]; done)) (by first | rfl | (simp only [go_sem]; done)) (Nat.le_of_ble_eq_true rfl) ?_
    by_cases h1 : a.den = 1
    · have h2 : ¬ b.den = 1 := fun e => h ⟨h1, e⟩
      have h1' : decide (a.den = 1) = true := decide_eq_true h1
      have h2' : decide (b.den = 1) = false := decide_eq_false h2
      simp (maxSteps := 1000000) only [go_sem, a1, a2, a4, b1, b2, b4, m1, m2, m3, m4, m5, h1', h2']
      (repeat' (first | exact Conv.refl _ | refine And.intro ?_ ?_)) <;> first | omega | decide
    · have h1' : decide (a.den = 1) = false := decide_eq_false h1
      simp (maxSteps := 1000000) only [go_sem, a1, a2, a4, b1, b2, b4, m1, m2, m3, m4, m5, h1']
      (repeat' (first | exact Conv.refl _ | refine And.intro ?_ ?_)) <;> first | omega | decide
theorem jSub_spec (hP : PrgOk P) (a b : Rat) (ha : fl a ≤ FB) (hb : fl b ≤ FB) : CSpec P 53 [(.agg [.opq (.frac (a)), .pad, .pad, .pad, .pad]), (.agg [.opq (.frac (b)), .pad, .pad, .pad, .pad]), .fn 56 [] []] (.agg [.opq (.frac (qsub a b)), .pad, .pad, .pad, .pad]) := by
  have HE := Ft1_all hP T2 hP.t2
  rw [qsub_eq]
  refine CSpec.cv ?_ (.fracIn a (.fracIn b (.refl _)))
  have a1 : wl a.num ≤ 34359738368 := Nat.le_trans (fl_num ha) (by decide)
  have a2 : blen a.den ≤ 34359738368 := Nat.le_trans (fl_den ha) (by decide)
  have a3 : wl a.num ≤ 68719476736 := Nat.le_trans (fl_num ha) (by decide)
  have a4 : blen a.den ≤ 68719476736 := Nat.le_trans (fl_den ha) (by decide)
  have a5 : 0 < a.den := a.den_pos
  have b1 : wl b.num ≤ 34359738368 := Nat.le_trans (fl_num hb) (by decide)
  have b2 : blen b.den ≤ 34359738368 := Nat.le_trans (fl_den hb) (by decide)
  have b3 : wl b.num ≤ 68719476736 := Nat.le_trans (fl_num hb) (by decide)
  have b4 : blen b.den ≤ 68719476736 := Nat.le_trans (fl_den hb) (by decide)
  have b5 : 0 < b.den := b.den_pos
  have m0 : wl (a.num - b.num) ≤ 34359738368 := Nat.le_trans (wl_sub (fl_num ha) (fl_num hb)) (by decide)
  have m1 : wl (a.num * b.den) ≤ 34359738368 := Nat.le_trans (wl_mul (fl_num ha) (fl_denZ hb)) (by decide)
  have m2 : wl (b.num * a.den) ≤ 34359738368 := Nat.le_trans (wl_mul (fl_num hb) (fl_denZ ha)) (by decide)
  have m3 : wl (a.num * b.den - b.num * a.den) ≤ 34359738368 := Nat.le_trans (wl_sub (wl_mul (fl_num ha) (fl_denZ hb)) (wl_mul (fl_num hb) (fl_denZ ha))) (by decide)
  have m4 : blen (a.den * b.den) ≤ 34359738368 := Nat.le_trans (blen_mul_le (fl_den ha) (fl_den hb)) (by decide)
  have m5 : 0 < a.den * b.den := Nat.mul_pos a5 b5
  by_cases h : a.den = 1 ∧ b.den = 1
  · refine CSpec.conv (r := .agg (fC (a - b))) ?_ (.frac _)
    have e : fC (a - b) = [.opq (.whole (a.num - b.num)), .pad, .pad, .opq (.nat 0), .pad] := by
      rw [sub_mk, h.1, h.2, fC_mk (by decide) (Nat.gcd_one_right _), Int.natCast_one, Int.mul_one, Int.mul_one]
    have h1' : decide (a.den = 1) = true := decide_eq_true h.1
    have h2' : decide (b.den = 1) = true := decide_eq_true h.2
    rw [e]
    unfold fC
    refine CSpec_vc (E := ⟨T2, Ft1⟩) (fn53 hP) HE hP.mix rfl (by first | rfl | (simp only [go_sem]; done)) (by first | rfl | (simp only [go_sem]; done)) (Nat.le_of_ble_eq_true rfl) ?_
    simp (maxSteps := 1000000) only [go_sem, a1, a2, b1, b2, m0, h1', h2']
    (repeat' (first | exact Conv.refl _ | refine And.intro ?_ ?_)) <;> first | omega | decide
  · rw [sub_mk, ← qlow_eq]
    unfold fC
    refine CSpec_vc (E := ⟨T2, Ft1⟩) (fn53 hP) HE hP.mix rfl (by first | rfl | (simp only [go_sem]; done)) (by first | rfl | (simp only [go_sem]; done)) (Nat.le_of_ble_eq_true rfl) ?_
    by_cases h1 : a.den = 1
    · have h2 : ¬ b.den = 1 := fun e => h ⟨h1, e⟩
      have h1' : decide (a.den = 1) = true := decide_eq_true h1
      have h2' : decide (b.den = 1) = false := decide_eq_false h2
      simp (maxSteps := 1000000) only [go_sem, a1, a2, a4, b1, b2, b4, m1, m2, m3, m4, m5, h1', h2']
      (repeat' (first | exact Conv.refl _ | refine And.intro ?_ ?_)) <;> first | omega | decide
    · have h1' : decide (a.den = 1) = false := decide_eq_false h1
      simp (maxSteps := 1000000) only [go_sem, a1, a2, a4, b1, b2, b4, m1, m2, m3, m4, m5, h1']
      (repeat' (first | exact Conv.refl _ | refine And.intro ?_ ?_)) <;> first | omega | decide
noncomputable def joinS : List AV → Option (Prop × AV)
  | [x, y, .fn f [] []] => (rawF x).bind fun a => (rawF y).map fun b => (a.1 ∧ b.1 ∧ fl a.2 ≤ FB ∧ fl b.2 ≤ FB ∧ (f = 20 ∨ f = 56), (.agg [.opq (.frac (if f = 20 then qadd a.2 b.2 else qsub a.2 b.2)), .pad, .pad, .pad, .pad]))
  | _ => none
theorem joinS_eq (x y f) : joinS [x, y, .fn f [] []] = (rawF x).bind fun a => (rawF y).map fun b => (a.1 ∧ b.1 ∧ fl a.2 ≤ FB ∧ fl b.2 ≤ FB ∧ (f = 20 ∨ f = 56), (.agg [.opq (.frac (if f = 20 then qadd a.2 b.2 else qsub a.2 b.2)), .pad, .pad, .pad, .pad])) := rfl
theorem joinS_ok (hP : PrgOk P) (args p r) (he : joinS args = some (p, r)) (hp : p) : CSpec P 53 args r := by
  unfold joinS at he
  split at he
  · simp only [Option.bind_eq_some_iff, Option.map_eq_some_iff, Prod.exists, Prod.mk.injEq] at he
    obtain ⟨q, a, h1, q', b, h2, rfl, rfl⟩ := he
    obtain ⟨p1, p2, p3, p4, h | h⟩ := hp
    · subst h
      exact (jAdd_spec hP a b p3 p4).cv (rawF_cv h1 p1 (rawF_cv h2 p2 (.refl _)))
    · subst h
      exact (jSub_spec hP a b p3 p4).cv (rawF_cv h1 p1 (rawF_cv h2 p2 (.refl _)))
  · simp at he
attribute [go_sem] joinS_eq fCmpS
noncomputable def Ft2 : Nat → List AV → Option (Prop × AV) := addS (addS Ft1 18 fCmpS) 53 joinS
theorem Ft2_all (hP : PrgOk P) (T) (hT : TyOk P T) : EnvOk P ⟨T, Ft2⟩ := (((Ft1_all hP T hT).add (fCmpS_ok hP)).add (joinS_ok hP))
theorem Ft2_at (f a) : Ft2 f a = (addS (addS Ft1 18 fCmpS) 53 joinS) f a := rfl
attribute [go_sem] Ft2_at
theorem fAdd_spec (hP : PrgOk P) (a b : Rat) (ha : fl a ≤ FB) (hb : fl b ≤ FB) : CSpec P 24 [(.agg [.opq (.frac (a)), .pad, .pad, .pad, .pad]), (.agg [.opq (.frac (b)), .pad, .pad, .pad, .pad])] (.agg [.opq (.frac (qadd a b)), .pad, .pad, .pad, .pad]) := by
  have HE := Ft2_all hP TF hP.tF
  refine CSpec_vc (E := ⟨TF, Ft2⟩) (fn24 hP) HE hP.mix rfl (by first | rfl | (simp only [go_sem]; done)) (by first | rfl | (simp only [go_sem]; done)) (Nat.le_of_ble_eq_true rfl) ?_
  simp (maxSteps := 1000000) only [go_sem, ha, hb]
  (repeat' (first | exact Conv.refl _ | refine And.intro ?_ ?_)) <;> first | omega | decide
noncomputable def fAddS : List AV → Option (Prop × AV) := onF2 fun a b => (fl a ≤ FB ∧ fl b ≤ FB, (.agg [.opq (.frac (qadd a b)), .pad, .pad, .pad, .pad]))
theorem fAddS_ok (hP : PrgOk P) (args p r) : fAddS args = some (p, r) → p → CSpec P 24 args r := onF2_ok (fun a b h => by exact fAdd_spec hP a b h.1 h.2) args p r
theorem fSub_spec (hP : PrgOk P) (a b : Rat) (ha : fl a ≤ FB) (hb : fl b ≤ FB) : CSpec P 27 [(.agg [.opq (.frac (a)), .pad, .pad, .pad, .pad]), (.agg [.opq (.frac (b)), .pad, .pad, .pad, .pad])] (.agg [.opq (.frac (qsub a b)), .pad, .pad, .pad, .pad]) := by
  have HE := Ft2_all hP TF hP.tF
  refine CSpec_vc (E := ⟨TF, Ft2⟩) (fn27 hP) HE hP.mix rfl (by first | rfl | (simp only [go_sem]; done)) (by first | rfl | (simp only [go_sem]; done)) (Nat.le_of_ble_eq_true rfl) ?_
  simp (maxSteps := 1000000) only [go_sem, ha, hb]
  (repeat' (first | exact Conv.refl _ | refine And.intro ?_ ?_)) <;> first | omega | decide
noncomputable def fSubS : List AV → Option (Prop × AV) := onF2 fun a b => (fl a ≤ FB ∧ fl b ≤ FB, (.agg [.opq (.frac (qsub a b)), .pad, .pad, .pad, .pad]))
theorem fSubS_ok (hP : PrgOk P) (args p r) : fSubS args = some (p, r) → p → CSpec P 27 args r := onF2_ok (fun a b h => by exact fSub_spec hP a b h.1 h.2) args p r
theorem fMul_spec (hP : PrgOk P) (a b : Rat) (ha : fl a ≤ FB) (hb : fl b ≤ FB) : CSpec P 25 [(.agg [.opq (.frac (a)), .pad, .pad, .pad, .pad]), (.agg [.opq (.frac (b)), .pad, .pad, .pad, .pad])] (.agg [.opq (.frac (qmul a b)), .pad, .pad, .pad, .pad]) := by
  have HE := Ft1_all hP T2 hP.t2
  rw [qmul_eq]
  refine CSpec.cv ?_ (.fracIn a (.fracIn b .nil))
  have a1 : wl a.num ≤ 34359738368 := Nat.le_trans (fl_num ha) (by decide)
  have a2 : blen a.den ≤ 34359738368 := Nat.le_trans (fl_den ha) (by decide)
  have a3 : wl a.num ≤ 68719476736 := Nat.le_trans (fl_num ha) (by decide)
  have a4 : blen a.den ≤ 68719476736 := Nat.le_trans (fl_den ha) (by decide)
  have a5 : 0 < a.den := a.den_pos
  have b1 : wl b.num ≤ 34359738368 := Nat.le_trans (fl_num hb) (by decide)
  have b2 : blen b.den ≤ 34359738368 := Nat.le_trans (fl_den hb) (by decide)
  have b3 : wl b.num ≤ 68719476736 := Nat.le_trans (fl_num hb) (by decide)
  have b4 : blen b.den ≤ 68719476736 := Nat.le_trans (fl_den hb) (by decide)
  have b5 : 0 < b.den := b.den_pos
  have m0 : wl (a.num * b.num) ≤ 34359738368 := Nat.le_trans (wl_mul (fl_num ha) (fl_num hb)) (by decide)
  have m4 : blen (a.den * b.den) ≤ 34359738368 := Nat.le_trans (blen_mul_le (fl_den ha) (fl_den hb)) (by decide)
  have m5 : 0 < a.den * b.den := Nat.mul_pos a5 b5
  by_cases h : a.den = 1 ∧ b.den = 1
  · refine CSpec.conv (r := .agg (fC (a * b))) ?_ (.frac _)
    have e : fC (a * b) = [.opq (.whole (a.num * b.num)), .pad, .pad, .opq (.nat 0), .pad] := by
      rw [mul_mk, h.1, h.2, fC_mk (by decide) (Nat.gcd_one_right _)]
    have h1' : decide (a.den = 1) = true := decide_eq_true h.1
    have h2' : decide (b.den = 1) = true := decide_eq_true h.2
    rw [e]
    unfold fC
    refine CSpec_vc (E := ⟨T2, Ft1⟩) (fn25 hP) HE hP.mix rfl (by first | rfl | (simp only [go_sem]; done)) (by first | rfl | (simp only [go_sem]; done)) (Nat.le_of_ble_eq_true rfl) ?_
    simp (maxSteps := 1000000) only [go_sem, a1, a2, b1, b2, m0, h1', h2']
    (repeat' (first | exact Conv.refl _ | refine And.intro ?_ ?_)) <;> first | omega | decide
  · rw [mul_mk, ← qlow_eq]
    unfold fC
    refine CSpec_vc (E := ⟨T2, Ft1⟩) (fn25 hP) HE hP.mix rfl (by first | rfl | (simp only [go_sem]; done)) (by first | rfl | (simp only [go_sem]; done)) (Nat.le_of_ble_eq_true rfl) ?_
    by_cases h1 : a.den = 1
    · have h2 : ¬ b.den = 1 := fun e => h ⟨h1, e⟩
      have h1' : decide (a.den = 1) = true := decide_eq_true h1
      have h2' : decide (b.den = 1) = false := decide_eq_false h2
      simp (maxSteps := 1000000) only [go_sem, a1, a2, a4, b1, b2, b4, m0, m4, m5, h1', h2']
      (repeat' (first | exact Conv.refl _ | refine And.intro ?_ ?_)) <;> first | omega | decide
    · have h1' : decide (a.den = 1) = false := decide_eq_false h1
      simp (maxSteps := 1000000) only [go_sem, a1, a2, a4, b1, b2, b4, m0, m4, m5, h1']
      (repeat' (first | exact Conv.refl _ | refine And.intro ?_ ?_)) <;> first | omega | decide
noncomputable def fMulS : List AV → Option (Prop × AV) := onF2 fun a b => (fl a ≤ FB ∧ fl b ≤ FB, (.agg [.opq (.frac (qmul a b)), .pad, .pad, .pad, .pad]))
theorem fMulS_ok (hP : PrgOk P) (args p r) : fMulS args = some (p, r) → p → CSpec P 25 args r := onF2_ok (fun a b h => by exact fMul_spec hP a b h.1 h.2) args p r
theorem sgn_zero (z : Int) : (sgnZ z == 0) = decide (z = 0) := by
  unfold sgnZ; split
  · rename_i h; rw [decide_eq_true h]; rfl
  · rename_i h; rw [decide_eq_false h]; split <;> rfl
theorem fDiv_spec (hP : PrgOk P) (a b : Rat) (ha : fl a ≤ FB) (hb : fl b ≤ FB) : CSpec P 28 [(.agg [.opq (.frac (a)), .pad, .pad, .pad, .pad]), (.agg [.opq (.frac (b)), .pad, .pad, .pad, .pad])] (if b = 0 then .tup [(.agg [.opq (.frac (0)), .pad, .pad, .pad, .pad]), .int .i64 11] else .tup [(.agg [.opq (.frac (qdiv a b)), .pad, .pad, .pad, .pad]), .int .i64 0]) := by
  have HE := Ft1_all hP T2 hP.t2
  refine CSpec.cv ?_ (.fracIn a (.fracIn b .nil))
  have a1 : wl a.num ≤ 34359738368 := Nat.le_trans (fl_num ha) (by decide)
  have a2 : blen a.den ≤ 34359738368 := Nat.le_trans (fl_den ha) (by decide)
  have a3 : wl a.num ≤ 68719476736 := Nat.le_trans (fl_num ha) (by decide)
  have a4 : blen a.den ≤ 68719476736 := Nat.le_trans (fl_den ha) (by decide)
  have a5 : 0 < a.den := a.den_pos
  have b1 : wl b.num ≤ 34359738368 := Nat.le_trans (fl_num hb) (by decide)
  have b2 : blen b.den ≤ 34359738368 := Nat.le_trans (fl_den hb) (by decide)
  have b3 : wl b.num ≤ 68719476736 := Nat.le_trans (fl_num hb) (by decide)
  have b4 : blen b.den ≤ 68719476736 := Nat.le_trans (fl_den hb) (by decide)
  have b5 : 0 < b.den := b.den_pos
  by_cases h0 : b = 0
  · have hs : cmpQ b 0 = 0 := by rw [h0]; rfl
    rw [if_pos h0]
    refine CSpec.conv (r := .tup [.agg (fC 0), .int .i64 11]) ?_ (CvL.conv (CvL.tup (.fracOut 0 (.refl _)) .nil))
    have e : fC 0 = [.opq (.whole 0), .pad, .pad, .opq (.nat 0), .pad] := rfl
    rw [e]
    unfold fC
    refine CSpec_vc (E := ⟨T2, Ft1⟩) (fn28 hP) HE hP.mix rfl (by first | rfl | (simp only [go_sem]; done)) (by first | rfl | (simp only [go_sem]; done)) (Nat.le_of_ble_eq_true rfl) ?_
    simp (maxSteps := 1000000) only [go_sem, b3, hs]
    (repeat' (first | exact Conv.refl _ | refine And.intro ?_ ?_)) <;> first | omega | decide
  · have hn : b.num ≠ 0 := fun e => h0 (num_zero.1 e)
    have hs : (sgnZ b.num == 0) = false := by rw [sgn_zero, decide_eq_false hn]
    have hr : -9223372036854775808 ≤ sgnZ b.num ∧ sgnZ b.num ≤ 9223372036854775807 := by
      unfold sgnZ; split
      · decide
      · split <;> decide
    have hr1 := hr.1
    have hr2 := hr.2
    have sb : wl (sgnZ b.num) ≤ 34359738368 := Nat.le_trans (wl_sgn _) (by decide)
    have m1 : wl (a.num * sgnZ b.num) ≤ 34359738368 := Nat.le_trans (wl_mul (fl_num ha) (wl_sgn _)) (by decide)
    have m2 : wl (a.num * sgnZ b.num * b.den) ≤ 34359738368 := Nat.le_trans (wl_mul (wl_mul (fl_num ha) (wl_sgn _)) (fl_denZ hb)) (by decide)
    have m3 : blen (a.den * b.num.natAbs) ≤ 34359738368 := Nat.le_trans (blen_mul_le (fl_den ha) (fl_num hb)) (by decide)
    have m4 : 0 < a.den * b.num.natAbs := Nat.mul_pos a5 (by omega)
    have b6 : blen b.num.natAbs ≤ 68719476736 := b3
    rw [if_neg h0, qdiv_eq, div_mk hn, ← qlow_eq]
    unfold fC
    refine CSpec_vc (E := ⟨T2, Ft1⟩) (fn28 hP) HE hP.mix rfl (by first | rfl | (simp only [go_sem]; done)) (by first | rfl | (simp only [go_sem]; done)) (Nat.le_of_ble_eq_true rfl) ?_
    simp (maxSteps := 1000000) only [go_sem, a1, a2, a4, b1, b2, b3, b4, b6, hs, ← sgn_cmp, hr1, hr2, sb, m1, m2, m3, m4]
    (repeat' (first | exact Conv.refl _ | refine And.intro ?_ ?_)) <;> first | omega | decide
noncomputable def fDivS : List AV → Option (Prop × AV) := onF2 fun a b => (fl a ≤ FB ∧ fl b ≤ FB, if b = 0 then .tup [(.agg [.opq (.frac (0)), .pad, .pad, .pad, .pad]), .int .i64 11] else .tup [(.agg [.opq (.frac (qdiv a b)), .pad, .pad, .pad, .pad]), .int .i64 0])
theorem fDivS_ok (hP : PrgOk P) (args p r) : fDivS args = some (p, r) → p → CSpec P 28 args r := onF2_ok (fun a b h => by exact fDiv_spec hP a b h.1 h.2) args p r
attribute [go_sem] fAddS fSubS fMulS fDivS
end Go.Proofs.YtjnhekedclcbfaaDoor.AM
/- Fractions: rounded down, told az texts, made of two. -/
namespace Go.Proofs.YtjnhekedclcbfaaDoor.AM
set_option linter.all false
set_option autoImplicit true
set_option relaxedAutoImplicit true
open Go Go.Proofs
set_option maxRecDepth 100000
set_option maxHeartbeats 8000000
set_option linter.unusedSimpArgs false
variable {P : Program}

noncomputable def Ft3 : Nat → List AV → Option (Prop × AV) := addS (addS (addS (addS Ft2 24 fAddS) 27 fSubS) 25 fMulS) 28 fDivS
theorem Ft3_all (hP : PrgOk P) (T) (hT : TyOk P T) : EnvOk P ⟨T, Ft3⟩ := (((((Ft2_all hP T hT).add (fAddS_ok hP)).add (fSubS_ok hP)).add (fMulS_ok hP)).add (fDivS_ok hP))
theorem Ft3_at (f a) : Ft3 f a = (addS (addS (addS (addS Ft2 24 fAddS) 27 fSubS) 25 fMulS) 28 fDivS) f a := rfl
attribute [go_sem] Ft3_at
/-- Rounded down. -/
def flo (q : Rat) : Int := q.num / (q.den : Int)
theorem flo_neg {q : Rat} (h : q.num < 0) (hr : 0 < q.num.natAbs % q.den) : flo q = sg true (q.num.natAbs / q.den + 1) := by
  unfold flo
  have e := Nat.div_add_mod q.num.natAbs q.den
  have hd := q.den_pos
  have hl := Nat.mod_lt q.num.natAbs hd
  have hz : q.num = -(q.num.natAbs : Int) := by omega
  generalize q.num.natAbs = a at *
  generalize q.den = d at *
  rw [hz, sg_t]
  have hd' : (0 : Int) < d := by omega
  refine (Int.ediv_emod_unique hd' (r := (d : Int) - (a % d : Nat))).2 ⟨?_, by omega, by omega⟩ |>.1
  have e' : (d : Int) * ((a / d : Nat) : Int) + ((a % d : Nat) : Int) = (a : Int) := by exact_mod_cast e
  grind
theorem flo_negz {q : Rat} (h : q.num < 0) (hr : ¬ 0 < q.num.natAbs % q.den) : flo q = sg true (q.num.natAbs / q.den) := by
  unfold flo
  have e := Nat.div_add_mod q.num.natAbs q.den
  have hd := q.den_pos
  have hz : q.num = -(q.num.natAbs : Int) := by omega
  generalize q.num.natAbs = a at *
  generalize q.den = d at *
  rw [hz, sg_t]
  have hd' : (0 : Int) < d := by omega
  refine (Int.ediv_emod_unique hd' (r := 0)).2 ⟨?_, by omega, by omega⟩ |>.1
  have e' : (d : Int) * ((a / d : Nat) : Int) + ((a % d : Nat) : Int) = (a : Int) := by exact_mod_cast e
  have : ((a % d : Nat) : Int) = 0 := by omega
  grind
theorem flo_pos {q : Rat} (h : ¬ q.num < 0) : flo q = sg false (q.num.natAbs / q.den) := by
  unfold flo
  have hz : q.num = (q.num.natAbs : Int) := by omega
  rw [hz, sg_f, Int.natAbs_natCast]
  exact (Int.natCast_ediv _ _).symm
theorem flo_wl {q : Rat} {n : Nat} (h : wl q.num ≤ n) : wl (flo q) ≤ n + 1 := by
  have h0 : blen (q.num.natAbs / q.den) ≤ n := blen_le_of (Nat.div_le_self _ _) h
  by_cases h1 : q.num < 0
  · by_cases h2 : 0 < q.num.natAbs % q.den
    · rw [flo_neg h1 h2]; unfold wl; rw [sg_abs]
      rw [blen_le_iff] at *
      have : 2 ^ n * 2 = 2 ^ (n + 1) := (Nat.pow_succ 2 n).symm
      have := Nat.one_le_two_pow (n := n)
      omega
    · rw [flo_negz h1 h2]; unfold wl; rw [sg_abs]; omega
  · rw [flo_pos h1]; unfold wl; rw [sg_abs]; omega
theorem sgn_nn (z : Int) : (0 ≤ sgnZ z) = (0 ≤ z) := by
  unfold sgnZ; rw [eq_iff_iff]; split
  · omega
  · split <;> omega
theorem blen_pos' {a : Nat} : (0 < blen a) = (0 < a) := by rw [eq_iff_iff]; have := blen_zero_iff a; omega
theorem fFlo_spec (hP : PrgOk P) (q : Rat) (h : fl q ≤ FB) : CSpec P 11 [(.agg [.opq (.frac (q)), .pad, .pad, .pad, .pad])] (.agg [.opq (.whole (flo q)), .pad, .pad]) := by
  have HE := Ft1_all hP T2 hP.t2
  refine CSpec.cv ?_ (.fracIn q .nil)
  have a1 : wl q.num ≤ 34359738368 := Nat.le_trans (fl_num h) (by decide)
  have a2 : blen q.den ≤ 34359738368 := Nat.le_trans (fl_den h) (by decide)
  have a3 : wl q.num ≤ 68719476736 := Nat.le_trans (fl_num h) (by decide)
  have a4 : blen q.den ≤ 68719476736 := Nat.le_trans (fl_den h) (by decide)
  have a5 : 0 < q.den := q.den_pos
  have a6 : blen q.num.natAbs ≤ 68719476736 := a3
  have dz : (q.den = 0) = False := eq_false (by omega)
  have dv : blen (q.num.natAbs / q.den) ≤ 34359738368 := blen_le_of (Nat.div_le_self _ _) a1
  have dv' := Nat.le_trans dv (show _ ≤ 68719476736 by decide)
  have md : blen (q.num.natAbs % q.den) ≤ 68719476736 := blen_le_of (Nat.le_of_lt (Nat.mod_lt _ a5)) a4
  have b1 : blen 1 ≤ 68719476736 := by decide
  have d1 : blen (q.num.natAbs / q.den + 1) ≤ 68719476736 := Nat.le_trans (blen_add_le dv (show blen 1 ≤ 34359738368 by decide)) (by decide)
  unfold fC
  refine CSpec_vc (E := ⟨T2, Ft1⟩) (fn11 hP) HE hP.mix rfl (by first | rfl | (simp only [go_sem]; done)) (by first | rfl | (simp only [go_sem]; done)) (Nat.le_of_ble_eq_true rfl) ?_
  by_cases h1 : q.num < 0
  · have hz : (0 ≤ q.num) = False := eq_false (by omega)
    by_cases h2 : 0 < q.num.natAbs % q.den
    · rw [flo_neg h1 h2]
      simp (maxSteps := 1000000) only [go_sem, a1, a2, a3, a4, a6, dz, dv', md, b1, d1, sgn_nn, h1, hz, h2, blen_pos']
      (repeat' (first | exact Conv.refl _ | refine And.intro ?_ ?_)) <;> first | omega | decide
    · rw [flo_negz h1 h2]
      simp (maxSteps := 1000000) only [go_sem, a1, a2, a3, a4, a6, dz, dv', md, b1, d1, sgn_nn, h1, hz, h2, blen_pos']
      (repeat' (first | exact Conv.refl _ | refine And.intro ?_ ?_)) <;> first | omega | decide
  · have hz : (0 ≤ q.num) = True := eq_true (by omega)
    rw [flo_pos h1]
    simp (maxSteps := 1000000) only [go_sem, a1, a2, a3, a4, a6, dz, dv', md, b1, d1, sgn_nn, h1, hz]
    (repeat' (first | exact Conv.refl _ | refine And.intro ?_ ?_)) <;> first | omega | decide
noncomputable def fFloS : List AV → Option (Prop × AV) := onF1 fun q => (fl q ≤ FB, (.agg [.opq (.whole (flo q)), .pad, .pad]))
theorem fFloS_ok (hP : PrgOk P) (args p r) : fFloS args = some (p, r) → p → CSpec P 11 args r := onF1_ok (fun a h => by exact fFlo_spec hP a h) args p r
theorem qtS_one {q : Rat} (h : q.den = 1) : qtS q = itS q.num := by unfold qtS; rw [if_pos h]
theorem qtS_two {q : Rat} (h : ¬ q.den = 1) : qtS q = itS q.num ++ ⟨#[47]⟩ ++ decS q.den := by unfold qtS; rw [if_neg h]
theorem fText_spec (hP : PrgOk P) (q : Rat) (h : fl q ≤ FB) : CSpec P 10 [(.agg [.opq (.frac (q)), .pad, .pad, .pad, .pad])] (.str (qtS q)) := by
  have HE := Ft1_all hP T2 hP.t2
  refine CSpec.cv ?_ (.fracIn q .nil)
  have a1 : wl q.num ≤ 34359738368 := Nat.le_trans (fl_num h) (by decide)
  have a2 : blen q.den ≤ 34359738368 := Nat.le_trans (fl_den h) (by decide)
  have a3 : wl q.num ≤ 68719476736 := Nat.le_trans (fl_num h) (by decide)
  have a4 : blen q.den ≤ 68719476736 := Nat.le_trans (fl_den h) (by decide)
  have a5 : 0 < q.den := q.den_pos
  have hb : (blen (q.den - 1) == 0) = decide (q.den = 1) := by
    rw [Bool.eq_iff_iff]; simp only [beq_iff_eq, decide_eq_true_eq, blen_zero_iff]; omega
  have hl : blen (q.den - 1) ≤ 68719476736 := blen_le_of (Nat.sub_le _ _) a4
  have hb0 : (blen 0 == 0) = true := by decide
  have s1 : (itS q.num).size + (#[47] : Array UInt8).size ≤ 9223372036854775807 := by
    have hf : FB = 1073741824 := rfl
    rw [size_bl]; have := itS_len (fl_num h); have : (#[47] : Array UInt8).size = 1 := rfl
    omega
  have s2 : (itS q.num).size + (#[47] : Array UInt8).size + (decS q.den).size ≤ 9223372036854775807 := by
    have hf : FB = 1073741824 := rfl
    rw [size_bl, decS_size]
    have := itS_len (fl_num h); have := decL_len q.den; have := fl_den h; have : (#[47] : Array UInt8).size = 1 := rfl
    omega
  unfold fC
  refine CSpec_vc (E := ⟨T2, Ft1⟩) (fn10 hP) HE hP.mix rfl (by first | rfl | (simp only [go_sem]; done)) (by first | rfl | (simp only [go_sem]; done)) (Nat.le_of_ble_eq_true rfl) ?_
  by_cases h1 : q.den = 1
  · rw [qtS_one h1]
    simp (maxSteps := 1000000) only [go_sem, a1, a2, a3, a4, hb, hb0, hl, h1]
    (repeat' (first | exact Conv.refl _ | refine And.intro ?_ ?_)) <;> first | omega | decide
  · rw [qtS_two h1]
    simp (maxSteps := 1000000) only [go_sem, a1, a2, a3, a4, hb, hl, h1, s1, s2]
    (repeat' (first | exact Conv.refl _ | refine And.intro ?_ ?_)) <;> first | omega | decide
noncomputable def fTextS : List AV → Option (Prop × AV) := onF1 fun q => (fl q ≤ FB, .str (qtS q))
theorem fTextS_ok (hP : PrgOk P) (args p r) : fTextS args = some (p, r) → p → CSpec P 10 args r := onF1_ok (fun a h => by exact fText_spec hP a h) args p r
theorem int_div {a b : Int} (h : b ≠ 0) : (a : Rat) / (b : Rat) = mkRat (a * sgnZ b) b.natAbs := by
  have := div_mk (a := (a : Rat)) (b := (b : Rat)) (by simpa using h)
  rw [this]
  show mkRat (a * sgnZ b * 1) (1 * b.natAbs) = _
  rw [Int.mul_one, Nat.one_mul]
theorem fMake_spec (hP : PrgOk P) (a b : Int) (ha : wl a ≤ FB) (hb : wl b ≤ FB) : CSpec P 31 [(.agg [.opq (.whole (a)), .pad, .pad]), (.agg [.opq (.whole (b)), .pad, .pad])] (if b = 0 then .tup [(.agg [.opq (.frac (0)), .pad, .pad, .pad, .pad]), .int .i64 11] else .tup [(.agg [.opq (.frac (qdiv (a : Rat) (b : Rat))), .pad, .pad, .pad, .pad]), .int .i64 0]) := by
  have HE := Ft1_all hP TF hP.tF
  have a1 : wl a ≤ 34359738368 := Nat.le_trans ha (by decide)
  have a2 : wl a ≤ 68719476736 := Nat.le_trans ha (by decide)
  have b2 : wl b ≤ 68719476736 := Nat.le_trans hb (by decide)
  have b1 : blen b.natAbs ≤ 34359738368 := Nat.le_trans hb (by decide)
  have n1 : wl (-a) ≤ 34359738368 := wl_neg' a1
  refine CSpec_vc (E := ⟨TF, Ft1⟩) (fn31 hP) HE hP.mix rfl (by first | rfl | (simp only [go_sem]; done)) (by first | rfl | (simp only [go_sem]; done)) (Nat.le_of_ble_eq_true rfl) ?_
  by_cases h0 : b = 0
  · have hs : sgnZ b = 0 := by rw [h0]; rfl
    rw [if_pos h0]
    simp (maxSteps := 1000000) only [go_sem, b2, hs]
    (repeat' (first | exact Conv.refl _ | refine And.intro ?_ ?_)) <;> first | omega | decide
  · have hs : (sgnZ b == 0) = false := by rw [sgn_zero, decide_eq_false h0]
    have hp : 0 < b.natAbs := by omega
    rw [if_neg h0, qdiv_eq, int_div h0, ← qlow_eq]
    by_cases h1 : b < 0
    · have e : a * sgnZ b = -a := by
        unfold sgnZ; rw [if_neg h0, if_pos h1]; omega
      rw [e]
      simp (maxSteps := 1000000) only [go_sem, a1, a2, b1, b2, hs, sgn_neg, h1, n1, hp]
      (repeat' (first | exact Conv.refl _ | refine And.intro ?_ ?_)) <;> first | omega | decide
    · have e : a * sgnZ b = a := by
        unfold sgnZ; rw [if_neg h0, if_neg h1]; omega
      rw [e]
      simp (maxSteps := 1000000) only [go_sem, a1, a2, b1, b2, hs, sgn_neg, h1, n1, hp]
      (repeat' (first | exact Conv.refl _ | refine And.intro ?_ ?_)) <;> first | omega | decide
noncomputable def fMakeS : List AV → Option (Prop × AV) := onW2 fun a b => (wl a ≤ FB ∧ wl b ≤ FB, if b = 0 then .tup [(.agg [.opq (.frac (0)), .pad, .pad, .pad, .pad]), .int .i64 11] else .tup [(.agg [.opq (.frac (qdiv (a : Rat) (b : Rat))), .pad, .pad, .pad, .pad]), .int .i64 0])
theorem fMakeS_ok (hP : PrgOk P) (args p r) : fMakeS args = some (p, r) → p → CSpec P 31 args r := onW2_ok (fun a b h => by exact fMake_spec hP a b h.1 h.2) args p r
attribute [go_sem] fFloS fTextS fMakeS
noncomputable def Ft4 : Nat → List AV → Option (Prop × AV) := addS (addS (addS Ft3 11 fFloS) 10 fTextS) 31 fMakeS
theorem Ft4_all (hP : PrgOk P) (T) (hT : TyOk P T) : EnvOk P ⟨T, Ft4⟩ := ((((Ft3_all hP T hT).add (fFloS_ok hP)).add (fTextS_ok hP)).add (fMakeS_ok hP))
theorem Ft4_at (f a) : Ft4 f a = (addS (addS (addS Ft3 11 fFloS) 10 fTextS) 31 fMakeS) f a := rfl
attribute [go_sem] Ft4_at
end Go.Proofs.YtjnhekedclcbfaaDoor.AM
/- Texts of fractions: plain facts. -/
namespace Go.Proofs.YtjnhekedclcbfaaDoor.AM
set_option linter.all false
set_option autoImplicit true
set_option relaxedAutoImplicit true
open Go Go.Proofs
set_option maxRecDepth 100000

/-- Ahead of a byte, and behind it. -/
def hdL (c : Nat) : List Nat → List Nat
  | [] => []
  | x :: t => if x = c then [] else x :: hdL c t
def tlL (c : Nat) : List Nat → List Nat
  | [] => []
  | x :: t => if x = c then t else tlL c t
theorem hd_no {c : Nat} : ∀ {l : List Nat}, c ∉ l → hdL c l = l ∧ tlL c l = [] ∧ ixL c l = -1
  | [], _ => ⟨rfl, rfl, rfl⟩
  | x :: t, h => by
    have h1 : ¬ x = c := fun e => h (by simp [e])
    have ih := hd_no (c := c) (l := t) fun e => h (List.mem_cons_of_mem _ e)
    unfold hdL tlL ixL
    rw [if_neg h1, if_neg h1, if_neg h1, ih.1, ih.2.1, if_pos ih.2.2]
    exact ⟨rfl, rfl, rfl⟩
theorem hd_yes {c : Nat} : ∀ {l : List Nat}, c ∈ l → l = hdL c l ++ c :: tlL c l ∧ ixL c l = ((hdL c l).length : Int)
  | [], h => by simp at h
  | x :: t, h => by
    unfold hdL tlL ixL
    by_cases h1 : x = c
    · rw [if_pos h1, if_pos h1, if_pos h1, h1]; exact ⟨rfl, rfl⟩
    · have ih := hd_yes (l := t) (by
        rcases List.mem_cons.1 h with e | e
        · exact absurd e.symm h1
        · exact e)
      rw [if_neg h1, if_neg h1, if_neg h1, if_neg (by rw [ih.2]; omega), ih.2]
      refine ⟨by rw [List.cons_append, ← ih.1], by rw [List.length_cons]; omega⟩
theorem hd_not (c : Nat) : ∀ l : List Nat, c ∉ hdL c l
  | [] => by simp [hdL]
  | x :: t => by
    have ih := hd_not c t
    unfold hdL; split
    · simp
    · rename_i h; intro e
      rcases List.mem_cons.1 e with e | e
      · exact h e.symm
      · exact ih e
theorem hd_app {c : Nat} {b : List Nat} : ∀ {a : List Nat}, c ∉ a → hdL c (a ++ c :: b) = a ∧ tlL c (a ++ c :: b) = b
  | [], _ => by simp [hdL, tlL]
  | x :: t, h => by
    have h1 : ¬ x = c := fun e => h (by simp [e])
    have ih := hd_app (c := c) (b := b) (a := t) fun e => h (List.mem_cons_of_mem _ e)
    rw [List.cons_append]
    unfold hdL tlL
    rw [if_neg h1, if_neg h1, ih.1, ih.2]
    exact ⟨rfl, rfl⟩
theorem take_hd (c : Nat) : ∀ l : List Nat, l.take (hdL c l).length = hdL c l
  | [] => rfl
  | x :: t => by
    have ih := take_hd c t
    unfold hdL; split
    · rfl
    · rw [List.length_cons, List.take_succ_cons, ih]
theorem drop_hd (c : Nat) : ∀ l : List Nat, l.drop ((hdL c l).length + 1) = tlL c l
  | [] => rfl
  | x :: t => by
    have ih := drop_hd c t
    unfold hdL tlL; split
    · rfl
    · rw [List.length_cons, List.drop_succ_cons, ih]
theorem hd_le (c : Nat) (l : List Nat) : (hdL c l).length ≤ l.length := by
  have := congrArg List.length (take_hd c l)
  rw [List.length_take] at this; omega
theorem hd_lt (c : Nat) (l : List Nat) : ((hdL c l).length < l.length) = (c ∈ l) := by
  rw [eq_iff_iff]
  constructor
  · intro h
    by_cases hc : c ∈ l
    · exact hc
    · rw [(hd_no hc).1] at h; omega
  · intro h
    have := congrArg List.length (hd_yes h).1
    rw [List.length_append, List.length_cons] at this; omega
theorem tl_le (c : Nat) (l : List Nat) : (tlL c l).length ≤ l.length := by
  rw [← drop_hd, List.length_drop]; omega
/-- The two parts of a text. -/
def cutA (c : Nat) (s : ByteArray) : ByteArray := s.extract 0 (hdL c (bl s)).length
def cutB (c : Nat) (s : ByteArray) : ByteArray := s.extract ((hdL c (bl s)).length + 1) s.size
theorem bl_cutA (c s) : bl (cutA c s) = hdL c (bl s) := by
  unfold cutA; rw [bl_extract, List.drop_zero, Nat.sub_zero, take_hd]
theorem bl_cutB (c s) : bl (cutB c s) = tlL c (bl s) := by
  unfold cutB; rw [bl_extract, drop_hd]
  refine List.take_of_length_le ?_
  have h := congrArg List.length (drop_hd c (bl s))
  rw [List.length_drop] at h
  rw [size_bl]; omega
theorem cutA_no {c s} (h : c ∉ bl s) : cutA c s = s := bl_inj (by rw [bl_cutA, (hd_no h).1])
theorem cutB_no {c s} (h : c ∉ bl s) : cutB c s = ⟨#[]⟩ := bl_inj (by rw [bl_cutB, (hd_no h).2.1]; rfl)

def dgs (l : List Nat) : Prop := ∀ c ∈ l, 48 ≤ c ∧ c ≤ 57
instance dgs_dec (l : List Nat) : Decidable (dgs l) := by unfold dgs; infer_instance
theorem isDg_eq (b : UInt8) : isDg b = decide (48 ≤ b.toNat ∧ b.toNat ≤ 57) := by
  unfold isDg; rw [Bool.eq_iff_iff]; simp
theorem dw_nil {α : Type} {p : α → Bool} : ∀ {l : List α}, l.dropWhile p = [] ↔ ∀ x ∈ l, p x = true
  | [] => by simp
  | a :: l => by
    rw [List.dropWhile_cons]
    have ih := dw_nil (p := p) (l := l)
    by_cases h : p a = true
    · rw [if_pos h, ih]; simp [h]
    · rw [if_neg h]; simp [h]
theorem trD_nil (s : ByteArray) : (bl (trD s)).isEmpty = decide (dgs (bl s)) := by
  rw [Bool.eq_iff_iff, decide_eq_true_eq, List.isEmpty_iff]
  unfold bl trD dgs
  rw [List.map_eq_nil_iff]
  show _ = [] ↔ _
  rw [dw_nil]
  constructor
  · intro h c hc
    obtain ⟨b, hb, rfl⟩ := List.mem_map.1 hc
    have hb' : b ∈ s.data.toList.reverse := List.mem_reverse.2 hb
    rw [← List.takeWhile_append_dropWhile (p := isDg) (l := s.data.toList.reverse)] at hb'
    have k : isDg b = true := by
      rcases List.mem_append.1 hb' with hb' | hb'
      · exact List.all_eq_true.1 List.all_takeWhile b hb'
      · exact h b (List.mem_reverse.2 hb')
    rw [isDg_eq] at k; exact of_decide_eq_true k
  · intro h b hb
    have hn : s.data.toList.reverse.dropWhile isDg = [] := dw_nil.2 fun x hx => by
      rw [isDg_eq]; exact decide_eq_true (h _ (List.mem_map.2 ⟨x, List.mem_reverse.1 hx, rfl⟩))
    rw [hn] at hb; simp at hb
/-- Without the noughts ahead. -/
def dz : List Nat → List Nat
  | [] => []
  | x :: t => if x = 48 then dz t else x :: t
theorem bl_trZ (s : ByteArray) : bl (trZ s) = dz (bl s) := by
  unfold bl trZ
  show (s.data.toList.dropWhile isZr).map UInt8.toNat = _
  generalize s.data.toList = L
  induction L with
  | nil => rfl
  | cons b t ih =>
    rw [List.map_cons]
    unfold dz
    rw [List.dropWhile_cons]
    have e : (isZr b = true) = (b.toNat = 48) := by
      unfold isZr
      rw [beq_iff_eq, eq_iff_iff, ← UInt8.toNat_inj]; rfl
    by_cases h : b.toNat = 48
    · rw [if_pos (e ▸ h), if_pos h]; exact ih
    · rw [if_neg (e ▸ h), if_neg h]; rfl
theorem valL_dz : ∀ l : List Nat, valL (dz l) = valL l
  | [] => rfl
  | x :: t => by
    unfold dz; split
    · rename_i h
      rw [valL_dz t, h]
      have := valL_app [48] t
      rw [List.singleton_append] at this
      rw [this]
      have : valL [48] = 0 := rfl
      rw [this, Nat.zero_mul, Nat.zero_add]
    · rfl
theorem dz_le : ∀ l : List Nat, (dz l).length ≤ l.length
  | [] => Nat.le_refl _
  | x :: t => by
    have := dz_le t
    unfold dz; split
    · rw [List.length_cons]; omega
    · exact Nat.le_refl _
theorem dz_ok : ∀ {l : List Nat}, dgs l → dz l ≠ [] → okD (dz l)
  | [], _, h => absurd rfl h
  | x :: t, hd, h => by
    unfold dz at h ⊢
    split
    · rename_i hx
      rw [if_pos hx] at h
      exact dz_ok (fun c hc => hd c (by simp [hc])) h
    · rename_i hx
      exact ⟨by simp, fun e => hx (by simpa using e.2), hd⟩
theorem okD_dgs {l : List Nat} : okD l ↔ l ≠ [] ∧ (dgs l ∧ (l.length = 1 ∨ l.getD 0 0 ≠ 48)) := by
  unfold okD dgs
  constructor
  · rintro ⟨h1, h2, h3⟩
    refine ⟨h1, h3, ?_⟩
    by_cases h : l.length = 1
    · exact .inl h
    · have : 0 < l.length := List.length_pos_iff.2 h1
      exact .inr fun e => h2 ⟨by omega, e⟩
  · rintro ⟨h1, h3, h2⟩
    refine ⟨h1, ?_, h3⟩
    rintro ⟨a, b⟩
    rcases h2 with h2 | h2
    · omega
    · exact h2 b
theorem okD_no {l : List Nat} (h : okD l) {c : Nat} (hc : c < 48) : c ∉ l := fun e => by have := (h.2.2 c e).1; omega

/-- What a text tells az a fraction. -/
def denL (l : List Nat) : List Nat := if 47 ∈ l then tlL 47 l else [49]
def mnL (l : List Nat) : Bool := decide ((hdL 47 l).getD 0 0 = 45)
def szL (l : List Nat) : List Nat := if (hdL 47 l).getD 0 0 = 45 then (hdL 47 l).drop 1 else hdL 47 l
noncomputable def parF (l : List Nat) : Rat × Int :=
  if ¬ okD (szL l) ∨ ¬ okD (denL l) ∨ (mnL l = true ∧ szL l = [48]) then (0, 12)
  else if 256 < (szL l).length ∨ 256 < (denL l).length then (0, 3)
  else if 47 ∈ l ∧ (valL (denL l) < 2 ∨ Nat.gcd (valL (szL l)) (valL (denL l)) ≠ 1) then (0, 12)
  else (qlow (sg (mnL l) (valL (szL l))) (valL (denL l)), 0)
theorem parF_1 {l} (h : ¬ okD (szL l) ∨ ¬ okD (denL l) ∨ (mnL l = true ∧ szL l = [48])) : parF l = (0, 12) := if_pos h
theorem parF_2 {l} (h : ¬ (¬ okD (szL l) ∨ ¬ okD (denL l) ∨ (mnL l = true ∧ szL l = [48]))) (h2 : 256 < (szL l).length ∨ 256 < (denL l).length) : parF l = (0, 3) := by
  unfold parF; rw [if_neg h, if_pos h2]
theorem parF_3 {l} (h : ¬ (¬ okD (szL l) ∨ ¬ okD (denL l) ∨ (mnL l = true ∧ szL l = [48]))) (h2 : ¬ (256 < (szL l).length ∨ 256 < (denL l).length)) (h3 : 47 ∈ l ∧ (valL (denL l) < 2 ∨ Nat.gcd (valL (szL l)) (valL (denL l)) ≠ 1)) : parF l = (0, 12) := by
  unfold parF; rw [if_neg h, if_neg h2, if_pos h3]
theorem parF_4 {l} (h : ¬ (¬ okD (szL l) ∨ ¬ okD (denL l) ∨ (mnL l = true ∧ szL l = [48]))) (h2 : ¬ (256 < (szL l).length ∨ 256 < (denL l).length)) (h3 : ¬ (47 ∈ l ∧ (valL (denL l) < 2 ∨ Nat.gcd (valL (szL l)) (valL (denL l)) ≠ 1))) : parF l = (qlow (sg (mnL l) (valL (szL l))) (valL (denL l)), 0) := by
  unfold parF; rw [if_neg h, if_neg h2, if_neg h3]
theorem den_one {l} (h : 47 ∉ l) : denL l = [49] := if_neg h
theorem sz_mn {l} (h : mnL l = true) : hdL 47 l = 45 :: szL l := by
  have h' := of_decide_eq_true h
  unfold szL; rw [if_pos h']
  cases hh : hdL 47 l with
  | nil => rw [hh] at h'; simp at h'
  | cons c t => rw [hh] at h'; simp at h'; rw [h']; rfl
theorem sz_ps {l} (h : mnL l = false) : hdL 47 l = szL l := by
  have h' := of_decide_eq_false h
  unfold szL; rw [if_neg h']
theorem val_zero {l : List Nat} (h : okD l) (h0 : valL l = 0) : l = [48] := by
  have := decL_val h
  rw [h0] at this; rw [← this]; rfl
/-- The numerator's text. -/
theorem num_text {l} (h1 : okD (szL l)) (h2 : ¬ (mnL l = true ∧ szL l = [48])) : bl (itS (sg (mnL l) (valL (szL l)))) = hdL 47 l := by
  rw [bl_itS, sg_abs, decL_val h1]
  cases hm : mnL l
  · rw [if_neg (by rw [sg_f]; omega)]; exact (sz_ps hm).symm
  · rw [if_pos]
    · exact (sz_mn hm).symm
    · rw [sg_t]
      have : valL (szL l) ≠ 0 := fun e => h2 ⟨hm, val_zero h1 e⟩
      omega
theorem bl_qtS (q : Rat) : bl (qtS q) = if q.den = 1 then bl (itS q.num) else bl (itS q.num) ++ 47 :: decL q.den := by
  unfold qtS; split
  · rfl
  · rw [bl_app, bl_app, bl_decS, List.append_assoc]; rfl
theorem no_stroke (z : Int) : 47 ∉ bl (itS z) := by
  rw [bl_itS]
  have := okD_no (okD_decL z.natAbs) (c := 47) (by decide)
  split
  · intro e
    rcases List.mem_cons.1 e with e | e
    · exact absurd e (by decide)
    · exact this e
  · exact this
theorem mk_low {m : Bool} {n d : Nat} (hd : 0 < d) (hg : Nat.gcd n d = 1) (h : m = true → 0 < n) : (mkRat (sg m n) d).num = sg m n ∧ (mkRat (sg m n) d).den = d := by
  rw [mk_num hd, mk_den hd, sg_abs, hg, Nat.div_one, Nat.div_one]
  refine ⟨?_, rfl⟩
  have e : decide (sg m n < 0) = m := by
    cases m
    · rw [sg_f]; exact decide_eq_false (by omega)
    · rw [sg_t]; have := h rfl; exact decide_eq_true (by omega)
  rw [e]
/-- The text of what a text tells is the text. -/
theorem text_of {l} (h1 : okD (szL l)) (h2 : ¬ (mnL l = true ∧ szL l = [48])) (h3 : okD (denL l)) (h4 : 47 ∈ l → 2 ≤ valL (denL l)) (h5 : 47 ∈ l → Nat.gcd (valL (szL l)) (valL (denL l)) = 1) : bl (qtS (qlow (sg (mnL l) (valL (szL l))) (valL (denL l)))) = l := by
  have hn := num_text h1 h2
  have hm : mnL l = true → 0 < valL (szL l) := fun hm => Nat.pos_of_ne_zero fun e => h2 ⟨hm, val_zero h1 e⟩
  rw [bl_qtS, qlow_eq]
  by_cases hs : 47 ∈ l
  · have h4' := h4 hs
    have k := mk_low (d := valL (denL l)) (by omega) (h5 hs) hm
    rw [k.1, k.2, if_neg (by omega), hn, decL_val h3, denL, if_pos hs]
    exact (hd_yes hs).1.symm
  · have hd1 : valL (denL l) = 1 := by rw [den_one hs]; rfl
    rw [hd1]
    have k := mk_low (d := 1) (by decide) (Nat.gcd_one_right _) hm
    rw [k.1, k.2, if_pos rfl, hn, (hd_no hs).1]
/-- .. and only if nothing divides both. -/
theorem text_no {l} (hs : 47 ∈ l) (h4 : 2 ≤ valL (denL l)) (h5 : Nat.gcd (valL (szL l)) (valL (denL l)) ≠ 1) : bl (qtS (qlow (sg (mnL l) (valL (szL l))) (valL (denL l)))) ≠ l := by
  intro e
  rw [bl_qtS, qlow_eq] at e
  split at e
  · exact no_stroke _ (by rw [e]; exact hs)
  · have h := (hd_app (c := 47) (b := decL (mkRat (sg (mnL l) (valL (szL l))) (valL (denL l))).den) (no_stroke (mkRat (sg (mnL l) (valL (szL l))) (valL (denL l))).num)).2
    rw [e] at h
    have h6 : denL l = decL (mkRat (sg (mnL l) (valL (szL l))) (valL (denL l))).den := by rw [← h, denL, if_pos hs]
    have h7 := congrArg valL h6
    rw [valL_decL, mk_den (by omega), sg_abs] at h7
    have hg : 0 < Nat.gcd (valL (szL l)) (valL (denL l)) := Nat.gcd_pos_of_pos_right _ (by omega)
    have h8 : valL (denL l) / Nat.gcd (valL (szL l)) (valL (denL l)) < valL (denL l) := Nat.div_lt_self (by omega) (by omega)
    omega
theorem parF_cases (l : List Nat) : (parF l = (0, 12)) ∨ (parF l = (0, 3)) ∨ (parF l = (qlow (sg (mnL l) (valL (szL l))) (valL (denL l)), 0) ∧ okD (szL l) ∧ okD (denL l) ∧ ¬ (mnL l = true ∧ szL l = [48]) ∧ (szL l).length ≤ 256 ∧ (denL l).length ≤ 256 ∧ (47 ∈ l → 2 ≤ valL (denL l)) ∧ (47 ∈ l → Nat.gcd (valL (szL l)) (valL (denL l)) = 1)) := by
  by_cases h1 : ¬ okD (szL l) ∨ ¬ okD (denL l) ∨ (mnL l = true ∧ szL l = [48])
  · exact .inl (parF_1 h1)
  · by_cases h2 : 256 < (szL l).length ∨ 256 < (denL l).length
    · exact .inr (.inl (parF_2 h1 h2))
    · by_cases h3 : 47 ∈ l ∧ (valL (denL l) < 2 ∨ Nat.gcd (valL (szL l)) (valL (denL l)) ≠ 1)
      · exact .inl (parF_3 h1 h2 h3)
      · simp only [not_or, Decidable.not_not] at h1 h2
        refine .inr (.inr ⟨parF_4 (by simp only [not_or, Decidable.not_not]; exact h1) (by simp only [not_or]; exact h2) h3, h1.1, h1.2.1, h1.2.2, by omega, by omega, fun hs => ?_, fun hs => ?_⟩)
        · exact Decidable.byContradiction fun e => h3 ⟨hs, .inl (by omega)⟩
        · exact Decidable.byContradiction fun e => h3 ⟨hs, .inr e⟩
theorem den_pos' {l} (h : 47 ∈ l → 2 ≤ valL (denL l)) : 0 < valL (denL l) := by
  by_cases hs : 47 ∈ l
  · have := h hs; omega
  · rw [den_one hs]; decide
theorem fl_zero (n : Nat) : fl 0 ≤ n + 1 := fl_le.2 ⟨Nat.le_trans (Nat.le_of_ble_eq_true rfl : wl (0 : Rat).num ≤ 0) (by omega), Nat.le_trans (Nat.le_of_ble_eq_true rfl : blen (0 : Rat).den ≤ 1) (by omega)⟩
theorem parF_fl (l : List Nat) : fl (parF l).1 ≤ 1024 := by
  rcases parF_cases l with h | h | ⟨h, h1, h2, _, h4, h5, h6, _⟩
  · rw [h]; exact fl_zero 1023
  · rw [h]; exact fl_zero 1023
  · rw [h, qlow_eq]
    exact fl_mk (by unfold wl; rw [sg_abs]; exact valL_blen h1 h4) (valL_blen h2 h5) (den_pos' h6)
theorem parF_text {s : ByteArray} (h : (parF (bl s)).2 = 0) : qtS (parF (bl s)).1 = s := by
  rcases parF_cases (bl s) with h' | h' | ⟨h', h1, h2, h3, _, _, h6, h7⟩
  · rw [h'] at h; exact absurd h (by decide)
  · rw [h'] at h; exact absurd h (by decide)
  · rw [h']; exact bl_inj (text_of h1 h3 h2 h6 h7)
theorem parF_err (l : List Nat) : (parF l).2 = 0 ∨ ((parF l).1 = 0 ∧ ((parF l).2 = 12 ∨ (parF l).2 = 3)) := by
  rcases parF_cases l with h' | h' | ⟨h', _⟩
  · rw [h']; exact .inr ⟨rfl, .inl rfl⟩
  · rw [h']; exact .inr ⟨rfl, .inr rfl⟩
  · rw [h']; exact .inl rfl
theorem qtS_inj {a b : Rat} (h : qtS a = qtS b) : a = b := by
  have e := congrArg bl h
  rw [bl_qtS, bl_qtS] at e
  have na := no_stroke a.num
  have nb := no_stroke b.num
  by_cases h1 : a.den = 1
  · rw [if_pos h1] at e
    by_cases h2 : b.den = 1
    · rw [if_pos h2] at e
      exact Rat.ext (itS_inj (bl_inj e)) (by rw [h1, h2])
    · rw [if_neg h2] at e
      exact absurd (by rw [e]; simp) na
  · rw [if_neg h1] at e
    by_cases h2 : b.den = 1
    · rw [if_pos h2] at e
      exact absurd (by rw [← e]; simp) nb
    · rw [if_neg h2] at e
      have ha := hd_app (b := decL a.den) na
      have hb := hd_app (b := decL b.den) nb
      rw [e] at ha
      refine Rat.ext (itS_inj (bl_inj (ha.1.symm.trans hb.1))) ?_
      have := congrArg valL (ha.2.symm.trans hb.2)
      rwa [valL_decL, valL_decL] at this
theorem qtS_eq (a b : Rat) : ((qtS a).toList == (qtS b).toList) = decide (a = b) := by
  rw [str_same]; exact decide_eq_decide.2 ⟨qtS_inj, fun h => h ▸ rfl⟩

/-- What a text tells az a literal. -/
noncomputable def litF (l : List Nat) : Rat × Int :=
  if hdL 46 l = [] ∨ (46 ∈ l ∧ tlL 46 l = []) ∨ ¬ dgs (hdL 46 l ++ tlL 46 l) then (0, 12)
  else if 256 < (hdL 46 l ++ tlL 46 l).length then (0, 3)
  else (qlow (valL (hdL 46 l ++ tlL 46 l)) (10 ^ (tlL 46 l).length), 0)
theorem litF_1 {l} (h : hdL 46 l = [] ∨ (46 ∈ l ∧ tlL 46 l = []) ∨ ¬ dgs (hdL 46 l ++ tlL 46 l)) : litF l = (0, 12) := if_pos h
theorem litF_2 {l} (h : ¬ (hdL 46 l = [] ∨ (46 ∈ l ∧ tlL 46 l = []) ∨ ¬ dgs (hdL 46 l ++ tlL 46 l))) (h2 : 256 < (hdL 46 l ++ tlL 46 l).length) : litF l = (0, 3) := by
  unfold litF; rw [if_neg h, if_pos h2]
theorem litF_3 {l} (h : ¬ (hdL 46 l = [] ∨ (46 ∈ l ∧ tlL 46 l = []) ∨ ¬ dgs (hdL 46 l ++ tlL 46 l))) (h2 : ¬ 256 < (hdL 46 l ++ tlL 46 l).length) : litF l = (qlow (valL (hdL 46 l ++ tlL 46 l)) (10 ^ (tlL 46 l).length), 0) := by
  unfold litF; rw [if_neg h, if_neg h2]
theorem blen_ten (n : Nat) : blen (10 ^ n) ≤ 4 * n + 1 := by
  rw [blen_le_iff]
  have : (10 : Nat) ^ n ≤ 16 ^ n := Nat.pow_le_pow_left (by decide) _
  have e : (16 : Nat) ^ n = 2 ^ (4 * n) := by rw [show (16 : Nat) = 2 ^ 4 from rfl, ← Nat.pow_mul]
  rw [Nat.pow_succ, ← e]
  have := Nat.pow_pos (n := n) (show 0 < 16 by decide)
  omega
theorem litF_fl (l : List Nat) : fl (litF l).1 ≤ 2048 := by
  unfold litF
  split
  · exact fl_zero 2047
  · split
    · exact fl_zero 2047
    · rename_i h h2
      simp only [not_or, Decidable.not_not] at h
      rw [qlow_eq]
      refine fl_mk ?_ (Nat.le_trans (blen_ten _) ?_) (Nat.pow_pos (by decide))
      · unfold wl; rw [Int.natAbs_natCast]
        exact Nat.le_trans (valL_blen4 fun c hc => (h.2.2 c hc).2) (by omega)
      · rw [List.length_append] at h2; omega
end Go.Proofs.YtjnhekedclcbfaaDoor.AM
/- Fractions: read from texts. -/
namespace Go.Proofs.YtjnhekedclcbfaaDoor.AM
set_option linter.all false
set_option autoImplicit true
set_option relaxedAutoImplicit true
open Go Go.Proofs
set_option maxRecDepth 100000
set_option maxHeartbeats 8000000
set_option linter.unusedSimpArgs false
variable {P : Program}

def ixbS : List AV → Option (Prop × AV)
  | [.str s, .str ⟨⟨[d]⟩⟩] => some (True, .int .i64 (ixL d.toNat (bz s)))
  | _ => none
theorem ixbS_eq (s d) : ixbS [.str s, .str ⟨#[d]⟩] = some (True, .int .i64 (ixL d.toNat (bz s))) := rfl
theorem ixbS_ok (hP : PrgOk P) (args p r) (h : ixbS args = some (p, r)) (hp : p) : CSpec P 86 args r := by
  unfold ixbS at h
  split at h
  · simp only [Option.some.injEq, Prod.mk.injEq] at h
    obtain ⟨rfl, rfl⟩ := h
    exact hP.ixb _ _
  · simp at h
def trmS : List AV → Option (Prop × AV)
  | [.str s, .str ⟨⟨[48, 49, 50, 51, 52, 53, 54, 55, 56, 57]⟩⟩] => some (s.size ≤ 9223372036854775807, .str (trD s))
  | _ => none
theorem trmS_eq (s) : trmS [.str s, .str ⟨#[48, 49, 50, 51, 52, 53, 54, 55, 56, 57]⟩] = some (s.size ≤ 9223372036854775807, .str (trD s)) := rfl
theorem trmS_ok (hP : PrgOk P) (args p r) (h : trmS args = some (p, r)) (hp : p) : CSpec P 57 args r := by
  unfold trmS at h
  split at h
  · simp only [Option.some.injEq, Prod.mk.injEq] at h
    obtain ⟨rfl, rfl⟩ := h
    exact hP.trm _ hp
  · simp at h
def trlS : List AV → Option (Prop × AV)
  | [.str s, .str ⟨⟨[48]⟩⟩] => some (True, .str (trZ s))
  | _ => none
theorem trlS_eq (s) : trlS [.str s, .str ⟨#[48]⟩] = some (True, .str (trZ s)) := rfl
theorem trlS_ok (hP : PrgOk P) (args p r) (h : trlS args = some (p, r)) (hp : p) : CSpec P 58 args r := by
  unfold trlS at h
  split at h
  · simp only [Option.some.injEq, Prod.mk.injEq] at h
    obtain ⟨rfl, rfl⟩ := h
    exact hP.trl _
  · simp at h
attribute [go_sem] ixbS_eq trmS_eq trlS_eq
noncomputable def Lt0 : Nat → List AV → Option (Prop × AV) := addS (addS (addS Ft4 86 ixbS) 57 trmS) 58 trlS
theorem Lt0_all (hP : PrgOk P) (T) (hT : TyOk P T) : EnvOk P ⟨T, Lt0⟩ := ((((Ft4_all hP T hT).add (ixbS_ok hP)).add (trmS_ok hP)).add (trlS_ok hP))
theorem Lt0_at (f a) : Lt0 f a = (addS (addS (addS Ft4 86 ixbS) 57 trmS) 58 trlS) f a := rfl
attribute [go_sem] Lt0_at
theorem lcut_spec (hP : PrgOk P) (s : ByteArray) (d : UInt8) (hs : (bl s).length ≤ 1099511627776) : CSpec P 66 [.str s, .str ⟨#[d]⟩] (.tup [.str (cutA d.toNat s), .str (cutB d.toNat s), .bool (decide (d.toNat ∈ bl s))]) := by
  have HE := Lt0_all hP TF hP.tF
  have e1 : (#[d] : Array UInt8).size = 1 := rfl
  have e2 : (ByteArray.mk #[d]).size = 1 := rfl
  by_cases h : d.toNat ∈ bl s
  · have hi : ixL d.toNat (bz s) = ((hdL d.toNat (bl s)).length : Int) := (hd_yes h).2
    have hl : (hdL d.toNat (bl s)).length < (bl s).length := by rw [hd_lt]; exact h
    have hd : decide (d.toNat ∈ bl s) = true := decide_eq_true h
    rw [hd]
    unfold cutA cutB
    generalize (hdL d.toNat (bl s)).length = n at *
    have hw : IntKind.i64.wrap ((n : Int) + ((1 : Nat) : Int)) = ((n + 1 : Nat) : Int) := wi_add1 n (by omega)
    have h0 : ((0 : Int) ≤ (n : Int)) = True := eq_true (by omega)
    have h1 : (n : Int) ≤ ((bl s).length : Int) := by omega
    have h2 : ((n + 1 : Nat) : Int) ≤ ((bl s).length : Int) := by omega
    refine CSpec_vc (E := ⟨TF, Lt0⟩) (fn66 hP) HE hP.mix rfl (by first | rfl | (simp only [go_sem]; done)) (by first | rfl | (simp only [go_sem]; done)) (Nat.le_of_ble_eq_true rfl) ?_
    simp (maxSteps := 1000000) only [go_sem, hi, hw, h0, h1, h2, e1, e2, size_bl, Int.toNat_natCast]
    (repeat' (first | exact Conv.refl _ | refine And.intro ?_ ?_)) <;> first | omega | decide
  · have hi : ixL d.toNat (bz s) = -1 := (hd_no h).2.2
    have hd : decide (d.toNat ∈ bl s) = false := decide_eq_false h
    have hm : ((0 : Int) ≤ -1) = False := eq_false (by decide)
    rw [hd, cutA_no h, cutB_no h]
    refine CSpec_vc (E := ⟨TF, Lt0⟩) (fn66 hP) HE hP.mix rfl (by first | rfl | (simp only [go_sem]; done)) (by first | rfl | (simp only [go_sem]; done)) (Nat.le_of_ble_eq_true rfl) ?_
    simp (maxSteps := 1000000) only [go_sem, hi, hm]
    (repeat' (first | exact Conv.refl _ | refine And.intro ?_ ?_)) <;> first | omega | decide
def lcutS : List AV → Option (Prop × AV)
  | [.str s, .str ⟨⟨[d]⟩⟩] => some ((bl s).length ≤ 1099511627776, .tup [.str (cutA d.toNat s), .str (cutB d.toNat s), .bool (decide (d.toNat ∈ bl s))])
  | _ => none
theorem lcutS_eq (s d) : lcutS [.str s, .str ⟨#[d]⟩] = some ((bl s).length ≤ 1099511627776, .tup [.str (cutA d.toNat s), .str (cutB d.toNat s), .bool (decide (d.toNat ∈ bl s))]) := rfl
theorem lcutS_ok (hP : PrgOk P) (args p r) (h : lcutS args = some (p, r)) (hp : p) : CSpec P 66 args r := by
  unfold lcutS at h
  split at h
  · simp only [Option.some.injEq, Prod.mk.injEq] at h
    obtain ⟨rfl, rfl⟩ := h
    exact lcut_spec hP _ _ hp
  · simp at h
attribute [go_sem] lcutS_eq
/-- Without a byte ahead. -/
def tpS (d : UInt8) (s : ByteArray) : ByteArray := if (bl s).getD 0 0 = d.toNat ∧ 0 < (bl s).length then s.extract 1 s.size else s
theorem bl_tpS (s : ByteArray) : bl (tpS 45 s) = if (bl s).getD 0 0 = 45 then (bl s).drop 1 else bl s := by
  unfold tpS
  have e : (45 : UInt8).toNat = 45 := rfl
  rw [e]
  by_cases h : (bl s).getD 0 0 = 45
  · have h0 : 0 < (bl s).length := by
      cases hb : bl s with
      | nil => rw [hb] at h; simp at h
      | cons c t => simp
    rw [if_pos ⟨h, h0⟩, if_pos h, bl_extract]
    exact List.take_of_length_le (by rw [List.length_drop, size_bl]; omega)
  · rw [if_neg (fun e => h e.1), if_neg h]
theorem hpf_spec (hP : PrgOk P) (s : ByteArray) (d : UInt8) : CSpec P 83 [.str s, .str ⟨#[d]⟩] (.bool (decide ((bl s).getD 0 0 = d.toNat ∧ 0 < (bl s).length))) := by
  have HE := Lt0_all hP TF hP.tF
  have e1 : (#[d] : Array UInt8).size = 1 := rfl
  have e2 : (ByteArray.mk #[d]).size = 1 := rfl
  by_cases h : 0 < (bl s).length
  · have h1 : (1 : Nat) ≤ (bl s).length := h
    have h1' : (1 : Int) ≤ ((bl s).length : Int) := by omega
    have h2 : ((s.extract 0 1).toList == (ByteArray.mk #[d]).toList) = decide ((bl s).getD 0 0 = d.toNat ∧ 0 < (bl s).length) := by
      rw [str_same]
      refine decide_eq_decide.2 ?_
      have hb : bl (s.extract 0 1) = [(bl s).getD 0 0] := by
        rw [bl_extract]
        cases hb : bl s with
        | nil => rw [hb] at h; simp at h
        | cons c t => rfl
      constructor
      · intro e
        rw [e] at hb
        exact ⟨(List.cons.inj hb).1.symm, h⟩
      · intro e
        exact bl_inj (by rw [hb, e.1]; rfl)
    have i1 : (1 : Int).toNat = 1 := rfl
    refine CSpec_vc (E := ⟨TF, Lt0⟩) (fn83 hP) HE hP.mix rfl (by first | rfl | (simp only [go_sem]; done)) (by first | rfl | (simp only [go_sem]; done)) (Nat.le_of_ble_eq_true rfl) ?_
    simp (maxSteps := 1000000) only [go_sem, e1, e2, size_bl, h1, h1', h2, i1]
    (repeat' (first | exact Conv.refl _ | refine And.intro ?_ ?_)) <;> first | omega | decide
  · have h1 : (1 ≤ (bl s).length) = False := eq_false (by omega)
    have h1' : ((1 : Int) ≤ ((bl s).length : Int)) = False := eq_false (by omega)
    rw [decide_eq_false (fun e => h e.2)]
    refine CSpec_vc (E := ⟨TF, Lt0⟩) (fn83 hP) HE hP.mix rfl (by first | rfl | (simp only [go_sem]; done)) (by first | rfl | (simp only [go_sem]; done)) (Nat.le_of_ble_eq_true rfl) ?_
    simp (maxSteps := 1000000) only [go_sem, e1, e2, size_bl, h1, h1']
    (repeat' (first | exact Conv.refl _ | refine And.intro ?_ ?_)) <;> first | omega | decide
def hpfS : List AV → Option (Prop × AV)
  | [.str s, .str ⟨⟨[d]⟩⟩] => some (True, .bool (decide ((bl s).getD 0 0 = d.toNat ∧ 0 < (bl s).length)))
  | _ => none
theorem hpfS_eq (s d) : hpfS [.str s, .str ⟨#[d]⟩] = some (True, .bool (decide ((bl s).getD 0 0 = d.toNat ∧ 0 < (bl s).length))) := rfl
theorem hpfS_ok (hP : PrgOk P) (args p r) (h : hpfS args = some (p, r)) (hp : p) : CSpec P 83 args r := by
  unfold hpfS at h
  split at h
  · simp only [Option.some.injEq, Prod.mk.injEq] at h
    obtain ⟨rfl, rfl⟩ := h
    exact hpf_spec hP _ _
  · simp at h
attribute [go_sem] hpfS_eq
noncomputable def Lt1 : Nat → List AV → Option (Prop × AV) := addS (addS Lt0 66 lcutS) 83 hpfS
theorem Lt1_all (hP : PrgOk P) (T) (hT : TyOk P T) : EnvOk P ⟨T, Lt1⟩ := (((Lt0_all hP T hT).add (lcutS_ok hP)).add (hpfS_ok hP))
theorem Lt1_at (f a) : Lt1 f a = (addS (addS Lt0 66 lcutS) 83 hpfS) f a := rfl
attribute [go_sem] Lt1_at
theorem sCut_spec (hP : PrgOk P) (s : ByteArray) (d : UInt8) (hs : (bl s).length ≤ 1099511627776) : CSpec P 34 [.str s, .str ⟨#[d]⟩] (.tup [.str (cutA d.toNat s), .str (cutB d.toNat s), .bool (decide (d.toNat ∈ bl s))]) := by
  have HE := Lt1_all hP TF hP.tF
  refine CSpec_vc (E := ⟨TF, Lt1⟩) (fn34 hP) HE hP.mix rfl (by first | rfl | (simp only [go_sem]; done)) (by first | rfl | (simp only [go_sem]; done)) (Nat.le_of_ble_eq_true rfl) ?_
  simp (maxSteps := 1000000) only [go_sem, hs]
  (repeat' (first | exact Conv.refl _ | refine And.intro ?_ ?_)) <;> first | omega | decide
theorem ltp_spec (hP : PrgOk P) (s : ByteArray) (d : UInt8) : CSpec P 67 [.str s, .str ⟨#[d]⟩] (.str (tpS d s)) := by
  have HE := Lt1_all hP TF hP.tF
  have e1 : (#[d] : Array UInt8).size = 1 := rfl
  have e2 : (ByteArray.mk #[d]).size = 1 := rfl
  have i1 : (1 : Int).toNat = 1 := rfl
  by_cases h : (bl s).getD 0 0 = d.toNat ∧ 0 < (bl s).length
  · have hd := decide_eq_true h
    have h1 : (1 : Nat) ≤ (bl s).length := h.2
    have h1' : (1 : Int) ≤ ((bl s).length : Int) := by omega
    unfold tpS
    rw [if_pos h]
    refine CSpec_vc (E := ⟨TF, Lt1⟩) (fn67 hP) HE hP.mix rfl (by first | rfl | (simp only [go_sem]; done)) (by first | rfl | (simp only [go_sem]; done)) (Nat.le_of_ble_eq_true rfl) ?_
    simp (maxSteps := 1000000) only [go_sem, hd, e1, e2, size_bl, h1, h1', i1]
    (repeat' (first | exact Conv.refl _ | refine And.intro ?_ ?_)) <;> first | omega | decide
  · have hd := decide_eq_false h
    unfold tpS
    rw [if_neg h]
    refine CSpec_vc (E := ⟨TF, Lt1⟩) (fn67 hP) HE hP.mix rfl (by first | rfl | (simp only [go_sem]; done)) (by first | rfl | (simp only [go_sem]; done)) (Nat.le_of_ble_eq_true rfl) ?_
    simp (maxSteps := 1000000) only [go_sem, hd]
    (repeat' (first | exact Conv.refl _ | refine And.intro ?_ ?_)) <;> first | omega | decide
def tprS : List AV → Option (Prop × AV)
  | [.str s, .str ⟨⟨[d]⟩⟩] => some (True, .str (tpS d s))
  | _ => none
theorem tprS_eq (s d) : tprS [.str s, .str ⟨#[d]⟩] = some (True, .str (tpS d s)) := rfl
theorem tprS_ok (hP : PrgOk P) (args p r) (h : tprS args = some (p, r)) (hp : p) : CSpec P 67 args r := by
  unfold tprS at h
  split at h
  · simp only [Option.some.injEq, Prod.mk.injEq] at h
    obtain ⟨rfl, rfl⟩ := h
    exact ltp_spec hP _ _
  · simp at h
attribute [go_sem] tprS_eq
noncomputable def Lt2 : Nat → List AV → Option (Prop × AV) := addS Lt1 67 tprS
theorem Lt2_all (hP : PrgOk P) (T) (hT : TyOk P T) : EnvOk P ⟨T, Lt2⟩ := ((Lt1_all hP T hT).add (tprS_ok hP))
theorem Lt2_at (f a) : Lt2 f a = (addS Lt1 67 tprS) f a := rfl
attribute [go_sem] Lt2_at
theorem tp_spec (hP : PrgOk P) (s : ByteArray) (d : UInt8) : CSpec P 35 [.str s, .str ⟨#[d]⟩] (.str (tpS d s)) := by
  have HE := Lt2_all hP TF hP.tF
  refine CSpec_vc (E := ⟨TF, Lt2⟩) (fn35 hP) HE hP.mix rfl (by first | rfl | (simp only [go_sem]; done)) (by first | rfl | (simp only [go_sem]; done)) (Nat.le_of_ble_eq_true rfl) ?_
  simp (maxSteps := 1000000) only [go_sem]
  (repeat' (first | exact Conv.refl _ | refine And.intro ?_ ?_)) <;> first | omega | decide
def tprS2 : List AV → Option (Prop × AV) := tprS
theorem tprS2_ok (hP : PrgOk P) (args p r) (h : tprS2 args = some (p, r)) (hp : p) : CSpec P 35 args r := by
  unfold tprS2 tprS at h
  split at h
  · simp only [Option.some.injEq, Prod.mk.injEq] at h
    obtain ⟨rfl, rfl⟩ := h
    exact tp_spec hP _ _
  · simp at h
def sCutS : List AV → Option (Prop × AV) := lcutS
theorem sCutS_ok (hP : PrgOk P) (args p r) (h : sCutS args = some (p, r)) (hp : p) : CSpec P 34 args r := by
  unfold sCutS lcutS at h
  split at h
  · simp only [Option.some.injEq, Prod.mk.injEq] at h
    obtain ⟨rfl, rfl⟩ := h
    exact sCut_spec hP _ _ hp
  · simp at h
attribute [go_sem] tprS2 sCutS
theorem fdg_spec (hP : PrgOk P) (s : ByteArray) (hs : (bl s).length ≤ 1099511627776) : CSpec P 36 [.str s] (.bool (decide (okD (bl s)))) := by
  have HE := Lt2_all hP TF hP.tF
  have hsz : s.size ≤ 9223372036854775807 := by rw [size_bl]; omega
  have hsz' : (bl s).length ≤ 9223372036854775807 := by omega
  have ht := trD_nil s
  have hg := get_bl s 0
  refine CSpec_vc (E := ⟨TF, Lt2⟩) (fn36 hP) HE hP.mix rfl (by first | rfl | (simp only [go_sem]; done)) (by first | rfl | (simp only [go_sem]; done)) (Nat.le_of_ble_eq_true rfl) ?_
  obtain ⟨l, hl⟩ : ∃ l, bl s = l := ⟨_, rfl⟩
  rw [hl] at hs hsz' ht hg ⊢
  have hk := okD_dgs (l := l)
  by_cases h1 : l = []
  · have h1' : l.isEmpty = true := by rw [h1]; rfl
    rw [decide_eq_false (fun e => (hk.1 e).1 h1)]
    simp (maxSteps := 1000000) only [go_sem, toList_nil, hl, h1']
    (repeat' (first | exact Conv.refl _ | refine And.intro ?_ ?_)) <;> first | omega | decide
  · have h1' : l.isEmpty = false := by cases l with | nil => exact absurd rfl h1 | cons => rfl
    by_cases h2 : dgs l
    · have h2' := decide_eq_true h2
      have hp : 0 < l.length := List.length_pos_iff.2 h1
      by_cases h3 : l.length = 1
      · have h3' : ((l.length : Int) == 1) = true := by rw [h3]; rfl
        have h3n : (l.length == 1) = true := by rw [h3]; rfl
        rw [decide_eq_true (hk.2 ⟨h1, h2, .inl h3⟩)]
        simp (maxSteps := 1000000) only [go_sem, toList_nil, hl, h1', h2', ht, h3', h3n, size_bl, hsz']
        (repeat' (first | exact Conv.refl _ | refine And.intro ?_ ?_)) <;> first | omega | decide
      · have h3' : ((l.length : Int) == 1) = false := beq_eq_false_iff_ne.2 (by omega)
        have h3n : (l.length == 1) = false := beq_eq_false_iff_ne.2 h3
        have h4 : decide (okD l) = (((l.getD 0 0 : Nat) : Int) != 48) := by
          rw [Bool.eq_iff_iff, decide_eq_true_eq, bne_iff_ne]
          exact ⟨fun e => by have := (hk.1 e).2.2.resolve_left h3; omega, fun e => hk.2 ⟨h1, h2, .inr (by omega)⟩⟩
        rw [h4]
        simp (maxSteps := 1000000) only [go_sem, toList_nil, hl, h1', h2', ht, h3', h3n, size_bl, hsz', hg, hp]
        (repeat' (first | exact Conv.refl _ | refine And.intro ?_ ?_)) <;> first | omega | decide
    · have h2' := decide_eq_false h2
      rw [decide_eq_false (fun e => h2 (hk.1 e).2.1)]
      simp (maxSteps := 1000000) only [go_sem, toList_nil, hl, h1', h2', ht, size_bl, hsz']
      (repeat' (first | exact Conv.refl _ | refine And.intro ?_ ?_)) <;> first | omega | decide
def fdgS : List AV → Option (Prop × AV)
  | [.str s] => some ((bl s).length ≤ 1099511627776, .bool (decide (okD (bl s))))
  | _ => none
theorem fdgS_ok (hP : PrgOk P) (args p r) (h : fdgS args = some (p, r)) (hp : p) : CSpec P 36 args r := by
  unfold fdgS at h
  split at h
  · simp only [Option.some.injEq, Prod.mk.injEq] at h
    obtain ⟨rfl, rfl⟩ := h
    exact fdg_spec hP _ hp
  · simp at h
attribute [go_sem] fdgS
noncomputable def Lt3 : Nat → List AV → Option (Prop × AV) := addS (addS (addS Lt2 35 tprS2) 34 sCutS) 36 fdgS
theorem Lt3_all (hP : PrgOk P) (T) (hT : TyOk P T) : EnvOk P ⟨T, Lt3⟩ := ((((Lt2_all hP T hT).add (tprS2_ok hP)).add (sCutS_ok hP)).add (fdgS_ok hP))
theorem Lt3_at (f a) : Lt3 f a = (addS (addS (addS Lt2 35 tprS2) 34 sCutS) 36 fdgS) f a := rfl
attribute [go_sem] Lt3_at
end Go.Proofs.YtjnhekedclcbfaaDoor.AM
/- Fractions: Parse and Literal. -/
namespace Go.Proofs.YtjnhekedclcbfaaDoor.AM
set_option linter.all false
set_option autoImplicit true
set_option relaxedAutoImplicit true
open Go Go.Proofs
set_option maxRecDepth 100000
set_option maxHeartbeats 8000000
set_option linter.unusedSimpArgs false
variable {P : Program}

theorem bl_sz (s : ByteArray) : bl (tpS 45 (cutA 47 s)) = szL (bl s) := by rw [bl_tpS, bl_cutA]; rfl
theorem str_eq (x : ByteArray) (y : ByteArray) : (x.toList == y.toList) = decide (bl x = bl y) := by
  rw [str_same]; exact decide_eq_decide.2 ⟨fun h => h ▸ rfl, bl_inj⟩
theorem mn_lt (l : List Nat) : decide ((szL l).length < (hdL 47 l).length) = mnL l := by
  cases h : mnL l
  · rw [sz_ps h]; exact decide_eq_false (Nat.lt_irrefl _)
  · rw [sz_mn h, List.length_cons]; exact decide_eq_true (by omega)
theorem sz_le (l : List Nat) : (szL l).length ≤ l.length := by
  have := hd_le 47 l
  unfold szL; split
  · rw [List.length_drop]; omega
  · exact this
theorem den_le (l : List Nat) : (denL l).length ≤ l.length + 1 := by
  have := tl_le 47 l
  unfold denL; split
  · omega
  · simp
theorem blen_lt2 (d : Nat) : (blen d < 2) = (d < 2) := by
  rw [eq_iff_iff, show (blen d < 2) = (blen d ≤ 1) from eq_iff_iff.2 ⟨by omega, by omega⟩, blen_le_iff]
theorem blen_ne1 (d : Nat) : ((blen d : Int) != 1) = decide (d ≠ 1) := by
  rw [Bool.eq_iff_iff, bne_iff_ne, decide_eq_true_eq, Ne, Ne, ← blen_one_iff]; omega
theorem fParse_spec (hP : PrgOk P) (s : ByteArray) (hs : (bl s).length ≤ 549755813888) : CSpec P 9 [.str s] (.tup [(.agg [.opq (.frac ((parF (bl s)).1)), .pad, .pad, .pad, .pad]), .int .i64 (parF (bl s)).2]) := by
  have HE := Lt3_all hP TF hP.tF
  have e47 : (47 : UInt8).toNat = 47 := rfl
  have b1 := bl_sz s
  have b4 : bl ⟨#[48]⟩ = [48] := rfl
  have c1 := bl_cutA 47 s
  have m1 := mn_lt (bl s)
  have hs' : (bl s).length ≤ 1099511627776 := by omega
  have l1 : (szL (bl s)).length ≤ 1099511627776 := Nat.le_trans (sz_le _) hs'
  have l2 : (denL (bl s)).length ≤ 1099511627776 := Nat.le_trans (den_le _) (by omega)
  refine CSpec_vc (E := ⟨TF, Lt3⟩) (fn9 hP) HE hP.mix rfl (by first | rfl | (simp only [go_sem]; done)) (by first | rfl | (simp only [go_sem]; done)) (Nat.le_of_ble_eq_true rfl) ?_
  by_cases hst : 47 ∈ bl s
  · have hst' : decide (47 ∈ bl s) = true := decide_eq_true hst
    have b5 : bl (cutB 47 s) = denL (bl s) := by rw [bl_cutB]; unfold denL; rw [if_pos hst]
    by_cases h1 : okD (szL (bl s))
    · have h1' := decide_eq_true h1
      by_cases h2 : okD (denL (bl s))
      · have h2' := decide_eq_true h2
        by_cases h3 : mnL (bl s) = true ∧ szL (bl s) = [48]
        · have h4' := decide_eq_true h3.2
          rw [parF_1 (.inr (.inr h3))]
          simp (maxSteps := 1000000) only [go_sem, hs', e47, b1, b4, b5, c1, size_bl, m1, hst', l1, l2, h1', h2', h3.1, h4', str_eq]
          (repeat' (first | exact Conv.refl _ | refine And.intro ?_ ?_)) <;> first | omega | decide
        · have hn : ¬ (¬ okD (szL (bl s)) ∨ ¬ okD (denL (bl s)) ∨ (mnL (bl s) = true ∧ szL (bl s) = [48])) := by
            rintro (h | h | h)
            · exact h h1
            · exact h h2
            · exact h3 h
          have hm : mnL (bl s) = false ∨ (mnL (bl s) = true ∧ decide (szL (bl s) = [48]) = false) := by
            cases hm : mnL (bl s)
            · exact .inl rfl
            · exact .inr ⟨rfl, decide_eq_false fun e => h3 ⟨hm, e⟩⟩
          have two : (0 : Int) != 3 := by decide
          by_cases h5 : (szL (bl s)).length ≤ 256
          · have p1 := parse_ok h1 h5
            have v1 := valL_blen h1 h5
            by_cases h6 : (denL (bl s)).length ≤ 256
            · have p2 := parse_ok h2 h6
              have v2 := valL_blen h2 h6
              have v1' := Nat.le_trans v1 (show _ ≤ 68719476736 by decide)
              have v2' := Nat.le_trans v2 (show _ ≤ 68719476736 by decide)
              have v2'' := Nat.le_trans v2 (show _ ≤ 34359738368 by decide)
              have g1 : blen (Nat.gcd (valL (szL (bl s))) (valL (denL (bl s)))) ≤ 68719476736 := gcd_blen v1' v2'
              have w1 : wl (sg (mnL (bl s)) (valL (szL (bl s)))) ≤ 34359738368 := by unfold wl; rw [sg_abs]; exact Nat.le_trans v1 (by decide)
              have hl : ¬ (256 < (szL (bl s)).length ∨ 256 < (denL (bl s)).length) := by omega
              by_cases h7 : 47 ∈ bl s ∧ (valL (denL (bl s)) < 2 ∨ Nat.gcd (valL (szL (bl s))) (valL (denL (bl s))) ≠ 1)
              · rw [parF_3 hn hl h7]
                by_cases h8 : valL (denL (bl s)) < 2
                · rcases hm with hm | ⟨hm, hm2⟩
                  · first
                    | exact absurd h7.1 hst
                    | (simp (maxSteps := 1000000) only [go_sem, hs', e47, b1, b4, b5, c1, size_bl, m1, hst', l1, l2, h1', h2', str_eq, hm, p1, p2, v1', v2', blen_lt2, h8]
                       (repeat' (first | exact Conv.refl _ | refine And.intro ?_ ?_)) <;> first | omega | decide)
                  · first
                    | exact absurd h7.1 hst
                    | (simp (maxSteps := 1000000) only [go_sem, hs', e47, b1, b4, b5, c1, size_bl, m1, hst', l1, l2, h1', h2', str_eq, hm, hm2, p1, p2, v1', v2', blen_lt2, h8]
                       (repeat' (first | exact Conv.refl _ | refine And.intro ?_ ?_)) <;> first | omega | decide)
                · have h9 : decide (Nat.gcd (valL (szL (bl s))) (valL (denL (bl s))) ≠ 1) = true := decide_eq_true (h7.2.resolve_left h8)
                  rcases hm with hm | ⟨hm, hm2⟩
                  · first
                    | exact absurd h7.1 hst
                    | (simp (maxSteps := 1000000) only [go_sem, hs', e47, b1, b4, b5, c1, size_bl, m1, hst', l1, l2, h1', h2', str_eq, hm, p1, p2, v1', v2', blen_lt2, h8, g1, blen_ne1, h9]
                       (repeat' (first | exact Conv.refl _ | refine And.intro ?_ ?_)) <;> first | omega | decide)
                  · first
                    | exact absurd h7.1 hst
                    | (simp (maxSteps := 1000000) only [go_sem, hs', e47, b1, b4, b5, c1, size_bl, m1, hst', l1, l2, h1', h2', str_eq, hm, hm2, p1, p2, v1', v2', blen_lt2, h8, g1, blen_ne1, h9]
                       (repeat' (first | exact Conv.refl _ | refine And.intro ?_ ?_)) <;> first | omega | decide)
              · rw [parF_4 hn hl h7]
                have h8 : 47 ∈ bl s → ¬ valL (denL (bl s)) < 2 := fun k e => h7 ⟨k, .inl e⟩
                have h9 : 47 ∈ bl s → decide (Nat.gcd (valL (szL (bl s))) (valL (denL (bl s))) ≠ 1) = false := fun k => decide_eq_false fun e => h7 ⟨k, .inr e⟩
                have hpos : 0 < valL (denL (bl s)) := den_pos' fun k => by have := h8 k; omega
                rcases hm with hm | ⟨hm, hm2⟩
                · rw [hm] at w1 ⊢
                  first
                    | (have h8 := h8 hst
                       have h9 := h9 hst
                       simp (maxSteps := 1000000) only [go_sem, hs', e47, b1, b4, b5, c1, size_bl, m1, hst', l1, l2, h1', h2', str_eq, hm, p1, p2, v1', v2', v2'', blen_lt2, h8, g1, blen_ne1, h9, w1, hpos]
                       (repeat' (first | exact Conv.refl _ | refine And.intro ?_ ?_)) <;> first | omega | decide)
                    | (simp (maxSteps := 1000000) only [go_sem, hs', e47, b1, b4, b5, c1, size_bl, m1, hst', l1, l2, h1', h2', str_eq, hm, p1, p2, v1', v2', v2'', w1, hpos]
                       (repeat' (first | exact Conv.refl _ | refine And.intro ?_ ?_)) <;> first | omega | decide)
                · rw [hm] at w1 ⊢
                  first
                    | (have h8 := h8 hst
                       have h9 := h9 hst
                       simp (maxSteps := 1000000) only [go_sem, hs', e47, b1, b4, b5, c1, size_bl, m1, hst', l1, l2, h1', h2', str_eq, hm, hm2, p1, p2, v1', v2', v2'', blen_lt2, h8, g1, blen_ne1, h9, w1, hpos]
                       (repeat' (first | exact Conv.refl _ | refine And.intro ?_ ?_)) <;> first | omega | decide)
                    | (simp (maxSteps := 1000000) only [go_sem, hs', e47, b1, b4, b5, c1, size_bl, m1, hst', l1, l2, h1', h2', str_eq, hm, hm2, p1, p2, v1', v2', v2'', w1, hpos]
                       (repeat' (first | exact Conv.refl _ | refine And.intro ?_ ?_)) <;> first | omega | decide)
            · have p2 := parse_long h2 (show 256 < (denL (bl s)).length by omega)
              rw [parF_2 hn (.inr (by omega))]
              rcases hm with hm | ⟨hm, hm2⟩
              · simp (maxSteps := 1000000) only [go_sem, hs', e47, b1, b4, b5, c1, size_bl, m1, hst', l1, l2, h1', h2', str_eq, hm, p1, p2]
                (repeat' (first | exact Conv.refl _ | refine And.intro ?_ ?_)) <;> first | omega | decide
              · simp (maxSteps := 1000000) only [go_sem, hs', e47, b1, b4, b5, c1, size_bl, m1, hst', l1, l2, h1', h2', str_eq, hm, hm2, p1, p2]
                (repeat' (first | exact Conv.refl _ | refine And.intro ?_ ?_)) <;> first | omega | decide
          · have p1 := parse_long h1 (show 256 < (szL (bl s)).length by omega)
            have p2 : ∃ n e, parseR (denL (bl s)) = .tup [(.agg [.opq (.nat (n)), .pad]), .int .i64 e] := by
              by_cases h6 : (denL (bl s)).length ≤ 256
              · exact ⟨_, _, parse_ok h2 h6⟩
              · exact ⟨_, _, parse_long h2 (by omega)⟩
            obtain ⟨n2, e2, p2⟩ := p2
            rw [parF_2 hn (.inl (by omega))]
            rcases hm with hm | ⟨hm, hm2⟩
            · simp (maxSteps := 1000000) only [go_sem, hs', e47, b1, b4, b5, c1, size_bl, m1, hst', l1, l2, h1', h2', str_eq, hm, p1, p2]
              (repeat' (first | exact Conv.refl _ | refine And.intro ?_ ?_)) <;> first | omega | decide
            · simp (maxSteps := 1000000) only [go_sem, hs', e47, b1, b4, b5, c1, size_bl, m1, hst', l1, l2, h1', h2', str_eq, hm, hm2, p1, p2]
              (repeat' (first | exact Conv.refl _ | refine And.intro ?_ ?_)) <;> first | omega | decide
      · have h2' := decide_eq_false h2
        rw [parF_1 (.inr (.inl h2))]
        simp (maxSteps := 1000000) only [go_sem, hs', e47, b1, b4, b5, c1, size_bl, m1, hst', l1, l2, h1', h2', str_eq]
        (repeat' (first | exact Conv.refl _ | refine And.intro ?_ ?_)) <;> first | omega | decide
    · have h1' := decide_eq_false h1
      rw [parF_1 (.inl h1)]
      simp (maxSteps := 1000000) only [go_sem, hs', e47, b1, b4, b5, c1, size_bl, m1, hst', l1, l2, h1', str_eq]
      (repeat' (first | exact Conv.refl _ | refine And.intro ?_ ?_)) <;> first | omega | decide
  · have hst' : decide (47 ∈ bl s) = false := decide_eq_false hst
    have b5 : bl ⟨#[49]⟩ = denL (bl s) := (den_one hst).symm
    by_cases h1 : okD (szL (bl s))
    · have h1' := decide_eq_true h1
      by_cases h2 : okD (denL (bl s))
      · have h2' := decide_eq_true h2
        by_cases h3 : mnL (bl s) = true ∧ szL (bl s) = [48]
        · have h4' := decide_eq_true h3.2
          rw [parF_1 (.inr (.inr h3))]
          simp (maxSteps := 1000000) only [go_sem, hs', e47, b1, b4, b5, c1, size_bl, m1, hst', l1, l2, h1', h2', h3.1, h4', str_eq]
          (repeat' (first | exact Conv.refl _ | refine And.intro ?_ ?_)) <;> first | omega | decide
        · have hn : ¬ (¬ okD (szL (bl s)) ∨ ¬ okD (denL (bl s)) ∨ (mnL (bl s) = true ∧ szL (bl s) = [48])) := by
            rintro (h | h | h)
            · exact h h1
            · exact h h2
            · exact h3 h
          have hm : mnL (bl s) = false ∨ (mnL (bl s) = true ∧ decide (szL (bl s) = [48]) = false) := by
            cases hm : mnL (bl s)
            · exact .inl rfl
            · exact .inr ⟨rfl, decide_eq_false fun e => h3 ⟨hm, e⟩⟩
          have two : (0 : Int) != 3 := by decide
          by_cases h5 : (szL (bl s)).length ≤ 256
          · have p1 := parse_ok h1 h5
            have v1 := valL_blen h1 h5
            by_cases h6 : (denL (bl s)).length ≤ 256
            · have p2 := parse_ok h2 h6
              have v2 := valL_blen h2 h6
              have v1' := Nat.le_trans v1 (show _ ≤ 68719476736 by decide)
              have v2' := Nat.le_trans v2 (show _ ≤ 68719476736 by decide)
              have v2'' := Nat.le_trans v2 (show _ ≤ 34359738368 by decide)
              have g1 : blen (Nat.gcd (valL (szL (bl s))) (valL (denL (bl s)))) ≤ 68719476736 := gcd_blen v1' v2'
              have w1 : wl (sg (mnL (bl s)) (valL (szL (bl s)))) ≤ 34359738368 := by unfold wl; rw [sg_abs]; exact Nat.le_trans v1 (by decide)
              have hl : ¬ (256 < (szL (bl s)).length ∨ 256 < (denL (bl s)).length) := by omega
              by_cases h7 : 47 ∈ bl s ∧ (valL (denL (bl s)) < 2 ∨ Nat.gcd (valL (szL (bl s))) (valL (denL (bl s))) ≠ 1)
              · rw [parF_3 hn hl h7]
                by_cases h8 : valL (denL (bl s)) < 2
                · rcases hm with hm | ⟨hm, hm2⟩
                  · first
                    | exact absurd h7.1 hst
                    | (simp (maxSteps := 1000000) only [go_sem, hs', e47, b1, b4, b5, c1, size_bl, m1, hst', l1, l2, h1', h2', str_eq, hm, p1, p2, v1', v2', blen_lt2, h8]
                       (repeat' (first | exact Conv.refl _ | refine And.intro ?_ ?_)) <;> first | omega | decide)
                  · first
                    | exact absurd h7.1 hst
                    | (simp (maxSteps := 1000000) only [go_sem, hs', e47, b1, b4, b5, c1, size_bl, m1, hst', l1, l2, h1', h2', str_eq, hm, hm2, p1, p2, v1', v2', blen_lt2, h8]
                       (repeat' (first | exact Conv.refl _ | refine And.intro ?_ ?_)) <;> first | omega | decide)
                · have h9 : decide (Nat.gcd (valL (szL (bl s))) (valL (denL (bl s))) ≠ 1) = true := decide_eq_true (h7.2.resolve_left h8)
                  rcases hm with hm | ⟨hm, hm2⟩
                  · first
                    | exact absurd h7.1 hst
                    | (simp (maxSteps := 1000000) only [go_sem, hs', e47, b1, b4, b5, c1, size_bl, m1, hst', l1, l2, h1', h2', str_eq, hm, p1, p2, v1', v2', blen_lt2, h8, g1, blen_ne1, h9]
                       (repeat' (first | exact Conv.refl _ | refine And.intro ?_ ?_)) <;> first | omega | decide)
                  · first
                    | exact absurd h7.1 hst
                    | (simp (maxSteps := 1000000) only [go_sem, hs', e47, b1, b4, b5, c1, size_bl, m1, hst', l1, l2, h1', h2', str_eq, hm, hm2, p1, p2, v1', v2', blen_lt2, h8, g1, blen_ne1, h9]
                       (repeat' (first | exact Conv.refl _ | refine And.intro ?_ ?_)) <;> first | omega | decide)
              · rw [parF_4 hn hl h7]
                have h8 : 47 ∈ bl s → ¬ valL (denL (bl s)) < 2 := fun k e => h7 ⟨k, .inl e⟩
                have h9 : 47 ∈ bl s → decide (Nat.gcd (valL (szL (bl s))) (valL (denL (bl s))) ≠ 1) = false := fun k => decide_eq_false fun e => h7 ⟨k, .inr e⟩
                have hpos : 0 < valL (denL (bl s)) := den_pos' fun k => by have := h8 k; omega
                rcases hm with hm | ⟨hm, hm2⟩
                · rw [hm] at w1 ⊢
                  first
                    | (have h8 := h8 hst
                       have h9 := h9 hst
                       simp (maxSteps := 1000000) only [go_sem, hs', e47, b1, b4, b5, c1, size_bl, m1, hst', l1, l2, h1', h2', str_eq, hm, p1, p2, v1', v2', v2'', blen_lt2, h8, g1, blen_ne1, h9, w1, hpos]
                       (repeat' (first | exact Conv.refl _ | refine And.intro ?_ ?_)) <;> first | omega | decide)
                    | (simp (maxSteps := 1000000) only [go_sem, hs', e47, b1, b4, b5, c1, size_bl, m1, hst', l1, l2, h1', h2', str_eq, hm, p1, p2, v1', v2', v2'', w1, hpos]
                       (repeat' (first | exact Conv.refl _ | refine And.intro ?_ ?_)) <;> first | omega | decide)
                · rw [hm] at w1 ⊢
                  first
                    | (have h8 := h8 hst
                       have h9 := h9 hst
                       simp (maxSteps := 1000000) only [go_sem, hs', e47, b1, b4, b5, c1, size_bl, m1, hst', l1, l2, h1', h2', str_eq, hm, hm2, p1, p2, v1', v2', v2'', blen_lt2, h8, g1, blen_ne1, h9, w1, hpos]
                       (repeat' (first | exact Conv.refl _ | refine And.intro ?_ ?_)) <;> first | omega | decide)
                    | (simp (maxSteps := 1000000) only [go_sem, hs', e47, b1, b4, b5, c1, size_bl, m1, hst', l1, l2, h1', h2', str_eq, hm, hm2, p1, p2, v1', v2', v2'', w1, hpos]
                       (repeat' (first | exact Conv.refl _ | refine And.intro ?_ ?_)) <;> first | omega | decide)
            · have p2 := parse_long h2 (show 256 < (denL (bl s)).length by omega)
              rw [parF_2 hn (.inr (by omega))]
              rcases hm with hm | ⟨hm, hm2⟩
              · simp (maxSteps := 1000000) only [go_sem, hs', e47, b1, b4, b5, c1, size_bl, m1, hst', l1, l2, h1', h2', str_eq, hm, p1, p2]
                (repeat' (first | exact Conv.refl _ | refine And.intro ?_ ?_)) <;> first | omega | decide
              · simp (maxSteps := 1000000) only [go_sem, hs', e47, b1, b4, b5, c1, size_bl, m1, hst', l1, l2, h1', h2', str_eq, hm, hm2, p1, p2]
                (repeat' (first | exact Conv.refl _ | refine And.intro ?_ ?_)) <;> first | omega | decide
          · have p1 := parse_long h1 (show 256 < (szL (bl s)).length by omega)
            have p2 : ∃ n e, parseR (denL (bl s)) = .tup [(.agg [.opq (.nat (n)), .pad]), .int .i64 e] := by
              by_cases h6 : (denL (bl s)).length ≤ 256
              · exact ⟨_, _, parse_ok h2 h6⟩
              · exact ⟨_, _, parse_long h2 (by omega)⟩
            obtain ⟨n2, e2, p2⟩ := p2
            rw [parF_2 hn (.inl (by omega))]
            rcases hm with hm | ⟨hm, hm2⟩
            · simp (maxSteps := 1000000) only [go_sem, hs', e47, b1, b4, b5, c1, size_bl, m1, hst', l1, l2, h1', h2', str_eq, hm, p1, p2]
              (repeat' (first | exact Conv.refl _ | refine And.intro ?_ ?_)) <;> first | omega | decide
            · simp (maxSteps := 1000000) only [go_sem, hs', e47, b1, b4, b5, c1, size_bl, m1, hst', l1, l2, h1', h2', str_eq, hm, hm2, p1, p2]
              (repeat' (first | exact Conv.refl _ | refine And.intro ?_ ?_)) <;> first | omega | decide
      · have h2' := decide_eq_false h2
        rw [parF_1 (.inr (.inl h2))]
        simp (maxSteps := 1000000) only [go_sem, hs', e47, b1, b4, b5, c1, size_bl, m1, hst', l1, l2, h1', h2', str_eq]
        (repeat' (first | exact Conv.refl _ | refine And.intro ?_ ?_)) <;> first | omega | decide
    · have h1' := decide_eq_false h1
      rw [parF_1 (.inl h1)]
      simp (maxSteps := 1000000) only [go_sem, hs', e47, b1, b4, b5, c1, size_bl, m1, hst', l1, l2, h1', str_eq]
      (repeat' (first | exact Conv.refl _ | refine And.intro ?_ ?_)) <;> first | omega | decide
noncomputable def fParseS : List AV → Option (Prop × AV)
  | [.str s] => some ((bl s).length ≤ 549755813888, .tup [(.agg [.opq (.frac ((parF (bl s)).1)), .pad, .pad, .pad, .pad]), .int .i64 (parF (bl s)).2])
  | _ => none
theorem fParseS_ok (hP : PrgOk P) (args p r) (h : fParseS args = some (p, r)) (hp : p) : CSpec P 9 args r := by
  unfold fParseS at h
  split at h
  · simp only [Option.some.injEq, Prod.mk.injEq] at h
    obtain ⟨rfl, rfl⟩ := h
    exact fParse_spec hP _ hp
  · simp at h
attribute [go_sem] fParseS
end Go.Proofs.YtjnhekedclcbfaaDoor.AM
/- Fractions: literals. -/
namespace Go.Proofs.YtjnhekedclcbfaaDoor.AM
set_option linter.all false
set_option autoImplicit true
set_option relaxedAutoImplicit true
open Go Go.Proofs
set_option maxRecDepth 100000
set_option maxHeartbeats 8000000
set_option linter.unusedSimpArgs false
variable {P : Program}

noncomputable def Lt4 : Nat → List AV → Option (Prop × AV) := addS Lt3 9 fParseS
theorem Lt4_all (hP : PrgOk P) (T) (hT : TyOk P T) : EnvOk P ⟨T, Lt4⟩ := ((Lt3_all hP T hT).add (fParseS_ok hP))
theorem Lt4_at (f a) : Lt4 f a = (addS Lt3 9 fParseS) f a := rfl
attribute [go_sem] Lt4_at
theorem fLit_spec (hP : PrgOk P) (s : ByteArray) (hs : (bl s).length ≤ 549755813888) : CSpec P 29 [.str s] (.tup [(.agg [.opq (.frac ((litF (bl s)).1)), .pad, .pad, .pad, .pad]), .int .i64 (litF (bl s)).2]) := by
  have HE := Lt4_all hP TF hP.tF
  have e46 : (46 : UInt8).toNat = 46 := rfl
  have c1 := bl_cutA 46 s
  have c2 := bl_cutB 46 s
  have b0 : bl ⟨#[]⟩ = [] := rfl
  have hs' : (bl s).length ≤ 1099511627776 := by omega
  have lA := hd_le 46 (bl s)
  have lB := tl_le 46 (bl s)
  have z1 : (cutA 46 s).size + (cutB 46 s).size ≤ 9223372036854775807 := by rw [size_bl, size_bl, c1, c2]; omega
  have ca : bl (cutA 46 s ++ cutB 46 s) = hdL 46 (bl s) ++ tlL 46 (bl s) := by rw [bl_app, c1, c2]
  have z2 : (cutA 46 s ++ cutB 46 s).size ≤ 9223372036854775807 := by rw [ByteArray.size_append]; exact z1
  have z3 : (cutA 46 s ++ cutB 46 s).size = (hdL 46 (bl s) ++ tlL 46 (bl s)).length := by rw [size_bl, ca]
  have ht := trD_nil (cutA 46 s ++ cutB 46 s)
  rw [ca] at ht
  have hz := bl_trZ (cutA 46 s ++ cutB 46 s)
  rw [ca] at hz
  refine CSpec_vc (E := ⟨TF, Lt4⟩) (fn29 hP) HE hP.mix rfl (by first | rfl | (simp only [go_sem]; done)) (by first | rfl | (simp only [go_sem]; done)) (Nat.le_of_ble_eq_true rfl) ?_
  obtain ⟨A, hA⟩ : ∃ A, hdL 46 (bl s) = A := ⟨_, rfl⟩
  obtain ⟨B, hB⟩ : ∃ B, tlL 46 (bl s) = B := ⟨_, rfl⟩
  have hno : 46 ∉ bl s → B = [] := fun h => by rw [← hB]; exact (hd_no h).2.1
  have f1 : (A = [] ∨ (46 ∈ bl s ∧ B = []) ∨ ¬ dgs (A ++ B)) → litF (bl s) = (0, 12) := fun h => litF_1 (by rw [hA, hB]; exact h)
  have f2 : ¬ (A = [] ∨ (46 ∈ bl s ∧ B = []) ∨ ¬ dgs (A ++ B)) → 256 < (A ++ B).length → litF (bl s) = (0, 3) := fun h h2 => litF_2 (by rw [hA, hB]; exact h) (by rw [hA, hB]; exact h2)
  have f3 : ¬ (A = [] ∨ (46 ∈ bl s ∧ B = []) ∨ ¬ dgs (A ++ B)) → ¬ 256 < (A ++ B).length → litF (bl s) = (qlow (valL (A ++ B)) (10 ^ B.length), 0) := fun h h2 => by rw [litF_3 (by rw [hA, hB]; exact h) (by rw [hA, hB]; exact h2), hA, hB]
  rw [hA] at c1 z3 ht hz lA
  rw [hB] at c2 z3 ht hz lB
  by_cases h1 : A = []
  · have h1' : A.isEmpty = true := by rw [h1]; rfl
    rw [f1 (.inl h1)]
    simp (maxSteps := 1000000) only [go_sem, hs', e46, c1, c2, z1, z2, toList_nil, h1', ht]
    (repeat' (first | exact Conv.refl _ | refine And.intro ?_ ?_)) <;> first | omega | decide
  · have h1' : A.isEmpty = false := by cases A with | nil => exact absurd rfl h1 | cons => rfl
    by_cases h2 : 46 ∈ bl s ∧ B = []
    · have h2' := decide_eq_true h2.1
      have h2'' : B.isEmpty = true := by rw [h2.2]; rfl
      rw [f1 (.inr (.inl h2))]
      simp (maxSteps := 1000000) only [go_sem, hs', e46, c1, c2, z1, z2, toList_nil, h1', ht, h2', h2'']
      (repeat' (first | exact Conv.refl _ | refine And.intro ?_ ?_)) <;> first | omega | decide
    · have h3 : (46 ∈ bl s ∧ B.isEmpty = false) ∨ 46 ∉ bl s := by
        by_cases h : 46 ∈ bl s
        · refine .inl ⟨h, ?_⟩
          cases B with | nil => exact absurd ⟨h, rfl⟩ h2 | cons => rfl
        · exact .inr h
      rcases h3 with ⟨h3, h3'⟩ | h3
      · have h3 := decide_eq_true h3
        by_cases h4 : dgs (A ++ B)
        · have h4' := decide_eq_true h4
          have hn : ¬ (A = [] ∨ (46 ∈ bl s ∧ B = []) ∨ ¬ dgs (A ++ B)) := by
            rintro (h | h | h)
            · exact h1 h
            · exact h2 h
            · exact h h4
          by_cases h5 : 256 < (A ++ B).length
          · rw [f2 hn h5]
            rw [List.length_append] at h5
            simp (maxSteps := 1000000) only [go_sem, hs', e46, c1, c2, z1, z2, z3, toList_nil, h1', ht, h3, h3', h4', h5]
            (repeat' (first | exact Conv.refl _ | refine And.intro ?_ ?_)) <;> first | omega | decide
          · rw [f3 hn h5]
            by_cases h6 : dz (A ++ B) = []
            · have h6' : (dz (A ++ B)).isEmpty = true := by rw [h6]; rfl
              have hv : valL (A ++ B) = 0 := by rw [← valL_dz, h6]; rfl
              have hq : qlow (valL (A ++ B) : Nat) (10 ^ B.length) = 0 := by rw [hv, qlow_eq]; exact Rat.zero_mkRat _
              rw [List.length_append] at h5
              rw [hq]
              simp (maxSteps := 1000000) only [go_sem, hs', e46, c1, c2, z1, z2, z3, toList_nil, h1', ht, h3, h3', h4', h5, hz, h6']
              (repeat' (first | exact Conv.refl _ | refine And.intro ?_ ?_)) <;> first | omega | decide
            · have h6' : (dz (A ++ B)).isEmpty = false := by cases hd : dz (A ++ B) with | nil => exact absurd hd h6 | cons => rfl
              have hlen := dz_le (A ++ B)
              have hpa := parse_ok (dz_ok h4 h6) (Nat.le_trans hlen (by omega))
              have hdl : (dz (A ++ B)).length ≤ 1099511627776 := by omega
              have hvb : blen (valL (A ++ B)) ≤ 1024 := by
                have := valL_blen (dz_ok h4 h6) (Nat.le_trans hlen (by omega))
                rwa [valL_dz] at this
              rw [List.length_append] at h5
              rw [valL_dz] at hpa
              have h10 : blen 10 ≤ 68719476736 := by decide
              have h10i : (10 : Int).toNat = 10 := rfl
              have i10 : ((0 : Int) ≤ 10) = True := eq_true (by decide)
              simp (maxSteps := 1000000) only [go_sem, hs', e46, c1, c2, z1, z2, z3, toList_nil, h1', ht, h3, h3', h4', h5, hz, h6', hpa, hdl, size_bl]
              have z4 : A.length + B.length ≤ 9223372036854775807 := by omega
              refine ⟨z4, z4, ?_⟩
              have hB6 : B.length ≤ 256 := by omega
              refine trX_loop HE hP.mix [46, 42, 0] (fun i : Nat => ⟨upd (upd (upd (upd (upd (upd (fun _ => .junk) 2 (.ref 0 0)) 3 (.int .i64 0)) 8 (.ref 42 0)) 10 (.ref 46 0)) 51 (.int .i64 (B.length : Int))) 52 (.int .i64 (i : Int)), upd (upd (upd (fun _ => .unused) 0 (.live [.opq (.frac 0), .pad, .pad, .pad, .pad])) 42 (.live [.opq (.nat (valL (A ++ B))), .pad])) 46 (.live [.opq (.nat (10 ^ i)), .pad]), 62⟩)
                (fun i => i ≤ B.length) (fun i => B.length - i) 0 50 (by repeat (first | exact Has.nil | refine Has.upd rfl ?_)) (Kept.of rfl (by repeat (first | exact KT.nil | refine KT.upd rfl (by first | rfl | exact hr | exact hr2 | (simp only [go_sem]; done)) ?_)) (KM.p (by repeat (first | exact KMp.nil | refine KMp.upd rfl (by first | rfl | (simp only [go_sem]; done)) ?_)))) (Nat.zero_le _) 62 (by kernel_rfl) ?_
              intro i hi0
              have hi0 : i ≤ B.length := hi0
              have hbt : blen (10 ^ i) ≤ 68719476736 := Nat.le_trans (blen_ten i) (by omega)
              have hbt2 : blen (10 ^ i) ≤ 34359738368 := Nat.le_trans (blen_ten i) (by omega)
              have hpw : 10 ^ i * 10 = 10 ^ (i + 1) := (Nat.pow_succ 10 i).symm
              have hwi := wi_add1 i (by omega)
              by_cases hi : i < B.length
              · simp (maxSteps := 1000000) only [go_sem, hi, hbt, h10, h10i, i10, hpw, hwi]
                exact ⟨i + 1, Kept.of rfl (by repeat (first | exact KT.nil | refine KT.upd rfl (by first | rfl | exact hr | exact hr2 | (simp only [go_sem]; done)) ?_)) (KM.p (by repeat (first | exact KMp.nil | refine KMp.upd rfl (by first | rfl | (simp only [go_sem]; done)) ?_))), by show i + 1 ≤ _; omega, by show B.length - (i + 1) < B.length - i; omega⟩
              · have hie : i = B.length := by omega
                subst hie
                have w1 : wl (valL (A ++ B) : Int) ≤ 34359738368 := Nat.le_trans hvb (by decide)
                have w2 : blen (valL (A ++ B)) ≤ 34359738368 := Nat.le_trans hvb (by decide)
                have hp0 : 0 < 10 ^ B.length := Nat.pow_pos (by decide)
                simp (maxSteps := 1000000) only [go_sem, hi, hbt2, w1, w2, sg_f, hp0]
                (repeat' (first | exact Conv.refl _ | refine And.intro ?_ ?_)) <;> first | omega | decide
        · have h4' := decide_eq_false h4
          rw [f1 (.inr (.inr h4))]
          simp (maxSteps := 1000000) only [go_sem, hs', e46, c1, c2, z1, z2, toList_nil, h1', ht, h3, h3', h4']
          (repeat' (first | exact Conv.refl _ | refine And.intro ?_ ?_)) <;> first | omega | decide
      · have h3 := decide_eq_false h3
        by_cases h4 : dgs (A ++ B)
        · have h4' := decide_eq_true h4
          have hn : ¬ (A = [] ∨ (46 ∈ bl s ∧ B = []) ∨ ¬ dgs (A ++ B)) := by
            rintro (h | h | h)
            · exact h1 h
            · exact h2 h
            · exact h h4
          by_cases h5 : 256 < (A ++ B).length
          · rw [f2 hn h5]
            rw [List.length_append] at h5
            simp (maxSteps := 1000000) only [go_sem, hs', e46, c1, c2, z1, z2, z3, toList_nil, h1', ht, h3, h4', h5]
            (repeat' (first | exact Conv.refl _ | refine And.intro ?_ ?_)) <;> first | omega | decide
          · rw [f3 hn h5]
            by_cases h6 : dz (A ++ B) = []
            · have h6' : (dz (A ++ B)).isEmpty = true := by rw [h6]; rfl
              have hv : valL (A ++ B) = 0 := by rw [← valL_dz, h6]; rfl
              have hq : qlow (valL (A ++ B) : Nat) (10 ^ B.length) = 0 := by rw [hv, qlow_eq]; exact Rat.zero_mkRat _
              rw [List.length_append] at h5
              rw [hq]
              simp (maxSteps := 1000000) only [go_sem, hs', e46, c1, c2, z1, z2, z3, toList_nil, h1', ht, h3, h4', h5, hz, h6']
              (repeat' (first | exact Conv.refl _ | refine And.intro ?_ ?_)) <;> first | omega | decide
            · have h6' : (dz (A ++ B)).isEmpty = false := by cases hd : dz (A ++ B) with | nil => exact absurd hd h6 | cons => rfl
              have hlen := dz_le (A ++ B)
              have hpa := parse_ok (dz_ok h4 h6) (Nat.le_trans hlen (by omega))
              have hdl : (dz (A ++ B)).length ≤ 1099511627776 := by omega
              have hvb : blen (valL (A ++ B)) ≤ 1024 := by
                have := valL_blen (dz_ok h4 h6) (Nat.le_trans hlen (by omega))
                rwa [valL_dz] at this
              rw [List.length_append] at h5
              rw [valL_dz] at hpa
              have h10 : blen 10 ≤ 68719476736 := by decide
              have h10i : (10 : Int).toNat = 10 := rfl
              have i10 : ((0 : Int) ≤ 10) = True := eq_true (by decide)
              simp (maxSteps := 1000000) only [go_sem, hs', e46, c1, c2, z1, z2, z3, toList_nil, h1', ht, h3, h4', h5, hz, h6', hpa, hdl, size_bl]
              have z4 : A.length + B.length ≤ 9223372036854775807 := by omega
              refine ⟨z4, z4, ?_⟩
              have hB6 : B.length ≤ 256 := by omega
              refine trX_loop HE hP.mix [44, 40, 0] (fun i : Nat => ⟨upd (upd (upd (upd (upd (upd (fun _ => .junk) 2 (.ref 0 0)) 3 (.int .i64 0)) 8 (.ref 40 0)) 10 (.ref 44 0)) 51 (.int .i64 (B.length : Int))) 52 (.int .i64 (i : Int)), upd (upd (upd (fun _ => .unused) 0 (.live [.opq (.frac 0), .pad, .pad, .pad, .pad])) 40 (.live [.opq (.nat (valL (A ++ B))), .pad])) 44 (.live [.opq (.nat (10 ^ i)), .pad]), 62⟩)
                (fun i => i ≤ B.length) (fun i => B.length - i) 0 50 (by repeat (first | exact Has.nil | refine Has.upd rfl ?_)) (Kept.of rfl (by repeat (first | exact KT.nil | refine KT.upd rfl (by first | rfl | exact hr | exact hr2 | (simp only [go_sem]; done)) ?_)) (KM.p (by repeat (first | exact KMp.nil | refine KMp.upd rfl (by first | rfl | (simp only [go_sem]; done)) ?_)))) (Nat.zero_le _) 62 (by kernel_rfl) ?_
              intro i hi0
              have hi0 : i ≤ B.length := hi0
              have hbt : blen (10 ^ i) ≤ 68719476736 := Nat.le_trans (blen_ten i) (by omega)
              have hbt2 : blen (10 ^ i) ≤ 34359738368 := Nat.le_trans (blen_ten i) (by omega)
              have hpw : 10 ^ i * 10 = 10 ^ (i + 1) := (Nat.pow_succ 10 i).symm
              have hwi := wi_add1 i (by omega)
              by_cases hi : i < B.length
              · simp (maxSteps := 1000000) only [go_sem, hi, hbt, h10, h10i, i10, hpw, hwi]
                exact ⟨i + 1, Kept.of rfl (by repeat (first | exact KT.nil | refine KT.upd rfl (by first | rfl | exact hr | exact hr2 | (simp only [go_sem]; done)) ?_)) (KM.p (by repeat (first | exact KMp.nil | refine KMp.upd rfl (by first | rfl | (simp only [go_sem]; done)) ?_))), by show i + 1 ≤ _; omega, by show B.length - (i + 1) < B.length - i; omega⟩
              · have hie : i = B.length := by omega
                subst hie
                have w1 : wl (valL (A ++ B) : Int) ≤ 34359738368 := Nat.le_trans hvb (by decide)
                have w2 : blen (valL (A ++ B)) ≤ 34359738368 := Nat.le_trans hvb (by decide)
                have hp0 : 0 < 10 ^ B.length := Nat.pow_pos (by decide)
                simp (maxSteps := 1000000) only [go_sem, hi, hbt2, w1, w2, sg_f, hp0]
                (repeat' (first | exact Conv.refl _ | refine And.intro ?_ ?_)) <;> first | omega | decide
        · have h4' := decide_eq_false h4
          rw [f1 (.inr (.inr h4))]
          simp (maxSteps := 1000000) only [go_sem, hs', e46, c1, c2, z1, z2, toList_nil, h1', ht, h3, h4']
          (repeat' (first | exact Conv.refl _ | refine And.intro ?_ ?_)) <;> first | omega | decide
noncomputable def fLitS : List AV → Option (Prop × AV)
  | [.str s] => some ((bl s).length ≤ 549755813888, .tup [(.agg [.opq (.frac ((litF (bl s)).1)), .pad, .pad, .pad, .pad]), .int .i64 (litF (bl s)).2])
  | _ => none
theorem fLitS_ok (hP : PrgOk P) (args p r) (h : fLitS args = some (p, r)) (hp : p) : CSpec P 29 args r := by
  unfold fLitS at h
  split at h
  · simp only [Option.some.injEq, Prod.mk.injEq] at h
    obtain ⟨rfl, rfl⟩ := h
    exact fLit_spec hP _ hp
  · simp at h
attribute [go_sem] fLitS
noncomputable def Lt5 : Nat → List AV → Option (Prop × AV) := addS Lt4 29 fLitS
theorem Lt5_all (hP : PrgOk P) (T) (hT : TyOk P T) : EnvOk P ⟨T, Lt5⟩ := ((Lt4_all hP T hT).add (fLitS_ok hP))
theorem Lt5_at (f a) : Lt5 f a = (addS Lt4 29 fLitS) f a := rfl
attribute [go_sem] Lt5_at
end Go.Proofs.YtjnhekedclcbfaaDoor.AM
/- The document's whole numbers. -/
namespace Go.Proofs.YtjnhekedclcbfaaDoor.AM
set_option linter.all false
set_option autoImplicit true
set_option relaxedAutoImplicit true
open Go Go.Proofs
set_option maxRecDepth 100000
set_option maxHeartbeats 8000000
set_option linter.unusedSimpArgs false
variable {P : Program}

def rC (z : Int) : List AV := [.bool (decide (z < 0)), .opq (.rnat z.natAbs)]
theorem CvL.rintIn (z : Int) {xs bs} (h : CvL xs bs) : CvL ((.agg [.opq (.rint (z)), .pad]) :: xs) (.agg (rC z) :: bs) := .agg (by simpa [Pay.open, Pay.width, rC] using CvL.unfold (.rint z) []) h
theorem CvL.rintOut (z : Int) {xs bs} (h : CvL xs bs) : CvL (.agg (rC z) :: xs) ((.agg [.opq (.rint (z)), .pad]) :: bs) := .agg (by simpa [Pay.open, Pay.width, rC] using CvL.fold (.rint z) [] rfl) h
theorem Conv.rint (z : Int) : Conv (.agg (rC z)) (.agg [.opq (.rint (z)), .pad]) := CvL.conv (.rintOut z .nil)
theorem rC_sg {m : Bool} {a : Nat} (h : m = true → 0 < a) : rC (sg m a) = [.bool m, .opq (.rnat a)] := by
  unfold rC; rw [sg_abs, sg_neg]
  cases m
  · rfl
  · rw [decide_eq_true (h rfl)]; rfl
def rawI : AV → Option (Prop × Int)
  | .agg [.opq (.rint z), .pad] => some (True, z)
  | .agg [.bool m, .opq (.rnat a)] => some (m = true → 0 < a, sg m a)
  | _ => none
theorem rawI_atom (z : Int) : rawI (.agg [.opq (.rint (z)), .pad]) = some (True, z) := rfl
theorem rawI_raw (m a) : rawI (.agg [.bool m, .opq (.rnat a)]) = some (m = true → 0 < a, sg m a) := rfl
theorem rawI_cv {v : AV} {p z} (h : rawI v = some (p, z)) (hp : p) {xs bs} (k : CvL xs bs) : CvL (v :: xs) ((.agg [.opq (.rint (z)), .pad]) :: bs) := by
  unfold rawI at h
  split at h
  · simp only [Option.some.injEq, Prod.mk.injEq] at h
    obtain ⟨rfl, rfl⟩ := h
    exact .agg (.refl _) k
  · simp only [Option.some.injEq, Prod.mk.injEq] at h
    obtain ⟨rfl, rfl⟩ := h
    rw [← rC_sg hp]; exact .rintOut _ k
  · simp at h
def onI1 (f : Int → Prop × AV) : List AV → Option (Prop × AV)
  | [x] => (rawI x).map fun a => (a.1 ∧ (f a.2).1, (f a.2).2)
  | _ => none
def onI2 (f : Int → Int → Prop × AV) : List AV → Option (Prop × AV)
  | [x, y] => (rawI x).bind fun a => (rawI y).map fun b => (a.1 ∧ b.1 ∧ (f a.2 b.2).1, (f a.2 b.2).2)
  | _ => none
theorem onI1_ok {fi : Nat} {f : Int → Prop × AV} (h : ∀ a, (f a).1 → CSpec P fi [(.agg [.opq (.rint (a)), .pad])] (f a).2) (args p r) (he : onI1 f args = some (p, r)) (hp : p) : CSpec P fi args r := by
  unfold onI1 at he
  split at he
  · simp only [Option.map_eq_some_iff, Prod.exists, Prod.mk.injEq] at he
    obtain ⟨q, a, h1, rfl, rfl⟩ := he
    exact (h a hp.2).cv (rawI_cv h1 hp.1 .nil)
  · simp at he
theorem onI2_ok {fi : Nat} {f : Int → Int → Prop × AV} (h : ∀ a b, (f a b).1 → CSpec P fi [(.agg [.opq (.rint (a)), .pad]), (.agg [.opq (.rint (b)), .pad])] (f a b).2) (args p r) (he : onI2 f args = some (p, r)) (hp : p) : CSpec P fi args r := by
  unfold onI2 at he
  split at he
  · simp only [Option.bind_eq_some_iff, Option.map_eq_some_iff, Prod.exists, Prod.mk.injEq] at he
    obtain ⟨q, a, h1, q', b, h2, rfl, rfl⟩ := he
    exact (h a b hp.2.2).cv (rawI_cv h1 hp.1 (rawI_cv h2 hp.2.1 .nil))
  · simp at he
theorem onI1_eq (f x) : onI1 f [x] = (rawI x).map fun a => (a.1 ∧ (f a.2).1, (f a.2).2) := rfl
theorem onI2_eq (f x y) : onI2 f [x, y] = (rawI x).bind fun a => (rawI y).map fun b => (a.1 ∧ b.1 ∧ (f a.2 b.2).1, (f a.2 b.2).2) := rfl
attribute [go_sem] rawI_atom rawI_raw onI1_eq onI2_eq
theorem CvL.conv1 {a b : AV} (h : Conv a b) : CvL [a] [b] := fun X φ w l hl => by
  obtain ⟨v, rfl⟩ : ∃ v, l = [v] := by
    have := hl.length
    match l, this with
    | [v], _ => exact ⟨v, rfl⟩
  exact h X φ w v hl
theorem cmp_ge' {a b : Nat} (h : b ≤ a) : decide (0 ≤ cmpI a b) = true := by
  rcases Nat.lt_or_eq_of_le h with h | h
  · rw [cmpI_gt h]; rfl
  · rw [h, cmpI_eq]; rfl
theorem blen_pos_iff {a : Nat} : 0 < blen a ↔ 0 < a := by
  have := blen_zero_iff a; omega
def iMakeS : List AV → Option (Prop × AV)
  | [.bool m, x] => (rawR x).map fun a => (a.1 ∧ blen a.2 ≤ 68719476736, (.agg [.opq (.rint (sg m a.2)), .pad]))
  | _ => none
theorem iMakeS_eq (m x) : iMakeS [.bool m, x] = (rawR x).map fun a => (a.1 ∧ blen a.2 ≤ 68719476736, (.agg [.opq (.rint (sg m a.2)), .pad])) := rfl
attribute [go_sem] iMakeS_eq
def iSignS : List AV → Option (Prop × AV) := onI1 fun a => (wl a ≤ 68719476736, .int .i64 (sgnZ a))
attribute [go_sem] iSignS
noncomputable def It0 : Nat → List AV → Option (Prop × AV) := Sr
theorem It0_all (hP : PrgOk P) (T) (hT : TyOk P T) : EnvOk P ⟨T, It0⟩ := (Sr_all hP T hT)
attribute [go_sem] It0
def iOfS : List AV → Option (Prop × AV)
  | [.int .i64 n] => some (-9223372036854775808 ≤ n ∧ n ≤ 9223372036854775807, (.agg [.opq (.rint (n)), .pad]))
  | _ => none
attribute [go_sem] iOfS
def iTextS : List AV → Option (Prop × AV) := onI1 fun a => (wl a ≤ 68719476736, .str (itS a))
attribute [go_sem] iTextS
def iInt64S : List AV → Option (Prop × AV) := onI1 fun z => (wl z ≤ 68719476736, .tup [.int .i64 (if fitZ z = true then z else 0), .bool (fitZ z)])
attribute [go_sem] iInt64S
def iNegS : List AV → Option (Prop × AV) := onI1 fun a => (wl a ≤ 68719476736, (.agg [.opq (.rint (-a)), .pad]))
attribute [go_sem] iNegS
def iMulS : List AV → Option (Prop × AV) := onI2 fun a b => (wl a ≤ 34359738368 ∧ wl b ≤ 34359738368, (.agg [.opq (.rint (a * b)), .pad]))
attribute [go_sem] iMulS
def iAddS : List AV → Option (Prop × AV) := onI2 fun a b => (wl a ≤ 34359738368 ∧ wl b ≤ 34359738368, (.agg [.opq (.rint (a + b)), .pad]))
attribute [go_sem] iAddS
noncomputable def It1 : Nat → List AV → Option (Prop × AV) := It0
theorem It1_all (hP : PrgOk P) (T) (hT : TyOk P T) : EnvOk P ⟨T, It1⟩ := (It0_all hP T hT)
attribute [go_sem] It1
end Go.Proofs.YtjnhekedclcbfaaDoor.AM
/- The document's fractions. -/
namespace Go.Proofs.YtjnhekedclcbfaaDoor.AM
set_option linter.all false
set_option autoImplicit true
set_option relaxedAutoImplicit true
open Go Go.Proofs
set_option maxRecDepth 100000
set_option maxHeartbeats 8000000
set_option linter.unusedSimpArgs false
variable {P : Program}

theorem CvL.rnatOut (n : Nat) {xs bs} (k : CvL xs bs) : CvL ((.imm (digs 65536 (n)).length (List.map (fun d : Nat => AV.int .u32 (d : Int)) (digs 65536 (n)))) :: xs) ((.opq (.rnat (n))) :: bs) := fun W φ w l hl => by
  obtain ⟨v, vs, rfl, h1, h2⟩ := hl.uncons rfl
  exact (Conv.rnat n _ _ _ _ h1).app (k _ _ _ _ h2)
def rG (q : Rat) : List AV := [.bool (decide (q.num < 0)), (.imm (digs 65536 (q.num.natAbs)).length (List.map (fun d : Nat => AV.int .u32 (d : Int)) (digs 65536 (q.num.natAbs)))), (.imm (digs 65536 (q.den)).length (List.map (fun d : Nat => AV.int .u32 (d : Int)) (digs 65536 (q.den))))]
theorem CvL.rfIn (q : Rat) {xs bs} (h : CvL xs bs) : CvL ((.agg [.opq (.rfrac (q)), .pad, .pad]) :: xs) (.agg (rG q) :: bs) := by
  refine .agg (fun W φ w l hl => ?_) h
  have h1 : CvL [.opq (.rfrac q), .pad, .pad] [.bool (decide (q.num < 0)), (.opq (.rnat (q.num.natAbs))), (.opq (.rnat (q.den)))] := by simpa [Pay.open, Pay.width] using CvL.unfold (.rfrac q) []
  have h2 : CvL [.bool (decide (q.num < 0)), (.opq (.rnat (q.num.natAbs))), (.opq (.rnat (q.den)))] (rG q) := CvL.cons rfl (CvL.rnatIn _ (CvL.rnatIn _ .nil))
  exact h2 _ _ _ _ (h1 _ _ _ _ hl)
theorem CvL.rfOut (q : Rat) {xs bs} (h : CvL xs bs) : CvL (.agg (rG q) :: xs) ((.agg [.opq (.rfrac (q)), .pad, .pad]) :: bs) := by
  refine .agg (fun W φ w l hl => ?_) h
  have h1 : CvL [.bool (decide (q.num < 0)), (.opq (.rnat (q.num.natAbs))), (.opq (.rnat (q.den)))] [.opq (.rfrac q), .pad, .pad] := by simpa [Pay.open, Pay.width] using CvL.fold (.rfrac q) [] rfl
  have h2 : CvL (rG q) [.bool (decide (q.num < 0)), (.opq (.rnat (q.num.natAbs))), (.opq (.rnat (q.den)))] := CvL.cons rfl (CvL.rnatOut _ (CvL.rnatOut _ .nil))
  exact h1 _ _ _ _ (h2 _ _ _ _ hl)
theorem Conv.rf (q : Rat) : Conv (.agg (rG q)) (.agg [.opq (.rfrac (q)), .pad, .pad]) := CvL.conv (.rfOut q .nil)
theorem sg_lt {m : Bool} {n : Nat} (h : m = true → 0 < n) : decide (sg m n < 0) = m := by
  rw [sg_neg]; cases m
  · rfl
  · rw [decide_eq_true (h rfl)]; rfl
theorem rG_mk {m : Bool} {n d : Nat} (h : m = true → 0 < n) (hd : 0 < d) (hg : Nat.gcd n d = 1) : rG (mkRat (sg m n) d) = [.bool m, (.imm (digs 65536 (n)).length (List.map (fun d : Nat => AV.int .u32 (d : Int)) (digs 65536 (n)))), (.imm (digs 65536 (d)).length (List.map (fun d : Nat => AV.int .u32 (d : Int)) (digs 65536 (d))))] := by
  unfold rG
  rw [mk_num hd, mk_den hd, sg_abs, hg, Nat.div_one, Nat.div_one, sg_lt h, sg_lt h, sg_abs]
noncomputable def rawRF : AV → Option (Prop × Rat)
  | .agg [.opq (.rfrac q), .pad, .pad] => some (True, q)
  | .agg [.bool m, x, y] => (rawR x).bind fun n => (rawR y).map fun d => (n.1 ∧ d.1 ∧ (m = true → 0 < n.2) ∧ 0 < d.2 ∧ Nat.gcd n.2 d.2 = 1, qlow (sg m n.2) d.2)
  | _ => none
theorem rawRF_atom (q : Rat) : rawRF (.agg [.opq (.rfrac (q)), .pad, .pad]) = some (True, q) := rfl
theorem rawRF_raw (m x y) : rawRF (.agg [.bool m, x, y]) = (rawR x).bind fun n => (rawR y).map fun d => (n.1 ∧ d.1 ∧ (m = true → 0 < n.2) ∧ 0 < d.2 ∧ Nat.gcd n.2 d.2 = 1, qlow (sg m n.2) d.2) := rfl
theorem rawRF_G (q : Rat) : rawRF (.agg [.bool (decide ((q).num < 0)), (.imm (digs 65536 ((q).num.natAbs)).length (List.map (fun d : Nat => AV.int .u32 (d : Int)) (digs 65536 ((q).num.natAbs)))), (.imm (digs 65536 ((q).den)).length (List.map (fun d : Nat => AV.int .u32 (d : Int)) (digs 65536 ((q).den))))]) = some (True, q) := by
  rw [rawRF_raw, rawR_imm, rawR_imm]
  simp only [Option.bind_some, Option.map_some, isR_digs, map_ud32, dOf_digs16, true_and]
  rw [sg_of, qlow_eq, q_self]
  congr 2
  refine eq_true ⟨fun h => ?_, q.den_pos, q_gcd q⟩
  have := of_decide_eq_true h
  omega
theorem rawRF_cv {v : AV} {p q} (h : rawRF v = some (p, q)) (hp : p) {xs bs} (k : CvL xs bs) : CvL (v :: xs) ((.agg [.opq (.rfrac (q)), .pad, .pad]) :: bs) := by
  unfold rawRF at h
  split at h
  · simp only [Option.some.injEq, Prod.mk.injEq] at h
    obtain ⟨rfl, rfl⟩ := h
    exact .agg (.refl _) k
  · rename_i m x y
    simp only [Option.bind_eq_some_iff, Option.map_eq_some_iff, Prod.exists, Prod.mk.injEq] at h
    obtain ⟨p1, n, h1, p2, d, h2, rfl, rfl⟩ := h
    obtain ⟨c1, c2, c3, c4, c5⟩ := hp
    have e := rG_mk c3 c4 c5
    rw [qlow_eq]
    have h3 : CvL (.agg [.bool m, x, y] :: xs) (.agg (rG (mkRat (sg m n) d)) :: xs) := by
      rw [e]
      exact .agg (CvL.cons rfl (rawR_cv h1 c1 (rawR_cv h2 c2 .nil))) (.refl _)
    exact fun W φ w l hl => CvL.rfOut _ k _ _ _ _ (h3 _ _ _ _ hl)
  · simp at h
noncomputable def onQ1 (f : Rat → Prop × AV) : List AV → Option (Prop × AV)
  | [x] => (rawRF x).map fun a => (a.1 ∧ (f a.2).1, (f a.2).2)
  | _ => none
noncomputable def onQ2 (f : Rat → Rat → Prop × AV) : List AV → Option (Prop × AV)
  | [x, y] => (rawRF x).bind fun a => (rawRF y).map fun b => (a.1 ∧ b.1 ∧ (f a.2 b.2).1, (f a.2 b.2).2)
  | _ => none
theorem onQ1_ok {fi : Nat} {f : Rat → Prop × AV} (h : ∀ a, (f a).1 → CSpec P fi [(.agg [.opq (.rfrac (a)), .pad, .pad])] (f a).2) (args p r) (he : onQ1 f args = some (p, r)) (hp : p) : CSpec P fi args r := by
  unfold onQ1 at he
  split at he
  · simp only [Option.map_eq_some_iff, Prod.exists, Prod.mk.injEq] at he
    obtain ⟨q, a, h1, rfl, rfl⟩ := he
    exact (h a hp.2).cv (rawRF_cv h1 hp.1 .nil)
  · simp at he
theorem onQ2_ok {fi : Nat} {f : Rat → Rat → Prop × AV} (h : ∀ a b, (f a b).1 → CSpec P fi [(.agg [.opq (.rfrac (a)), .pad, .pad]), (.agg [.opq (.rfrac (b)), .pad, .pad])] (f a b).2) (args p r) (he : onQ2 f args = some (p, r)) (hp : p) : CSpec P fi args r := by
  unfold onQ2 at he
  split at he
  · simp only [Option.bind_eq_some_iff, Option.map_eq_some_iff, Prod.exists, Prod.mk.injEq] at he
    obtain ⟨q, a, h1, q', b, h2, rfl, rfl⟩ := he
    exact (h a b hp.2.2).cv (rawRF_cv h1 hp.1 (rawRF_cv h2 hp.2.1 .nil))
  · simp at he
theorem onQ1_eq (f x) : onQ1 f [x] = (rawRF x).map fun a => (a.1 ∧ (f a.2).1, (f a.2).2) := rfl
theorem onQ2_eq (f x y) : onQ2 f [x, y] = (rawRF x).bind fun a => (rawRF y).map fun b => (a.1 ∧ b.1 ∧ (f a.2 b.2).1, (f a.2 b.2).2) := rfl
attribute [go_sem] rawRF_atom rawRF_G onQ1_eq onQ2_eq
theorem digs0 (n : Nat) : ((digs 65536 n).length == 0) = decide (n = 0) := by
  rw [Bool.eq_iff_iff]; simp only [beq_iff_eq, decide_eq_true_eq]
  constructor
  · intro h
    have := dOf_digs16 n
    rw [List.length_eq_zero_iff.1 h] at this
    exact this.symm
  · intro h; rw [h, digs_zero]; rfl
theorem digs1 (n : Nat) : (0 < (digs 65536 n).length) = (0 < n) := by
  have := digs0 n
  rw [Bool.eq_iff_iff] at this; simp only [beq_iff_eq, decide_eq_true_eq] at this
  rw [eq_iff_iff]; omega
theorem digs1' {n : Nat} (h : (digs 65536 n).length = 1) : digs 65536 n = [n] := by
  have hd := dOf_digs16 n
  cases hl : digs 65536 n with
  | nil => rw [hl] at h; simp at h
  | cons c t =>
    rw [hl] at h hd
    have ht : t = [] := List.length_eq_zero_iff.1 (by simpa using h)
    subst ht
    simp [dOf] at hd
    rw [hd]
def rOneS : List AV → Option (Prop × AV) := onR1 fun a => (blen a ≤ 68719476736, .bool (decide (a = 1)))
attribute [go_sem] rOneS
noncomputable def Fr0 : Nat → List AV → Option (Prop × AV) := Sp
theorem Fr0_ok (hP : PrgOk P) : EnvOk P ⟨T0, Fr0⟩ := (Sp_ok hP)
attribute [go_sem] Fr0
noncomputable def rLowS : List AV → Option (Prop × AV)
  | [.bool m, x, y] => (rawR x).bind fun n => (rawR y).map fun d => (n.1 ∧ d.1 ∧ blen n.2 ≤ 34359738368 ∧ blen d.2 ≤ 34359738368 ∧ 0 < d.2, (.agg [.opq (.rfrac (qlow (sg m n.2) d.2)), .pad, .pad]))
  | _ => none
theorem rLowS_eq (m x y) : rLowS [.bool m, x, y] = (rawR x).bind fun n => (rawR y).map fun d => (n.1 ∧ d.1 ∧ blen n.2 ≤ 34359738368 ∧ blen d.2 ≤ 34359738368 ∧ 0 < d.2, (.agg [.opq (.rfrac (qlow (sg m n.2) d.2)), .pad, .pad])) := rfl
attribute [go_sem] rLowS_eq
def smB (m : Bool) (n : Nat) (k : Bool) (l : Nat) : Bool := if m = k then m else if l ≤ n then m else k
def smN (m : Bool) (n : Nat) (k : Bool) (l : Nat) : Nat := if m = k then n + l else if l ≤ n then n - l else l - n
theorem sm_sg (m n k l) : sg (smB m n k l) (smN m n k l) = sg m n + sg k l := by
  unfold smB smN
  cases m <;> cases k <;> simp [sg] <;> (repeat' split) <;> omega
theorem smN_blen {m n k l c} (h : blen n ≤ c) (h' : blen l ≤ c) : blen (smN m n k l) ≤ c + 1 := by
  have hs := wl_add2 (a := sg m n) (b := sg k l) (n := c) (by unfold wl; rw [sg_abs]; exact h) (by unfold wl; rw [sg_abs]; exact h')
  rw [← sm_sg] at hs; unfold wl at hs; rw [sg_abs] at hs; exact hs
theorem cmp_lt' {a b : Nat} (h : ¬ b ≤ a) : decide (0 ≤ cmpI a b) = false := by
  rw [cmpI_lt (by omega)]; rfl
def rSumS : List AV → Option (Prop × AV)
  | [.bool m, x, .bool k, y] => (rawR x).bind fun n => (rawR y).map fun l => (n.1 ∧ l.1 ∧ blen n.2 ≤ 34359738368 ∧ blen l.2 ≤ 34359738368, .tup [.bool (smB m n.2 k l.2), (.imm (digs 65536 (smN m n.2 k l.2)).length (List.map (fun d : Nat => AV.int .u32 (d : Int)) (digs 65536 (smN m n.2 k l.2))))])
  | _ => none
theorem rSumS_eq (m x k y) : rSumS [.bool m, x, .bool k, y] = (rawR x).bind fun n => (rawR y).map fun l => (n.1 ∧ l.1 ∧ blen n.2 ≤ 34359738368 ∧ blen l.2 ≤ 34359738368, .tup [.bool (smB m n.2 k l.2), (.imm (digs 65536 (smN m n.2 k l.2)).length (List.map (fun d : Nat => AV.int .u32 (d : Int)) (digs 65536 (smN m n.2 k l.2))))]) := rfl
attribute [go_sem] rSumS_eq
noncomputable def rNegS : List AV → Option (Prop × AV) := onQ1 fun q => (True, (.agg [.opq (.rfrac (qneg q)), .pad, .pad]))
noncomputable def rSignS : List AV → Option (Prop × AV) := onQ1 fun q => (True, .int .i64 (cmpQ q 0))
def rWholeS : List AV → Option (Prop × AV)
  | [.bool m, x] => (rawR x).map fun n => (n.1 ∧ blen n.2 ≤ 34359738368, .str (itS (sg m n.2)))
  | _ => none
theorem rWholeS_eq (m x) : rWholeS [.bool m, x] = (rawR x).map fun n => (n.1 ∧ blen n.2 ≤ 34359738368, .str (itS (sg m n.2))) := rfl
attribute [go_sem] rNegS rSignS rWholeS_eq
noncomputable def Fr1 : Nat → List AV → Option (Prop × AV) := Fr0
theorem Fr1_ok (hP : PrgOk P) : EnvOk P ⟨T0, Fr1⟩ := (Fr0_ok hP)
attribute [go_sem] Fr1
end Go.Proofs.YtjnhekedclcbfaaDoor.AM
/- The document's fractions: sums, products, order, texts. -/
namespace Go.Proofs.YtjnhekedclcbfaaDoor.AM
set_option linter.all false
set_option autoImplicit true
set_option relaxedAutoImplicit true
open Go Go.Proofs
set_option maxRecDepth 100000
set_option maxHeartbeats 8000000
set_option linter.unusedSimpArgs false
variable {P : Program}

theorem sgd_mul (z : Int) (d : Nat) : sg (decide (z < 0)) (z.natAbs * d) = z * d := by
  have hz := sg_of z
  by_cases h : z < 0
  · rw [decide_eq_true h, sg_t] at *
    rw [Int.natCast_mul, ← Int.neg_mul, hz]
  · rw [decide_eq_false h, sg_f] at *
    rw [Int.natCast_mul, hz]
theorem sg_xor (a b : Int) : sg (decide (a < 0) != decide (b < 0)) (a.natAbs * b.natAbs) = a * b := by
  have ha := sg_of a
  have hb := sg_of b
  by_cases h : a < 0 <;> by_cases h' : b < 0 <;> simp only [h, h', decide_true, decide_false] at ha hb ⊢ <;> simp only [sg_t, sg_f] at ha hb <;> rw [← ha, ← hb] <;> simp [sg, Int.neg_mul, Int.mul_neg]
theorem sg_xor2 (a b : Int) (d : Nat) (hb : b ≠ 0) : sg (decide (a < 0) != decide (b < 0)) (a.natAbs * d) = a * sgnZ b * d := by
  have ha := sg_of a
  by_cases h' : b < 0
  · have e : sgnZ b = -1 := by unfold sgnZ; rw [if_neg hb, if_pos h']
    rw [e, decide_eq_true h']
    by_cases h : a < 0
    · rw [decide_eq_true h, sg_t] at *
      rw [show (true != true) = false from rfl, sg_f, Int.natCast_mul, ← ha]; simp
    · rw [decide_eq_false h, sg_f] at *
      rw [show (false != true) = true from rfl, sg_t, Int.natCast_mul, ha]; grind
  · have e : sgnZ b = 1 := by unfold sgnZ; rw [if_neg hb, if_neg h']
    rw [e, decide_eq_false h', Int.mul_one, ← sgd_mul]
    cases decide (a < 0) <;> rfl
noncomputable def rAdd3S : List AV → Option (Prop × AV) := onQ2 fun a b => (fl a ≤ FB ∧ fl b ≤ FB, (.agg [.opq (.rfrac (qadd a b)), .pad, .pad]))
noncomputable def rMul3S : List AV → Option (Prop × AV) := onQ2 fun a b => (fl a ≤ FB ∧ fl b ≤ FB, (.agg [.opq (.rfrac (qmul a b)), .pad, .pad]))
noncomputable def rDiv3S : List AV → Option (Prop × AV) := onQ2 fun a b => (fl a ≤ FB ∧ fl b ≤ FB ∧ b ≠ 0, (.agg [.opq (.rfrac (qdiv a b)), .pad, .pad]))
noncomputable def rFloS : List AV → Option (Prop × AV) := onQ1 fun q => (fl q ≤ FB, .tup [.bool (decide (flo q < 0)), (.imm (digs 65536 ((flo q).natAbs)).length (List.map (fun d : Nat => AV.int .u32 (d : Int)) (digs 65536 ((flo q).natAbs))))])
noncomputable def rText3S : List AV → Option (Prop × AV) := onQ1 fun q => (fl q ≤ FB, .str (qtS q))
noncomputable def rMake3S : List AV → Option (Prop × AV)
  | [.bool m, x, .bool k, y] => (rawR x).bind fun n => (rawR y).map fun d => (n.1 ∧ d.1 ∧ blen n.2 ≤ 34359738368 ∧ blen d.2 ≤ 34359738368 ∧ 0 < d.2, (.agg [.opq (.rfrac (qlow (sg (m != k) n.2) d.2)), .pad, .pad]))
  | _ => none
theorem rMake3S_eq (m x k y) : rMake3S [.bool m, x, .bool k, y] = (rawR x).bind fun n => (rawR y).map fun d => (n.1 ∧ d.1 ∧ blen n.2 ≤ 34359738368 ∧ blen d.2 ≤ 34359738368 ∧ 0 < d.2, (.agg [.opq (.rfrac (qlow (sg (m != k) n.2) d.2)), .pad, .pad])) := rfl
def rInt3S : List AV → Option (Prop × AV)
  | [.int .i64 n] => some (-9223372036854775808 ≤ n ∧ n ≤ 9223372036854775807, (.agg [.opq (.rfrac ((n : Rat))), .pad, .pad]))
  | _ => none
attribute [go_sem] rAdd3S rMul3S rDiv3S rFloS rText3S rMake3S_eq rInt3S
noncomputable def Fr2 : Nat → List AV → Option (Prop × AV) := Fr1
theorem Fr2_ok (hP : PrgOk P) : EnvOk P ⟨T0, Fr2⟩ := (Fr1_ok hP)
attribute [go_sem] Fr2
noncomputable def rSub3S : List AV → Option (Prop × AV) := onQ2 fun a b => (fl a ≤ FB ∧ fl b ≤ FB, (.agg [.opq (.rfrac (qsub a b)), .pad, .pad]))
attribute [go_sem] rSub3S
noncomputable def Fr3 : Nat → List AV → Option (Prop × AV) := Fr2
theorem Fr3_ok (hP : PrgOk P) : EnvOk P ⟨T0, Fr3⟩ := (Fr2_ok hP)
attribute [go_sem] Fr3
noncomputable def rCmp3S : List AV → Option (Prop × AV) := onQ2 fun a b => (fl a ≤ FB ∧ fl b ≤ FB, .int .i64 (cmpQ a b))
attribute [go_sem] rCmp3S
end Go.Proofs.YtjnhekedclcbfaaDoor.AM
/- The document's fractions: read from texts. -/
namespace Go.Proofs.YtjnhekedclcbfaaDoor.AM
set_option linter.all false
set_option autoImplicit true
set_option relaxedAutoImplicit true
open Go Go.Proofs
set_option maxRecDepth 100000
set_option maxHeartbeats 8000000
set_option linter.unusedSimpArgs false
variable {P : Program}

noncomputable def Fr4 : Nat → List AV → Option (Prop × AV) := Fr3
theorem Fr4_ok (hP : PrgOk P) : EnvOk P ⟨T0, Fr4⟩ := (Fr3_ok hP)
attribute [go_sem] Fr4
theorem parts_neg {l tt : List Nat} (h : l = 45 :: tt) : szL l = hdL 47 tt ∧ denL l = (if 47 ∈ tt then tlL 47 tt else [49]) ∧ (47 ∈ l ↔ 47 ∈ tt) ∧ mnL l = true := by
  subst h
  have e1 : hdL 47 (45 :: tt) = 45 :: hdL 47 tt := rfl
  have e2 : tlL 47 (45 :: tt) = tlL 47 tt := rfl
  have e3 : 47 ∈ (45 :: tt) ↔ 47 ∈ tt := by simp
  refine ⟨?_, ?_, e3, ?_⟩
  · unfold szL; rw [e1]; rfl
  · unfold denL; rw [e2]; simp only [e3]
  · unfold mnL; rw [e1]; rfl
theorem parts_pos {l : List Nat} (h : l.getD 0 0 ≠ 45) : szL l = hdL 47 l ∧ mnL l = false := by
  have e : (hdL 47 l).getD 0 0 ≠ 45 := by
    cases l with
    | nil => exact h
    | cons c t =>
      unfold hdL
      split
      · decide
      · exact h
  exact ⟨by unfold szL; rw [if_neg e], decide_eq_false e⟩
theorem hd_step {tt : List Nat} {k : Nat} (h : k < tt.length) : (tt.getD k 0 = 47 → k + (hdL 47 (tt.drop k)).length = k) ∧ (tt.getD k 0 ≠ 47 → k + (hdL 47 (tt.drop k)).length = k + 1 + (hdL 47 (tt.drop (k + 1))).length) := by
  have e : tt.drop k = tt.getD k 0 :: tt.drop (k + 1) := by
    rw [List.drop_eq_getElem_cons h, List.getD_eq_getElem?_getD, List.getElem?_eq_getElem h]; rfl
  have hc : ∀ (x : Nat) (t : List Nat), hdL 47 (x :: t) = if x = 47 then [] else x :: hdL 47 t := fun _ _ => rfl
  rw [e, hc]
  constructor
  · intro h1; rw [if_pos h1]; rfl
  · intro h1; rw [if_neg h1, List.length_cons]; omega
theorem den_dec {l : List Nat} (h : okD l) : (valL l < 2) = (l = [48] ∨ l = [49]) := by
  rw [eq_iff_iff]
  constructor
  · intro h1
    have h2 := decL_val h
    have h4 : valL l = 0 ∨ valL l = 1 := by omega
    rcases h4 with h3 | h3
    · rw [h3] at h2; exact .inl (h2.symm.trans rfl)
    · rw [h3] at h2
      have : decL 1 = [49] := by
        have := decL_val (l := [49]) ⟨by decide, by decide, by decide⟩
        rw [← this]; rfl
      exact .inr (h2.symm.trans this)
  · rintro (h1 | h1) <;> rw [h1] <;> decide
def rParse3S0 : Nat := 0
noncomputable def rParse3S : List AV → Option (Prop × AV)
  | [.str s] => some ((bl s).length ≤ 4294967296, .tup [(.agg [.opq (.rfrac ((parF (bl s)).1)), .pad, .pad]), .int .i64 (parF (bl s)).2])
  | _ => none
attribute [go_sem] rParse3S
end Go.Proofs.YtjnhekedclcbfaaDoor.AM
