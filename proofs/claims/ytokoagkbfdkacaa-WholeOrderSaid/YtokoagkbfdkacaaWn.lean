/- The statements of layer 2: texts, machine's numbers, sums, quotients. -/
import Derived.Test.YtokoagkbfdkacaaB9
namespace Go.Proofs.Ytokoagkbfdkacaa.AM
set_option linter.all false
set_option autoImplicit true
set_option relaxedAutoImplicit true
open Go Go.Proofs
set_option maxRecDepth 100000
set_option maxHeartbeats 8000000
set_option linter.unusedSimpArgs false
variable {P : Program}

theorem parW_wl (l : List Nat) : wl (parW l).1 ≤ 1024 := by
  unfold parW; split
  · exact Nat.le_of_ble_eq_true rfl
  · unfold wl; simp only [sg_abs]; exact prD_blen _
theorem WholeTexts_spec (hP : PrgOk P) (s : ByteArray) : CSpec P 3 [.str s] (.bool true) := by
  have HE := Wt7_all hP T2 hP.t2
  refine CSpec_vc (E := ⟨T2, Wt7⟩) (fn3 hP) HE hP.mix rfl (by first | rfl | (simp only [go_sem]; done)) (by first | rfl | (simp only [go_sem]; done)) (Nat.le_of_ble_eq_true rfl) ?_
  by_cases h1 : 5000 < s.size
  · simp (maxSteps := 1000000) only [go_sem, h1]
    (repeat' (first | exact Conv.refl _ | refine And.intro ?_ ?_)) <;> first | omega | decide
  · have hs := size_bl s
    have h2 : (bl s).length ≤ 1099511627776 := by omega
    have h3 : (bl s).length ≤ 8589934592 := by omega
    have h4 := Nat.le_trans (parW_wl (bl s)) (show _ ≤ 68719476736 by decide)
    by_cases he : (parW (bl s)).2 = 0
    · have e1 : ((parW (bl s)).2 == 0) = true := by rw [he]; rfl
      have e2 := itS_val he
      simp (maxSteps := 1000000) only [go_sem, h1, h2, h3, h4, e1, e2, bne_self_eq_false]
      (repeat' (first | exact Conv.refl _ | refine And.intro ?_ ?_)) <;> first | omega | decide
    · have e1 : ((parW (bl s)).2 == 0) = false := by simpa using he
      simp (maxSteps := 1000000) only [go_sem, h1, h2, h3, h4, e1, bne_self_eq_false]
      (repeat' (first | exact Conv.refl _ | refine And.intro ?_ ?_)) <;> first | omega | decide

theorem WholeSums_spec (hP : PrgOk P) (as1 as2 : List AV) (o1 : (Sha.row [.bool, .slice (.int .u16)]).Ok as1) (o2 : (Sha.row [.bool, .slice (.int .u16)]).Ok as2) : CSpec P 8 [.agg as1, .agg as2] (.bool true) := by
  obtain ⟨m, l, hd, hl, c1⟩ := big_in o1
  obtain ⟨x, hx⟩ : ∃ x, bigZ m l = x := ⟨_, rfl⟩
  have bx : wl x ≤ 800 := hx ▸ bigZ_wl m hd
  obtain ⟨m', l', hd', hl', c2⟩ := big_in o2
  obtain ⟨y, hy⟩ : ∃ x, bigZ m' l' = x := ⟨_, rfl⟩
  have by' : wl y ≤ 800 := hy ▸ bigZ_wl m' hd'
  refine CSpec.cv ?_ (CvL.app c1 (CvL.app c2 .nil rfl) rfl)
  have HE := Wt7_all hP T2 hP.t2
  have ho : groundL [.agg [.bool m, .imm l.length (List.map (fun d : Nat => AV.int .u16 (d : Int)) (l))], .agg [.bool m', .imm l'.length (List.map (fun d : Nat => AV.int .u16 (d : Int)) (l'))]] = true := by simp only [groundL, onlyL, AV.only, only_U, Bool.and_true]
  refine CSpec_vc (E := ⟨T2, Wt7⟩) (fn8 hP) HE hP.mix rfl ho rfl (Nat.le_of_ble_eq_true rfl) ?_
  have ql := eq_true hd
  have ql' := eq_true hd'
  simp (maxSteps := 1000000) only [go_sem, ql, ql', hl, hl', hx, hy, bx, by']
  (repeat' (first | exact Conv.refl _ | refine And.intro ?_ ?_)) <;> first | assumption | omega | decide | exact Nat.le_trans (by repeat' first | assumption | apply wl_add | apply wl_sub | apply wl_mul | apply wl_neg' | apply wl_qZ | exact Nat.le_of_ble_eq_true rfl) (by decide)

theorem sgnZ_zero_iff (z : Int) : (sgnZ z == 0) = decide (z = 0) := by
  unfold sgnZ; split
  · rename_i h; rw [decide_eq_true h]; rfl
  · rename_i h; rw [decide_eq_false h]; split <;> rfl
theorem WholeQuos_spec (hP : PrgOk P) (as1 as2 : List AV) (o1 : (Sha.row [.bool, .slice (.int .u16)]).Ok as1) (o2 : (Sha.row [.bool, .slice (.int .u16)]).Ok as2) : CSpec P 4 [.agg as1, .agg as2] (.bool true) := by
  obtain ⟨m, l, hd, hl, c1⟩ := big_in o1
  obtain ⟨x, hx⟩ : ∃ x, bigZ m l = x := ⟨_, rfl⟩
  have bx : wl x ≤ 800 := hx ▸ bigZ_wl m hd
  obtain ⟨m', l', hd', hl', c2⟩ := big_in o2
  obtain ⟨y, hy⟩ : ∃ x, bigZ m' l' = x := ⟨_, rfl⟩
  have by' : wl y ≤ 800 := hy ▸ bigZ_wl m' hd'
  refine CSpec.cv ?_ (CvL.app c1 (CvL.app c2 .nil rfl) rfl)
  have HE := Wt7_all hP T2 hP.t2
  have ho : groundL [.agg [.bool m, .imm l.length (List.map (fun d : Nat => AV.int .u16 (d : Int)) (l))], .agg [.bool m', .imm l'.length (List.map (fun d : Nat => AV.int .u16 (d : Int)) (l'))]] = true := by simp only [groundL, onlyL, AV.only, only_U, Bool.and_true]
  refine CSpec_vc (E := ⟨T2, Wt7⟩) (fn4 hP) HE hP.mix rfl ho rfl (Nat.le_of_ble_eq_true rfl) ?_
  have ql := eq_true hd
  have ql' := eq_true hd'
  by_cases h0 : y = 0
  · have h1 : (y = 0) = True := eq_true h0
    have h2 : (sgnZ y == 0) = true := by rw [h0]; rfl
    have h3 : (sgnZ 0 == 0) = true := rfl
    simp (maxSteps := 1000000) only [go_sem, ql, ql', hl, hl', hx, hy, bx, by', h1, h2, h3]
    (repeat' (first | exact Conv.refl _ | refine And.intro ?_ ?_)) <;> first | assumption | omega | decide | exact Nat.le_trans (by repeat' first | assumption | apply wl_add | apply wl_sub | apply wl_mul | apply wl_neg' | apply wl_qZ | exact Nat.le_of_ble_eq_true rfl) (by decide)
  · have h1 : (y = 0) = False := eq_false h0
    have h2 : (sgnZ y == 0) = false := by rw [sgnZ_zero_iff, decide_eq_false h0]
    have br := wl_rZ (a := x) by' h0
    simp (maxSteps := 1000000) only [go_sem, ql, ql', hl, hl', hx, hy, bx, by', h1, h2]
    (repeat' (first | exact Conv.refl _ | refine And.intro ?_ ?_)) <;> first | assumption | omega | decide | exact Nat.le_trans (by repeat' first | assumption | apply wl_add | apply wl_sub | apply wl_mul | apply wl_neg' | apply wl_qZ | exact Nat.le_of_ble_eq_true rfl) (by decide)
theorem sg_mul2 (da db : Bool) (x m : Nat) : sg (!(da == db)) x * sg db m = sg da (x * m) := by
  cases da <;> cases db <;> simp [sg, Int.neg_mul, Int.mul_neg]
theorem qZ_rZ {a b : Int} (_h : b ≠ 0) : qZ a b * b + ((rZ a b : Nat) : Int) = a := by
  have ha := sg_of a
  have e := Nat.div_add_mod a.natAbs b.natAbs
  have hlt := Nat.mod_lt a.natAbs (show 0 < b.natAbs by omega)
  unfold qZ rZ
  conv => lhs; lhs; rhs; rw [← sg_of b]
  rw [sg_mul2]
  rw [Nat.mul_comm] at e
  generalize a.natAbs / b.natAbs = q at *
  generalize a.natAbs % b.natAbs = r at *
  by_cases h1 : a < 0
  · rw [decide_eq_true h1, sg_t] at *
    by_cases h2 : 0 < r
    · rw [if_pos ⟨h1, h2⟩, if_pos ⟨h1, h2⟩, Nat.succ_mul]; omega
    · rw [if_neg (fun h => h2 h.2), if_neg (fun h => h2 h.2)]; omega
  · rw [decide_eq_false h1, sg_f] at *
    rw [if_neg (fun h => h1 h.1), if_neg (fun h => h1 h.1)]; omega
theorem rZ_lt {a b : Int} (h : b ≠ 0) : rZ a b < b.natAbs := by
  have hlt := Nat.mod_lt a.natAbs (show 0 < b.natAbs by omega)
  unfold rZ; split <;> omega
theorem cmpZ_self_eq {a b : Int} (h : a = b) : cmpZ a b = 0 := by rw [h]; exact cmpZ_eq b
theorem WholeRing_spec (hP : PrgOk P) (as1 as2 as3 : List AV) (o1 : (Sha.row [.bool, .slice (.int .u16)]).Ok as1) (o2 : (Sha.row [.bool, .slice (.int .u16)]).Ok as2) (o3 : (Sha.row [.bool, .slice (.int .u16)]).Ok as3) : CSpec P 9 [.agg as1, .agg as2, .agg as3] (.bool true) := by
  obtain ⟨m, l, hd, hl, c1⟩ := big_in o1
  obtain ⟨x, hx⟩ : ∃ x, bigZ m l = x := ⟨_, rfl⟩
  have bx : wl x ≤ 800 := hx ▸ bigZ_wl m hd
  obtain ⟨m', l', hd', hl', c2⟩ := big_in o2
  obtain ⟨y, hy⟩ : ∃ x, bigZ m' l' = x := ⟨_, rfl⟩
  have by' : wl y ≤ 800 := hy ▸ bigZ_wl m' hd'
  obtain ⟨m3, l3, hd3, hl3, c3⟩ := big_in o3
  obtain ⟨z, hz⟩ : ∃ x, bigZ m3 l3 = x := ⟨_, rfl⟩
  have bz : wl z ≤ 800 := hz ▸ bigZ_wl m3 hd3
  refine CSpec.cv ?_ (CvL.app c1 (CvL.app c2 (CvL.app c3 .nil rfl) rfl) rfl)
  have HE := Wt7_all hP T2 hP.t2
  have ho : groundL [.agg [.bool m, .imm l.length (List.map (fun d : Nat => AV.int .u16 (d : Int)) (l))], .agg [.bool m', .imm l'.length (List.map (fun d : Nat => AV.int .u16 (d : Int)) (l'))], .agg [.bool m3, .imm l3.length (List.map (fun d : Nat => AV.int .u16 (d : Int)) (l3))]] = true := by simp only [groundL, onlyL, AV.only, only_U, Bool.and_true]
  refine CSpec_vc (E := ⟨T2, Wt7⟩) (fn9 hP) HE hP.mix rfl ho rfl (Nat.le_of_ble_eq_true rfl) ?_
  have ql := eq_true hd
  have ql' := eq_true hd'
  have ql3 := eq_true hd3
  have e1 : cmpZ (x + y) (y + x) = 0 := cmpZ_self_eq (Int.add_comm x y)
  have e2 : cmpZ (x + y + z) (x + (y + z)) = 0 := cmpZ_self_eq (Int.add_assoc x y z)
  have e3 : cmpZ (x - y) (x + -y) = 0 := cmpZ_self_eq rfl
  have e4 : cmpZ (x * y) (y * x) = 0 := cmpZ_self_eq (Int.mul_comm x y)
  have e5 : cmpZ (x * y * z) (x * (y * z)) = 0 := cmpZ_self_eq (Int.mul_assoc x y z)
  have e6 : cmpZ ((x + y) * z) (x * z + y * z) = 0 := cmpZ_self_eq (Int.add_mul x y z)
  by_cases h0 : y = 0
  · have h2 : (sgnZ y == 0) = true := by rw [h0]; rfl
    simp (maxSteps := 1000000) only [go_sem, ql, ql', ql3, hl, hl', hl3, hx, hy, hz, bx, by', bz, h2, e1, e2, e3, e4, e5, e6]
    (repeat' (first | exact Conv.refl _ | refine And.intro ?_ ?_)) <;> first | assumption | omega | decide | exact Nat.le_trans (by repeat' first | assumption | apply wl_add | apply wl_sub | apply wl_mul | apply wl_neg' | apply wl_qZ | exact Nat.le_of_ble_eq_true rfl) (by decide)
  · have h1 : (y = 0) = False := eq_false h0
    have h2 : (sgnZ y == 0) = false := by rw [sgnZ_zero_iff, decide_eq_false h0]
    have br := wl_rZ (a := x) by' h0
    have bs : wl (sg false y.natAbs) ≤ 800 := by unfold wl at *; rw [sg_abs]; exact by'
    have e7 : cmpZ (qZ x y * y + ((rZ x y : Nat) : Int)) x = 0 := cmpZ_self_eq (qZ_rZ h0)
    have e8 : decide (0 ≤ sgnZ ((rZ x y : Nat) : Int)) = true := by
      unfold sgnZ; refine decide_eq_true ?_
      split
      · decide
      · rw [if_neg (by omega)]; decide
    have e9 : cmpZ ((rZ x y : Nat) : Int) (sg false y.natAbs) = -1 := cmpZ_lt (by rw [sg_f]; have := rZ_lt (a := x) h0; omega)
    have hbl : blen y.natAbs ≤ 800 := by'
    simp (maxSteps := 1000000) only [go_sem, ql, ql', ql3, hl, hl', hl3, hx, hy, hz, bx, by', bz, h1, h2, e1, e2, e3, e4, e5, e6, e7, e8, e9]
    (repeat' (first | exact Conv.refl _ | refine And.intro ?_ ?_)) <;> first | assumption | omega | decide | exact Nat.le_trans (by repeat' first | assumption | apply wl_add | apply wl_sub | apply wl_mul | apply wl_neg' | apply wl_qZ | exact Nat.le_of_ble_eq_true rfl) (by decide)
end Go.Proofs.Ytokoagkbfdkacaa.AM
