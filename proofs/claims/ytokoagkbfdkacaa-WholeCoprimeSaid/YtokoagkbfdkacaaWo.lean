/- The statements of layer 2: order, machine's numbers. -/
import Derived.Test.YtokoagkbfdkacaaWn
namespace Go.Proofs.Ytokoagkbfdkacaa.AM
set_option linter.all false
set_option autoImplicit true
set_option relaxedAutoImplicit true
open Go Go.Proofs
set_option maxRecDepth 100000
set_option maxHeartbeats 8000000
set_option linter.unusedSimpArgs false
variable {P : Program}

theorem cmpZ_anti (a b : Int) : cmpZ b a = IntKind.i64.wrap (0 - cmpZ a b) := by
  unfold cmpZ; repeat' split
  all_goals first | rfl | omega
theorem cmpZ_add (a b c : Int) : cmpZ (a + c) (b + c) = cmpZ a b := by
  unfold cmpZ; repeat' split
  all_goals first | rfl | omega
theorem cmpZ_zero (a b : Int) : (cmpZ a b == 0) = decide (a = b) := by
  rcases Int.lt_trichotomy a b with h | h | h
  · rw [cmpZ_lt h, decide_eq_false (by omega)]; rfl
  · rw [h, cmpZ_eq, decide_eq_true rfl]; rfl
  · rw [cmpZ_gt h, decide_eq_false (by omega)]; rfl
theorem sgnZ_sub (a b : Int) : sgnZ (a - b) = cmpZ a b := by
  unfold cmpZ sgnZ; repeat' split
  all_goals first | rfl | omega
theorem cmpZ_le (a b : Int) : decide (cmpZ a b ≤ 0) = decide (a ≤ b) := by
  rcases Int.lt_trichotomy a b with h | h | h
  · rw [cmpZ_lt h, decide_eq_true (show a ≤ b by omega)]; rfl
  · rw [h, cmpZ_eq, decide_eq_true (show b ≤ b by omega)]; rfl
  · rw [cmpZ_gt h, decide_eq_false (show ¬ a ≤ b by omega)]; rfl
theorem cmpZ_pos (a b : Int) : decide (0 < cmpZ a b) = decide (b < a) := by
  rcases Int.lt_trichotomy a b with h | h | h
  · rw [cmpZ_lt h, decide_eq_false (show ¬ b < a by omega)]; rfl
  · rw [h, cmpZ_eq, decide_eq_false (show ¬ b < b by omega)]; rfl
  · rw [cmpZ_gt h, decide_eq_true h]; rfl
theorem WholeOrder_spec (hP : PrgOk P) (as1 as2 as3 : List AV) (o1 : (Sha.row [.bool, .slice (.int .u16)]).Ok as1) (o2 : (Sha.row [.bool, .slice (.int .u16)]).Ok as2) (o3 : (Sha.row [.bool, .slice (.int .u16)]).Ok as3) : CSpec P 5 [.agg as1, .agg as2, .agg as3] (.bool true) := by
  obtain ⟨m, l, hd, hl, c1⟩ := big_in o1
  obtain ⟨x, hx⟩ : ∃ x, bigZ m l = x := ⟨_, rfl⟩
  have bx : wl x ≤ 800 := hx ▸ bigZ_wl m hd
  obtain ⟨m', l', hd', hl', c2⟩ := big_in o2
  obtain ⟨y, hy⟩ : ∃ x, bigZ m' l' = x := ⟨_, rfl⟩
  have by' : wl y ≤ 800 := hy ▸ bigZ_wl m' hd'
  obtain ⟨m3, l3, hd3, hl3, c3⟩ := big_in o3
  obtain ⟨z, hz⟩ : ∃ x, bigZ m3 l3 = x := ⟨_, rfl⟩
  have bz : wl z ≤ 800 := hz ▸ bigZ_wl m3 hd3
  refine CSpec.cv ?_ (CvL.app c1 (CvL.app c2 (CvL.app c3 .nil rfl) rfl) rfl)
  have HE := Wt7_all hP T2 hP.t2
  have ho : groundL [.agg [.bool m, .imm l.length (List.map (fun d : Nat => AV.int .u16 (d : Int)) (l))], .agg [.bool m', .imm l'.length (List.map (fun d : Nat => AV.int .u16 (d : Int)) (l'))], .agg [.bool m3, .imm l3.length (List.map (fun d : Nat => AV.int .u16 (d : Int)) (l3))]] = true := by simp only [groundL, onlyL, AV.only, only_U, Bool.and_true]
  refine CSpec_vc (E := ⟨T2, Wt7⟩) (fn5 hP) HE hP.mix rfl ho rfl (Nat.le_of_ble_eq_true rfl) ?_
  have ql := eq_true hd
  have ql' := eq_true hd'
  have ql3 := eq_true hd3
  have e1 := cmpZ_anti x y
  have e2 := cmpZ_add x y z
  have e3 := sgnZ_sub x y
  have e4 : (cmpZ x y == 0) = decide (x = y) := cmpZ_zero x y
  by_cases h1 : x ≤ y
  · by_cases h2 : y ≤ z
    · have h3 : ¬ z < x := by omega
      simp (maxSteps := 1000000) only [go_sem, ql, ql', ql3, hl, hl', hl3, hx, hy, hz, bx, by', bz, e1, e2, e3, e4, itS_eq, cmpZ_le, cmpZ_pos, h1, h2, h3, bne_self_eq_false]
      (repeat' (first | exact Conv.refl _ | refine And.intro ?_ ?_)) <;> first | assumption | omega | decide | exact Nat.le_trans (by repeat' first | assumption | apply wl_add | apply wl_sub | apply wl_mul | apply wl_neg' | apply wl_qZ | exact Nat.le_of_ble_eq_true rfl) (by decide)
    · simp (maxSteps := 1000000) only [go_sem, ql, ql', ql3, hl, hl', hl3, hx, hy, hz, bx, by', bz, e1, e2, e3, e4, itS_eq, cmpZ_le, cmpZ_pos, h1, h2, bne_self_eq_false]
      (repeat' (first | exact Conv.refl _ | refine And.intro ?_ ?_)) <;> first | assumption | omega | decide | exact Nat.le_trans (by repeat' first | assumption | apply wl_add | apply wl_sub | apply wl_mul | apply wl_neg' | apply wl_qZ | exact Nat.le_of_ble_eq_true rfl) (by decide)
  · simp (maxSteps := 1000000) only [go_sem, ql, ql', ql3, hl, hl', hl3, hx, hy, hz, bx, by', bz, e1, e2, e3, e4, itS_eq, cmpZ_le, cmpZ_pos, h1, bne_self_eq_false]
    (repeat' (first | exact Conv.refl _ | refine And.intro ?_ ?_)) <;> first | assumption | omega | decide | exact Nat.le_trans (by repeat' first | assumption | apply wl_add | apply wl_sub | apply wl_mul | apply wl_neg' | apply wl_qZ | exact Nat.le_of_ble_eq_true rfl) (by decide)

/-- The document's number, told by its sign and its size. -/
def iMakeR : List AV → Option (Prop × AV)
  | [.bool m, x] => (rawR x).map fun a => (a.1 ∧ blen a.2 ≤ 68719476736, .agg (rC (sg m a.2)))
  | _ => none
theorem iMakeR_eq (m x) : iMakeR [.bool m, x] = (rawR x).map fun a => (a.1 ∧ blen a.2 ≤ 68719476736, .agg (rC (sg m a.2))) := rfl
theorem CvL.agg1 {a b : List AV} (h : CvL a b) : Conv (.agg a) (.agg b) := CvL.conv (.agg h .nil)
theorem iMakeR_ok (hP : PrgOk P) (args p r) (he : iMakeR args = some (p, r)) (hp : p) : CSpec P 31 args r := by
  unfold iMakeR at he
  split at he
  · simp only [Option.map_eq_some_iff, Prod.exists, Prod.mk.injEq] at he
    obtain ⟨q, a, h1, rfl, rfl⟩ := he
    exact ((iMake_spec hP _ a hp.2).cv (.cons rfl (.trans (rawR_cv h1 hp.1 .nil) (by simpa using CvL.conv1 (.rnat a))))).conv (CvL.agg1 (CvL.iGC _))
  · simp at he
attribute [go_sem] iMakeR_eq
noncomputable def Wt8 : Nat → List AV → Option (Prop × AV) := addS Wt7 31 iMakeR
theorem Wt8_all (hP : PrgOk P) (T) (hT : TyOk P T) : EnvOk P ⟨T, Wt8⟩ := (Wt7_all hP T hT).add (iMakeR_ok hP)
attribute [go_sem] Wt8
theorem sg_wl (m a) : wl (sg m a) = blen a := by unfold wl; rw [sg_abs]
theorem WholeWords_spec (hP : PrgOk P) (n : Int) (hn : -9223372036854775808 ≤ n ∧ n ≤ 9223372036854775807) (m : Int) (hm : -9223372036854775808 ≤ m ∧ m ≤ 9223372036854775807) (b : Bool) (k : Nat) (hk : k < 18446744073709551616) : CSpec P 6 [.int .i64 n, .int .i64 m, .bool b, .int .u64 (k : Int)] (.bool true) := by
  have HE := Wt8_all hP T2 hP.t2
  refine CSpec_vc (E := ⟨T2, Wt8⟩) (fn6 hP) HE hP.mix rfl (by first | rfl | (simp only [go_sem]; done)) (by first | rfl | (simp only [go_sem]; done)) (Nat.le_of_ble_eq_true rfl) ?_
  have bk : blen k ≤ 64 := (blen_le_iff _ _).2 hk
  have bn : wl n ≤ 64 := (blen_le_iff _ _).2 (by omega)
  have bm : wl m ≤ 64 := (blen_le_iff _ _).2 (by omega)
  have bs : wl (sg b k) ≤ 64 := by rw [sg_wl]; exact bk
  have hf : fitZ n = true := decide_eq_true hn
  have hk' : ((k : Int) < 18446744073709551616) = True := eq_true (by omega)
  have hr := ri_ok (sg b k)
  have hs := sg_of (sg b k)
  have ha : (sg b k).natAbs = k := sg_abs b k
  rw [ha] at hr hs
  obtain ⟨s, hsd⟩ : ∃ s, decide (sg b k < 0) = s := ⟨_, rfl⟩
  rw [hsd] at hr hs
  have hc : rC (sg b k) = [.bool s, .opq (.rnat k)] := by unfold rC; rw [ha, hsd]
  simp (maxSteps := 1000000) only [go_sem, hn, hm, hf, hk, hk', bk, hc, hr, hs, ha]
  (repeat' (first | exact Conv.refl _ | refine And.intro ?_ ?_)) <;> first | assumption | omega | decide | exact Nat.le_trans (by repeat' first | assumption | apply wl_add | apply wl_sub | apply wl_mul | apply wl_neg' | apply wl_qZ | exact Nat.le_of_ble_eq_true rfl) (by decide)
end Go.Proofs.Ytokoagkbfdkacaa.AM
