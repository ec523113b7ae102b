/- The document's numbers: quotients and rests. -/
import Derived.Test.YtjnhekedclcbfaaGreatDoorB7
namespace Go.Proofs.YtjnhekedclcbfaaGreatDoor.AM
set_option linter.all false
set_option autoImplicit true
set_option relaxedAutoImplicit true
open Go Go.Proofs
set_option maxRecDepth 100000
set_option maxHeartbeats 8000000
set_option linter.unusedSimpArgs false
variable {P : Program}

noncomputable def Sm : Nat → List AV → Option (Prop × AV) := addS Sl 62 rMulS
theorem Sm_ok (hP : PrgOk P) : EnvOk P ⟨T0, Sm⟩ := ((Sl_ok hP).add (rMulS_ok hP))
theorem Sm_at (f a) : Sm f a = (addS Sl 62 rMulS) f a := rfl
attribute [go_sem] Sm_at
/-- A rest: none yet, or a number. -/
def rv : Option Nat → AV
  | none => .nils
  | some r => (.imm (digs 65536 (r)).length (List.map (fun d : Nat => AV.int .u32 (d : Int)) (digs 65536 (r))))
theorem rv_some (r : Nat) : rv (some r) = (.imm (digs 65536 (r)).length (List.map (fun d : Nat => AV.int .u32 (d : Int)) (digs 65536 (r)))) := rfl
attribute [go_sem] rv_some
def ru : Option Nat → Nat
  | none => 0
  | some r => r
theorem blen_17 {m : Nat} (h : m ≤ 65536) : blen m ≤ 17 := (blen_le_iff m 17).2 (by omega)
theorem objOnly_F {L : List Nat} {l : List Nat} : objOnly L (AObj.live (List.map (fun d : Nat => AV.int .u32 (d : Int)) (l))).freeze = true := objOnly_U (k := .u32) (l := l)
theorem dOf_split_at (b : Nat) (l : List Nat) (i : Nat) (h : i ≤ l.length) : dOf b l = dOf b (l.take i) + b ^ i * dOf b (l.drop i) := by
  conv => lhs; rw [← List.take_append_drop i l]
  rw [dOf_append, List.length_take, Nat.min_eq_left h]
theorem rDiv_spec (hP : PrgOk P) (a b : Nat) (ha : blen a ≤ 68719476736) (hb : blen b ≤ 34359738368) (h0 : 0 < b) : CSpec P 67 [(.imm (digs 65536 (a)).length (List.map (fun d : Nat => AV.int .u32 (d : Int)) (digs 65536 (a)))), (.imm (digs 65536 (b)).length (List.map (fun d : Nat => AV.int .u32 (d : Int)) (digs 65536 (b))))] (.tup [(.imm (digs 65536 (a / b)).length (List.map (fun d : Nat => AV.int .u32 (d : Int)) (digs 65536 (a / b)))), (.imm (digs 65536 (a % b)).length (List.map (fun d : Nat => AV.int .u32 (d : Int)) (digs 65536 (a % b))))]) := by
  have HE := Sm_ok hP
  have hxd : ∀ d ∈ digs 65536 a, d < 65536 := digs_lt 65536 a (by decide)
  have hx := dOf_digs 65536 a (by decide)
  have hlx := rlen_blen a
  refine CSpec_vc (E := ⟨T0, Sm⟩) (fn67 hP) HE hP.mix rfl (by first | rfl | (simp only [go_sem]; done)) (by first | rfl | (simp only [go_sem]; done)) (Nat.le_of_ble_eq_true rfl) ?_
  generalize digs 65536 a = x at *
  have hi2 : x.length ≤ 1099511627776 := by omega
  have hw : IntKind.i64.wrap ((x.length : Int) - 1) = (x.length : Int) - 1 := by rw [IntKind.wrap_i64]; omega
  simp (maxSteps := 1000000) only [go_sem, hi2, hw]
  refine trX_loop HE hP.mix [4] (fun q : Nat × List Nat × Option Nat => ⟨upd (upd (upd (upd (upd (fun _ => .junk) 0 (.imm x.length (List.map (fun d : Nat => AV.int .u32 (d : Int)) (x)))) 1 (.imm (digs 65536 (b)).length (List.map (fun d : Nat => AV.int .u32 (d : Int)) (digs 65536 (b))))) 6 (.sl 4 0 x.length 1)) 7 (rv q.2.2)) 8 (.int .i64 ((q.1 : Int) - 1)), upd (fun _ => .unused) 4 (.live (List.map (fun d : Nat => AV.int .u32 (d : Int)) (q.2.1))), 63⟩)
    (fun q => q.1 ≤ x.length ∧ q.2.1.length = x.length ∧ (∀ d ∈ q.2.1, d < 65536) ∧ dOf 65536 (x.drop q.1) = dOf 65536 (q.2.1.drop q.1) * b + ru q.2.2 ∧ ru q.2.2 < b ∧ True) (fun q => q.1) (x.length, List.replicate x.length 0, none) 100
    (by repeat (first | exact Has.nil | refine Has.upd rfl ?_)) (Kept.of rfl (by repeat (first | exact KT.nil | refine KT.upd rfl (by first | rfl | exact hr | exact hr2 | (simp only [go_sem]; done)) ?_)) (KM.p (by repeat (first | exact KMp.nil | refine KMp.upd rfl (by first | rfl | (simp only [go_sem]; done)) ?_)))) ⟨by simp, by simp, by intro d hd; rw [List.eq_of_mem_replicate hd]; decide, by simp [dOf, ru], h0, trivial⟩ 63 (by kernel_rfl) ?_
  rintro ⟨i, z, r⟩ ⟨q1, q2, q3, q4, q5, q6⟩
  simp only [] at q1 q2 q3 q4 q5 q6
  cases i with
  | zero =>
    have hsl : x.length < 4611686018427387904 := by omega
    have hz3 : (∀ d ∈ z, d < 65536) = True := eq_true q3
    have htk : z.take x.length = z := List.take_of_length_le (by omega)
    simp only [List.drop_zero] at q4
    obtain ⟨k1, k2⟩ := divmod_of (A := a) (by rw [← hx]; exact q4.symm) q5
    have hn0 : decide ((0 : Int) ≤ ((0 : Nat) : Int) - 1) = false := rfl
    cases r with
    | none =>
      simp only [rv]
      simp (maxSteps := 1000000) only [go_sem, hn0, htk, q2, hz3, hsl]
      rw [← k1, ← k2]
      have e : CvL [(.imm (digs 65536 (dOf 65536 z)).length (List.map (fun d : Nat => AV.int .u32 (d : Int)) (digs 65536 (dOf 65536 z)))), .nils] [(.imm (digs 65536 (dOf 65536 z)).length (List.map (fun d : Nat => AV.int .u32 (d : Int)) (digs 65536 (dOf 65536 z)))), (.imm (digs 65536 (0)).length (List.map (fun d : Nat => AV.int .u32 (d : Int)) (digs 65536 (0))))] := .cons rfl (by
        have e : digs 65536 0 = [] := digs_zero _
        rw [e]; exact .nilR .nil)
      exact CvL.conv (CvL.tup e .nil)
    | some r =>
      simp only [rv]
      simp (maxSteps := 1000000) only [go_sem, hn0, htk, q2, hz3, hsl]
      rw [← k1, ← k2]
      exact .refl _
  | succ i =>
    have hi : i < x.length := by omega
    have hi3 : i ≤ x.length := by omega
    have hxi := hxd _ (getD_mem hi)
    have f1 : IntKind.i64.wrap ((i : Int) - 1) = (i : Int) - 1 := by rw [IntKind.wrap_i64]; omega
    have f2 : ((i + 1 : Nat) : Int) - 1 = (i : Int) := by omega
    obtain ⟨R, hR⟩ : ∃ R, x.getD i 0 + 65536 * ru r = R := ⟨_, rfl⟩
    have hRb : R < 65536 * b := by omega
    have hdR : dOf 65536 (x.drop i) = 65536 * (dOf 65536 (z.drop (i + 1)) * b) + R := by
      rw [drop_cons hi, dOf, q4]; omega
    have hRa : R ≤ a := by
      have e := dOf_split_at 65536 x i hi3
      rw [hx, hdR] at e
      have : R ≤ 65536 ^ i * (65536 * (dOf 65536 (z.drop (i + 1)) * b) + R) := Nat.le_trans (Nat.le_add_left _ _) (Nat.le_mul_of_pos_left _ (Nat.pow_pos (by decide)))
      omega
    have hRl : blen R ≤ 68719476736 := blen_le_of hRa ha
    cases r with
    | none =>
      have e1 : dOf 65536 [ud (AV.int .u32 ((x.getD i 0 : Nat) : Int))] = R := by rw [← hR]; simp [dOf, ud, ru]
      have e2 : [AV.int IntKind.u32 ((x.getD i 0 : Nat) : Int)] = [AV.int IntKind.u32 ((ud (AV.int IntKind.u32 ((x.getD i 0 : Nat) : Int)) : Nat) : Int)] := rfl
      have e3 : ud (AV.int IntKind.u32 ((x.getD i 0 : Nat) : Int)) < 65536 := hxi
      simp only [rv, f2]
      simp (maxSteps := 1000000) only [go_sem, hi, hi3, gU' hi, hxi, e1]
      refine ⟨fun h => h, ⟨e2, e3, by simp⟩, ?_⟩
      refine trX_loop HE hP.mix [108, 106, 4] (fun q : Nat × Nat => ⟨upd (upd (upd (upd (upd (upd (upd (fun _ => .junk) 0 (.imm x.length (List.map (fun d : Nat => AV.int .u32 (d : Int)) (x)))) 1 (.imm (digs 65536 (b)).length (List.map (fun d : Nat => AV.int .u32 (d : Int)) (digs 65536 (b))))) 6 (.sl 4 0 x.length 1)) 7 (.imm (digs 65536 (R)).length (List.map (fun d : Nat => AV.int .u32 (d : Int)) (digs 65536 (R))))) 8 (.int .i64 (i : Int))) 9 (.int .u64 (q.1 : Int))) 10 (.int .u64 (q.2 : Int)), upd (upd (upd (fun _ => .unused) 4 (.live (List.map (fun d : Nat => AV.int .u32 (d : Int)) (z)))) 106 .gone) 108 (AObj.live ([.int .u32 ((x.getD i 0 : Nat) : Int)])).freeze, 63⟩)
        (fun q => q.1 < q.2 ∧ q.2 ≤ 65536 ∧ q.1 * b ≤ R ∧ R < q.2 * b) (fun q => q.2 - q.1) (0, 65536) 200
        (by repeat (first | exact Has.nil | refine Has.upd rfl ?_)) (Kept.of rfl (by repeat (first | exact KT.nil | refine KT.upd rfl (by first | rfl | exact hr | exact hr2 | (simp only [go_sem]; done)) ?_)) (KM.p (by repeat (first | exact KMp.nil | refine KMp.upd rfl (by first | rfl | exact objOnly_F) ?_)))) ⟨by decide, by simp, by simp, hRb⟩ 63 (by kernel_rfl) ?_
      rintro ⟨lo, hh⟩ ⟨p1, p2, p3, p4⟩
      simp only [] at p1 p2 p3 p4
      have w1 : IntKind.u64.wrap ((hh : Int) - (lo : Int)) = ((hh - lo : Nat) : Int) := by rw [IntKind.wrap_u64]; omega
      by_cases hg : 1 < hh - lo
      · have w2 : IntKind.u64.wrap ((lo : Int) + (hh : Int)) = ((lo + hh : Nat) : Int) := by rw [IntKind.wrap_u64]; omega
        obtain ⟨m, hm⟩ : ∃ m, (lo + hh) / 2 = m := ⟨_, rfl⟩
        have w3 : ((lo + hh : Nat) : Int).tdiv 2 = (m : Int) := by rw [← hm]; rfl
        have w4 : IntKind.u64.wrap (m : Int) = (m : Int) := by rw [IntKind.wrap_u64]; omega
        have w5 : ((0 : Int) ≤ (m : Int)) = True := eq_true (by omega)
        have w6 : ((m : Int) < 18446744073709551616) = True := eq_true (by omega)
        have hmb : blen m ≤ 17 := blen_17 (by omega)
        have w7 : blen m ≤ 68719476736 := Nat.le_trans hmb (by decide)
        have w8 : blen b ≤ 68719476736 := Nat.le_trans hb (by decide)
        have w9 : blen (m * b) ≤ 68719476736 := Nat.le_trans (blen_mul_le hmb hb) (by decide)
        rcases Nat.lt_or_ge R (m * b) with hc | hc
        · have w10 : decide (cmpI (m * b) R ≤ 0) = false := by rw [cmpI_gt hc]; rfl
          simp (maxSteps := 1000000) only [go_sem, w1, hg, w2, w3, w4, w5, w6, w7, w8, w9, hRl, Int.toNat_natCast, w10]
          exact ⟨by decide, (lo, m), Kept.of rfl (by repeat (first | exact KT.nil | refine KT.upd rfl (by first | rfl | exact hr | exact hr2 | (simp only [go_sem]; done)) ?_)) (KM.p (by repeat (first | exact KMp.nil | refine KMp.upd rfl (by first | rfl | exact objOnly_F) ?_))), ⟨by simp only []; omega, by simp only []; omega, p3, hc⟩, by simp only []; omega⟩
        · have w10 : decide (cmpI (m * b) R ≤ 0) = true := by
            rcases Nat.lt_or_eq_of_le hc with h | h
            · rw [cmpI_lt h]; rfl
            · rw [h, cmpI_eq]; rfl
          simp (maxSteps := 1000000) only [go_sem, w1, hg, w2, w3, w4, w5, w6, w7, w8, w9, hRl, Int.toNat_natCast, w10]
          exact ⟨by decide, (m, hh), Kept.of rfl (by repeat (first | exact KT.nil | refine KT.upd rfl (by first | rfl | exact hr | exact hr2 | (simp only [go_sem]; done)) ?_)) (KM.p (by repeat (first | exact KMp.nil | refine KMp.upd rfl (by first | rfl | exact objOnly_F) ?_))), ⟨by simp only []; omega, p2, hc, p4⟩, by simp only []; omega⟩
      · have hll : hh = lo + 1 := by omega
        have w4 : IntKind.u32.wrap (lo : Int) = (lo : Int) := by rw [IntKind.wrap_u32]; omega
        have w5 : ((0 : Int) ≤ (lo : Int)) = True := eq_true (by omega)
        have w6 : ((lo : Int) < 18446744073709551616) = True := eq_true (by omega)
        have hmb : blen lo ≤ 17 := blen_17 (by omega)
        have w7 : blen lo ≤ 68719476736 := Nat.le_trans hmb (by decide)
        have w8 : blen b ≤ 68719476736 := Nat.le_trans hb (by decide)
        have hz : i < z.length := by omega
        simp (maxSteps := 1000000) only [go_sem, w1, hg, w4, w5, w6, w7, w8, hRl, Int.toNat_natCast, hi, hi3, hz, p3, f1, plain_U hz]
        refine ⟨(i, z.set i lo, some (R - lo * b)), Kept.of rfl (by repeat (first | exact KT.nil | refine KT.upd rfl (by first | rfl | exact hr | exact hr2 | (simp only [go_sem]; done)) ?_)) (KM.p (by repeat (first | exact KMp.nil | refine KMp.upd rfl (by first | rfl | (simp only [go_sem]; done)) ?_))), ⟨by simp only []; omega, by rw [List.length_set]; exact q2, fun d hd => ?_, ?_, ?_⟩, by simp only []; omega⟩
        · rcases List.mem_or_eq_of_mem_set hd with hd | rfl
          · exact q3 d hd
          · omega
        · simp only [ru]
          rw [hdR, drop_cons (w := z.set i lo) (by rw [List.length_set]; exact hz), getD_set_eq _ _ _ hz, List.drop_set_of_lt (by omega), dOf, Nat.add_mul, Nat.mul_assoc]
          omega
        · rw [hll, Nat.succ_mul] at p4
          simp only [ru]
          omega
    | some r =>
      obtain ⟨l, hl⟩ : ∃ l, x.getD i 0 :: digs 65536 r = l := ⟨_, rfl⟩
      have e0 : AV.int IntKind.u32 ((x.getD i 0 : Nat) : Int) :: (List.map (fun d : Nat => AV.int .u32 (d : Int)) (digs 65536 r)) = (List.map (fun d : Nat => AV.int .u32 (d : Int)) (l)) := by rw [← hl]; rfl
      have e1 : l.length = 1 + (digs 65536 r).length := by rw [← hl, List.length_cons, Nat.add_comm]
      have e2 : dOf 65536 l = R := by rw [← hl, ← hR, dOf, dOf_digs 65536 r (by decide)]; rfl
      have e3 : (∀ d ∈ l, d < 65536) = True := eq_true (fun d hd => by
        rw [← hl] at hd
        rcases List.mem_cons.1 hd with rfl | hd
        · exact hxi
        · exact digs_lt 65536 r (by decide) d hd)
      have e4 := rlen_blen r
      have e5 : blen r ≤ 34359738368 := blen_le_of (Nat.le_of_lt (by simpa [ru] using q5)) hb
      have e6 : List.take (1 + (digs 65536 r).length) (List.map (fun d : Nat => AV.int .u32 (d : Int)) (l)) = (List.map (fun d : Nat => AV.int .u32 (d : Int)) (l)) := List.take_of_length_le (by rw [List.length_map]; omega)
      have e7 : List.drop (1 + (digs 65536 r).length) (List.map (fun d : Nat => AV.int .u32 (d : Int)) (l)) = [] := List.drop_of_length_le (by rw [List.length_map]; omega)
      have e8 : (1 + (digs 65536 r).length) * 4 ≤ 1099511627776 := by omega
      have e9 : 1 + (digs 65536 r).length < 4611686018427387904 := by omega
      simp only [rv, f2]
      simp (maxSteps := 1000000) only [go_sem, hi, hi3, gU' hi, hxi, e0, e6, e7, map_ud32, e1, e2, e3, e8, e9]
      refine ⟨fun h => h.elim, ?_⟩
      refine trX_loop HE hP.mix [108, 106, 4] (fun q : Nat × Nat => ⟨upd (upd (upd (upd (upd (upd (upd (fun _ => .junk) 0 (.imm x.length (List.map (fun d : Nat => AV.int .u32 (d : Int)) (x)))) 1 (.imm (digs 65536 (b)).length (List.map (fun d : Nat => AV.int .u32 (d : Int)) (digs 65536 (b))))) 6 (.sl 4 0 x.length 1)) 7 (.imm (digs 65536 (R)).length (List.map (fun d : Nat => AV.int .u32 (d : Int)) (digs 65536 (R))))) 8 (.int .i64 (i : Int))) 9 (.int .u64 (q.1 : Int))) 10 (.int .u64 (q.2 : Int)), upd (upd (upd (fun _ => .unused) 4 (.live (List.map (fun d : Nat => AV.int .u32 (d : Int)) (z)))) 106 .gone) 108 (AObj.live ((List.map (fun d : Nat => AV.int .u32 (d : Int)) (l)))).freeze, 63⟩)
        (fun q => q.1 < q.2 ∧ q.2 ≤ 65536 ∧ q.1 * b ≤ R ∧ R < q.2 * b) (fun q => q.2 - q.1) (0, 65536) 200
        (by repeat (first | exact Has.nil | refine Has.upd rfl ?_)) (Kept.of rfl (by repeat (first | exact KT.nil | refine KT.upd rfl (by first | rfl | exact hr | exact hr2 | (simp only [go_sem]; done)) ?_)) (KM.p (by repeat (first | exact KMp.nil | refine KMp.upd rfl (by first | rfl | exact objOnly_F) ?_)))) ⟨by decide, by simp, by simp, hRb⟩ 63 (by kernel_rfl) ?_
      rintro ⟨lo, hh⟩ ⟨p1, p2, p3, p4⟩
      simp only [] at p1 p2 p3 p4
      have w1 : IntKind.u64.wrap ((hh : Int) - (lo : Int)) = ((hh - lo : Nat) : Int) := by rw [IntKind.wrap_u64]; omega
      by_cases hg : 1 < hh - lo
      · have w2 : IntKind.u64.wrap ((lo : Int) + (hh : Int)) = ((lo + hh : Nat) : Int) := by rw [IntKind.wrap_u64]; omega
        obtain ⟨m, hm⟩ : ∃ m, (lo + hh) / 2 = m := ⟨_, rfl⟩
        have w3 : ((lo + hh : Nat) : Int).tdiv 2 = (m : Int) := by rw [← hm]; rfl
        have w4 : IntKind.u64.wrap (m : Int) = (m : Int) := by rw [IntKind.wrap_u64]; omega
        have w5 : ((0 : Int) ≤ (m : Int)) = True := eq_true (by omega)
        have w6 : ((m : Int) < 18446744073709551616) = True := eq_true (by omega)
        have hmb : blen m ≤ 17 := blen_17 (by omega)
        have w7 : blen m ≤ 68719476736 := Nat.le_trans hmb (by decide)
        have w8 : blen b ≤ 68719476736 := Nat.le_trans hb (by decide)
        have w9 : blen (m * b) ≤ 68719476736 := Nat.le_trans (blen_mul_le hmb hb) (by decide)
        rcases Nat.lt_or_ge R (m * b) with hc | hc
        · have w10 : decide (cmpI (m * b) R ≤ 0) = false := by rw [cmpI_gt hc]; rfl
          simp (maxSteps := 1000000) only [go_sem, w1, hg, w2, w3, w4, w5, w6, w7, w8, w9, hRl, Int.toNat_natCast, w10]
          exact ⟨by decide, (lo, m), Kept.of rfl (by repeat (first | exact KT.nil | refine KT.upd rfl (by first | rfl | exact hr | exact hr2 | (simp only [go_sem]; done)) ?_)) (KM.p (by repeat (first | exact KMp.nil | refine KMp.upd rfl (by first | rfl | exact objOnly_F) ?_))), ⟨by simp only []; omega, by simp only []; omega, p3, hc⟩, by simp only []; omega⟩
        · have w10 : decide (cmpI (m * b) R ≤ 0) = true := by
            rcases Nat.lt_or_eq_of_le hc with h | h
            · rw [cmpI_lt h]; rfl
            · rw [h, cmpI_eq]; rfl
          simp (maxSteps := 1000000) only [go_sem, w1, hg, w2, w3, w4, w5, w6, w7, w8, w9, hRl, Int.toNat_natCast, w10]
          exact ⟨by decide, (m, hh), Kept.of rfl (by repeat (first | exact KT.nil | refine KT.upd rfl (by first | rfl | exact hr | exact hr2 | (simp only [go_sem]; done)) ?_)) (KM.p (by repeat (first | exact KMp.nil | refine KMp.upd rfl (by first | rfl | exact objOnly_F) ?_))), ⟨by simp only []; omega, p2, hc, p4⟩, by simp only []; omega⟩
      · have hll : hh = lo + 1 := by omega
        have w4 : IntKind.u32.wrap (lo : Int) = (lo : Int) := by rw [IntKind.wrap_u32]; omega
        have w5 : ((0 : Int) ≤ (lo : Int)) = True := eq_true (by omega)
        have w6 : ((lo : Int) < 18446744073709551616) = True := eq_true (by omega)
        have hmb : blen lo ≤ 17 := blen_17 (by omega)
        have w7 : blen lo ≤ 68719476736 := Nat.le_trans hmb (by decide)
        have w8 : blen b ≤ 68719476736 := Nat.le_trans hb (by decide)
        have hz : i < z.length := by omega
        simp (maxSteps := 1000000) only [go_sem, w1, hg, w4, w5, w6, w7, w8, hRl, Int.toNat_natCast, hi, hi3, hz, p3, f1, plain_U hz]
        refine ⟨(i, z.set i lo, some (R - lo * b)), Kept.of rfl (by repeat (first | exact KT.nil | refine KT.upd rfl (by first | rfl | exact hr | exact hr2 | (simp only [go_sem]; done)) ?_)) (KM.p (by repeat (first | exact KMp.nil | refine KMp.upd rfl (by first | rfl | (simp only [go_sem]; done)) ?_))), ⟨by simp only []; omega, by rw [List.length_set]; exact q2, fun d hd => ?_, ?_, ?_⟩, by simp only []; omega⟩
        · rcases List.mem_or_eq_of_mem_set hd with hd | rfl
          · exact q3 d hd
          · omega
        · simp only [ru]
          rw [hdR, drop_cons (w := z.set i lo) (by rw [List.length_set]; exact hz), getD_set_eq _ _ _ hz, List.drop_set_of_lt (by omega), dOf, Nat.add_mul, Nat.mul_assoc]
          omega
        · rw [hll, Nat.succ_mul] at p4
          simp only [ru]
          omega
def rDivS : List AV → Option (Prop × AV) := onR2 fun a b => (blen a ≤ 68719476736 ∧ blen b ≤ 34359738368 ∧ 0 < b, .tup [(.imm (digs 65536 (a / b)).length (List.map (fun d : Nat => AV.int .u32 (d : Int)) (digs 65536 (a / b)))), (.imm (digs 65536 (a % b)).length (List.map (fun d : Nat => AV.int .u32 (d : Int)) (digs 65536 (a % b))))])
theorem rDivS_ok (hP : PrgOk P) (args p r) : rDivS args = some (p, r) → p → CSpec P 67 args r := onR2_ok (fun a b h => by exact rDiv_spec hP a b h.1 h.2.1 h.2.2) args p r
attribute [go_sem] rDivS
end Go.Proofs.YtjnhekedclcbfaaGreatDoor.AM
/- The document's numbers: the greatest divisor, the text. -/
namespace Go.Proofs.YtjnhekedclcbfaaGreatDoor.AM
set_option linter.all false
set_option autoImplicit true
set_option relaxedAutoImplicit true
open Go Go.Proofs
set_option maxRecDepth 100000
set_option maxHeartbeats 8000000
set_option linter.unusedSimpArgs false
variable {P : Program}

noncomputable def Sn : Nat → List AV → Option (Prop × AV) := addS Sm 67 rDivS
theorem Sn_ok (hP : PrgOk P) : EnvOk P ⟨T0, Sn⟩ := ((Sm_ok hP).add (rDivS_ok hP))
theorem Sn_at (f a) : Sn f a = (addS Sm 67 rDivS) f a := rfl
attribute [go_sem] Sn_at
theorem rlen_pos {a : Nat} : 0 < (digs 65536 a).length ↔ 0 < a := by
  constructor
  · intro h
    rcases Nat.eq_zero_or_pos a with e | e
    · rw [e, digs_zero] at h; simp at h
    · exact e
  · intro h
    rcases Nat.eq_zero_or_pos (digs 65536 a).length with e | e
    · have := dOf_digs 65536 a (by decide)
      rw [List.length_eq_zero_iff.1 e] at this
      simp [dOf] at this; omega
    · exact e
theorem rlen_pos_eq {a : Nat} : decide (0 < (digs 65536 a).length) = decide (0 < a) := decide_eq_decide.2 rlen_pos
theorem rGcd_spec (hP : PrgOk P) (a b : Nat) (ha : blen a ≤ 34359738368) (hb : blen b ≤ 34359738368) : CSpec P 86 [(.imm (digs 65536 (a)).length (List.map (fun d : Nat => AV.int .u32 (d : Int)) (digs 65536 (a)))), (.imm (digs 65536 (b)).length (List.map (fun d : Nat => AV.int .u32 (d : Int)) (digs 65536 (b))))] (.imm (digs 65536 (Nat.gcd a b)).length (List.map (fun d : Nat => AV.int .u32 (d : Int)) (digs 65536 (Nat.gcd a b)))) := by
  have HE := Sn_ok hP
  refine CSpec_vc (E := ⟨T0, Sn⟩) (fn86 hP) HE hP.mix rfl (by first | rfl | (simp only [go_sem]; done)) (by first | rfl | (simp only [go_sem]; done)) (Nat.le_of_ble_eq_true rfl) ?_
  simp (maxSteps := 1000000) only [go_sem]
  refine trX_loop HE hP.mix [] (fun q : Nat × Nat => ⟨upd (upd (fun _ => .junk) 0 (.imm (digs 65536 (q.1)).length (List.map (fun d : Nat => AV.int .u32 (d : Int)) (digs 65536 (q.1))))) 1 (.imm (digs 65536 (q.2)).length (List.map (fun d : Nat => AV.int .u32 (d : Int)) (digs 65536 (q.2)))), fun _ => .unused, 19⟩)
    (fun q => blen q.1 ≤ 34359738368 ∧ blen q.2 ≤ 34359738368 ∧ Nat.gcd q.1 q.2 = Nat.gcd a b) (fun q => q.2) (a, b) 10
    (by repeat (first | exact Has.nil | refine Has.upd rfl ?_)) (Kept.of rfl (by repeat (first | exact KT.nil | refine KT.upd rfl (by first | rfl | exact hr | exact hr2 | (simp only [go_sem]; done)) ?_)) (KM.p (by repeat (first | exact KMp.nil | refine KMp.upd rfl (by first | rfl | (simp only [go_sem]; done)) ?_)))) ⟨ha, hb, rfl⟩ 19 (by kernel_rfl) ?_
  rintro ⟨x, y⟩ ⟨h1, h2, h3⟩
  simp only [] at h1 h2 h3
  have h1' : blen x ≤ 68719476736 := Nat.le_trans h1 (by decide)
  by_cases hy : 0 < y
  · have hl : 0 < (digs 65536 y).length := rlen_pos.2 hy
    have hml := Nat.mod_lt x hy
    simp (maxSteps := 1000000) only [go_sem, hl, h1', h2, hy]
    exact ⟨(y, x % y), Kept.of rfl (by repeat (first | exact KT.nil | refine KT.upd rfl (by first | rfl | exact hr | exact hr2 | (simp only [go_sem]; done)) ?_)) (KM.p (by repeat (first | exact KMp.nil | refine KMp.upd rfl (by first | rfl | (simp only [go_sem]; done)) ?_))), ⟨h2, blen_le_of (Nat.le_of_lt hml) h2, by simp only []; rw [← gcd_step]; exact h3⟩, by simp only []; exact hml⟩
  · have hl : ¬ 0 < (digs 65536 y).length := fun h => hy (rlen_pos.1 h)
    have hy0 : y = 0 := by omega
    simp (maxSteps := 1000000) only [go_sem, hl]
    rw [hy0, Nat.gcd_zero_right] at h3
    rw [h3]; exact .refl _
def rGcdS : List AV → Option (Prop × AV) := onR2 fun a b => (blen a ≤ 34359738368 ∧ blen b ≤ 34359738368, (.imm (digs 65536 (Nat.gcd a b)).length (List.map (fun d : Nat => AV.int .u32 (d : Int)) (digs 65536 (Nat.gcd a b)))))
theorem rGcdS_ok (hP : PrgOk P) (args p r) : rGcdS args = some (p, r) → p → CSpec P 86 args r := onR2_ok (fun a b h => by exact rGcd_spec hP a b h.1 h.2) args p r
attribute [go_sem] rGcdS
theorem bytesS_app (x y : List AV) : bytesS x ++ bytesS y = bytesS (x ++ y) := by
  unfold bytesS
  rw [List.map_append]
  apply ByteArray.ext
  simp
theorem bytesS_size (x : List AV) : (bytesS x).size = x.length := by
  unfold bytesS
  rw [← ByteArray.size_data]
  simp
theorem bytesS_nil : (⟨#[]⟩ : ByteArray) = bytesS [] := rfl
abbrev bS (l : List Nat) : ByteArray := bytesS (l.map fun d : Nat => AV.int .u8 (d : Int))
theorem bS_app (x y : List Nat) : bytesS (x.map fun d : Nat => AV.int .u8 (d : Int)) ++ bytesS (y.map fun d : Nat => AV.int .u8 (d : Int)) = bytesS ((x ++ y).map fun d : Nat => AV.int .u8 (d : Int)) := by rw [bytesS_app, List.map_append]
theorem rText_spec (hP : PrgOk P) (a : Nat) (ha : blen a ≤ 68719476736) : CSpec P 25 [(.imm (digs 65536 (a)).length (List.map (fun d : Nat => AV.int .u32 (d : Int)) (digs 65536 (a))))] (.str (decS a)) := by
  have HE := Sn_ok hP
  rcases Nat.eq_zero_or_pos a with rfl | h0
  · have e : digs 65536 0 = [] := digs_zero _
    refine CSpec_vc (E := ⟨T0, Sn⟩) (fn25 hP) HE hP.mix rfl (by first | rfl | (simp only [go_sem]; done)) (by first | rfl | (simp only [go_sem]; done)) (Nat.le_of_ble_eq_true rfl) ?_
    simp (maxSteps := 1000000) only [go_sem, e]
    exact .refl _
  · have hl : ((digs 65536 a).length == 0) = false := by
      have := rlen_pos.2 h0
      exact beq_eq_false_iff_ne.2 (by omega)
    refine CSpec_vc (E := ⟨T0, Sn⟩) (fn25 hP) HE hP.mix rfl (by first | rfl | (simp only [go_sem]; done)) (by first | rfl | (simp only [go_sem]; done)) (Nat.le_of_ble_eq_true rfl) ?_
    simp (maxSteps := 1000000) only [go_sem, hl]
    refine trX_loop HE hP.mix [] (fun q : Nat × List Nat => ⟨upd (upd (fun _ => .junk) 0 (.imm (digs 65536 (q.1)).length (List.map (fun d : Nat => AV.int .u32 (d : Int)) (digs 65536 (q.1))))) 3 (.str (bS q.2.reverse)), fun _ => .unused, 51⟩)
      (fun q => byt q.2 ∧ a = dv q.2 + 10 ^ q.2.length * q.1 ∧ (q.1 = 0 → Canon (q.2.map (· - 48)))) (fun q => q.1) (a, []) 60
      (by repeat (first | exact Has.nil | refine Has.upd rfl ?_)) (Kept.of rfl (by repeat (first | exact KT.nil | refine KT.upd rfl (by first | rfl | exact hr | exact hr2 | (simp only [go_sem]; done)) ?_)) (KM.p (by repeat (first | exact KMp.nil | refine KMp.upd rfl (by first | rfl | (simp only [go_sem]; done)) ?_)))) ⟨by simp [byt], by simp [dv, dOf], fun e => by have e : a = 0 := e; omega⟩ 51 (by kernel_rfl) ?_
    rintro ⟨w, o⟩ ⟨h1, h2, h3⟩
    simp only [] at h1 h2 h3
    by_cases hw : 0 < w
    · have hlw : 0 < (digs 65536 w).length := rlen_pos.2 hw
      have hwa : w ≤ a := by
        rw [h2]
        exact Nat.le_trans (Nat.le_mul_of_pos_left _ (Nat.pow_pos (by decide))) (Nat.le_add_left _ _)
      have hwl : blen w ≤ 68719476736 := blen_le_of hwa ha
      have hlr := rlen_blen (w % 10000)
      have hmd : w % 10000 < 10000 := Nat.mod_lt _ (by decide)
      have hbl : blen (w % 10000) ≤ 14 := (blen_le_iff _ 14).2 (by omega)
      have hl2 : (digs 65536 (w % 10000)).length ≤ 1099511627776 := by omega
      have hsm : (w % 10000 < 18446744073709551616) = True := eq_true (by omega)
      have hbt : (blen 10000 ≤ 34359738368) = True := eq_true (by decide)
      have hbi : (10000 : Int).toNat = 10000 := rfl
      simp (maxSteps := 1000000) only [go_sem, hlw, hwl, hl2, hsm, hbt, hbi]
      obtain ⟨W2, hW2⟩ : ∃ W2, w / 10000 = W2 := ⟨_, rfl⟩
      obtain ⟨v0, hv0⟩ : ∃ v0, w % 10000 = v0 := ⟨_, rfl⟩
      have hwv : w = v0 + 10000 * W2 := by omega
      simp only [hW2, hv0]
      refine ⟨by decide, ?_⟩
      refine trX_loop HE hP.mix [] (fun q : Nat × Nat × List Nat => ⟨upd (upd (upd (upd (fun _ => .junk) 3 (.str (bS q.2.2.reverse))) 4 (.imm (digs 65536 (W2)).length (List.map (fun d : Nat => AV.int .u32 (d : Int)) (digs 65536 (W2))))) 6 (.int .u64 (q.2.1 : Int))) 8 (.int .i64 (q.1 : Int)), fun _ => .unused, 51⟩)
        (fun q => q.1 ≤ 4 ∧ byt q.2.2 ∧ q.2.1 < 10 ^ (4 - q.1) ∧ a = dv q.2.2 + 10 ^ q.2.2.length * (q.2.1 + 10 ^ (4 - q.1) * W2) ∧ (W2 = 0 → q.2.1 = 0 → Canon (q.2.2.map (· - 48)))) (fun q => 4 - q.1) (0, v0, o) 60
        (by repeat (first | exact Has.nil | refine Has.upd rfl ?_)) (Kept.of rfl (by repeat (first | exact KT.nil | refine KT.upd rfl (by first | rfl | exact hr | exact hr2 | (simp only [go_sem]; done)) ?_)) (KM.p (by repeat (first | exact KMp.nil | refine KMp.upd rfl (by first | rfl | (simp only [go_sem]; done)) ?_)))) ⟨Nat.zero_le _, h1, by simp only []; omega, by simp only []; rw [h2, hwv], fun e1 e2 => by have e2 : v0 = 0 := e2; omega⟩ 51 (by kernel_rfl) ?_
      rintro ⟨k, v, o'⟩ ⟨s1, s2, s3, s4, s5⟩
      simp only [] at s1 s2 s3 s4 s5
      have hm : (v : Int).tmod 10 = ((v % 10 : Nat) : Int) := rfl
      have hvb : v < 10000 := Nat.lt_of_lt_of_le s3 (Nat.pow_le_pow_right (by decide) (show 4 - k ≤ 4 by omega))
      have hdv : IntKind.u64.wrap ((v : Int).tdiv 10) = ((v / 10 : Nat) : Int) := wu_div v 10 (by omega)
      have hu8 := u8_dig v
      have hwi := wi_add1 k (by omega)
      have hR : decide (0 < (digs 65536 W2).length) = decide (0 < W2) := rlen_pos_eq
      by_cases hk : k < 4
      · by_cases hgo : 0 < W2 ∨ 0 < v
        · have hkb : o'.length + 1 ≤ 1099511627776 := by
            have h0 : 1 ≤ v + 10 ^ (4 - k) * W2 := by
              rcases hgo with h | h
              · exact Nat.le_trans (Nat.mul_pos (Nat.pow_pos (by decide)) h) (Nat.le_add_left _ _)
              · omega
            have h1 : 10 ^ o'.length * 1 ≤ 10 ^ o'.length * (v + 10 ^ (4 - k) * W2) := Nat.mul_le_mul_left _ h0
            have h2 : 2 ^ o'.length ≤ 10 ^ o'.length := Nat.pow_le_pow_left (by decide) _
            have h3 := blen_lt a
            have h4 : o'.length < blen a := (Nat.pow_lt_pow_iff_right (a := 2) (by decide)).1 (by omega)
            omega
          have hpw : 10 ^ (4 - k) = 10 * 10 ^ (4 - (k + 1)) := by rw [show 4 - k = 4 - (k + 1) + 1 by omega, Nat.pow_succ, Nat.mul_comm]
          have hst : byt (o' ++ [48 + v % 10]) ∧ v / 10 < 10 ^ (4 - (k + 1)) ∧ a = dv (o' ++ [48 + v % 10]) + 10 ^ (o' ++ [48 + v % 10]).length * (v / 10 + 10 ^ (4 - (k + 1)) * W2) ∧ (W2 = 0 → v / 10 = 0 → Canon ((o' ++ [48 + v % 10]).map (· - 48))) := by
            refine ⟨byt_snoc s2 v, by omega, ?_, fun e1 e2 => snoc_canon _ _ ?_⟩
            · rw [dv_snoc, List.length_append, List.length_singleton, Nat.pow_succ]
              rw [hpw, Nat.mul_assoc] at s4
              exact dig_step s4
            · rcases hgo with h | h <;> omega
          obtain ⟨z1, z2, z3, z4⟩ := hst
          have hsz : 1 + o'.length ≤ 9223372036854775807 := by omega
          have hap : bytesS [.int .u8 ((48 + v % 10 : Nat) : Int)] ++ bS o'.reverse = bS (o' ++ [48 + v % 10]).reverse := by
            rw [List.reverse_append]; exact bS_app [48 + v % 10] o'.reverse
          by_cases hW : 0 < W2
          · simp (maxSteps := 1000000) only [go_sem, hk, hR, hW, hm, hdv, hu8, hwi, hap, bytesS_size]
            exact ⟨by decide, rfl, by rw [List.length_reverse]; exact hsz, by decide, (k + 1, v / 10, o' ++ [48 + v % 10]), Kept.of rfl (by repeat (first | exact KT.nil | refine KT.upd rfl (by first | rfl | exact hr | exact hr2 | (simp only [go_sem]; done)) ?_)) (KM.p (by repeat (first | exact KMp.nil | refine KMp.upd rfl (by first | rfl | (simp only [go_sem]; done)) ?_))), ⟨by simp only []; omega, z1, z2, z3, z4⟩, by simp only []; omega⟩
          · have hv : 0 < v := by omega
            simp (maxSteps := 1000000) only [go_sem, hk, hR, hW, hv, hm, hdv, hu8, hwi, hap, bytesS_size]
            exact ⟨by decide, rfl, by rw [List.length_reverse]; exact hsz, by decide, (k + 1, v / 10, o' ++ [48 + v % 10]), Kept.of rfl (by repeat (first | exact KT.nil | refine KT.upd rfl (by first | rfl | exact hr | exact hr2 | (simp only [go_sem]; done)) ?_)) (KM.p (by repeat (first | exact KMp.nil | refine KMp.upd rfl (by first | rfl | (simp only [go_sem]; done)) ?_))), ⟨by simp only []; omega, z1, z2, z3, z4⟩, by simp only []; omega⟩
        · have hW : ¬ 0 < W2 := fun h => hgo (.inl h)
          have hv : ¬ 0 < v := fun h => hgo (.inr h)
          simp (maxSteps := 1000000) only [go_sem, hk, hR, hW, hv]
          have hW0 : W2 = 0 := by omega
          have hv0 : v = 0 := by omega
          exact ⟨(W2, o'), Kept.of rfl (by repeat (first | exact KT.nil | refine KT.upd rfl (by first | rfl | exact hr | exact hr2 | (simp only [go_sem]; done)) ?_)) (KM.p (by repeat (first | exact KMp.nil | refine KMp.upd rfl (by first | rfl | (simp only [go_sem]; done)) ?_))), ⟨s2, by simp only []; rw [s4, hW0, hv0, Nat.mul_zero, Nat.add_zero], fun e => s5 e hv0⟩, by simp only []; omega⟩
      · have hv0 : v = 0 := by
          rw [show 4 - k = 0 by omega] at s3; omega
        simp (maxSteps := 1000000) only [go_sem, hk]
        exact ⟨(W2, o'), Kept.of rfl (by repeat (first | exact KT.nil | refine KT.upd rfl (by first | rfl | exact hr | exact hr2 | (simp only [go_sem]; done)) ?_)) (KM.p (by repeat (first | exact KMp.nil | refine KMp.upd rfl (by first | rfl | (simp only [go_sem]; done)) ?_))), ⟨s2, by simp only []; rw [s4, hv0, show 4 - k = 0 by omega, Nat.pow_zero, Nat.one_mul, Nat.zero_add], fun e => s5 e hv0⟩, by simp only []; omega⟩
    · have hlw : ¬ 0 < (digs 65536 w).length := fun h => hw (rlen_pos.1 h)
      have hw0 : w = 0 := by omega
      rw [hw0, Nat.mul_zero, Nat.add_zero] at h2
      have hdl := text_end h1 h2 (h3 hw0) h0
      simp (maxSteps := 1000000) only [go_sem, hlw]
      unfold decS
      rw [hdl]; exact .refl _
def rTextS : List AV → Option (Prop × AV) := onR1 fun a => (blen a ≤ 68719476736, .str (decS a))
theorem rTextS_ok (hP : PrgOk P) (args p r) : rTextS args = some (p, r) → p → CSpec P 25 args r := onR1_ok (fun a h => by exact rText_spec hP a h) args p r
attribute [go_sem] rTextS
end Go.Proofs.YtjnhekedclcbfaaGreatDoor.AM
/- The document's numbers: texts that are numbers. -/
namespace Go.Proofs.YtjnhekedclcbfaaGreatDoor.AM
set_option linter.all false
set_option autoImplicit true
set_option relaxedAutoImplicit true
open Go Go.Proofs
set_option maxRecDepth 100000
set_option maxHeartbeats 8000000
set_option linter.unusedSimpArgs false
variable {P : Program}

instance okD_dec (l : List Nat) : Decidable (okD l) := by unfold okD; infer_instance
theorem rDigits_spec (hP : PrgOk P) (s : ByteArray) (hsz : (bl s).length ≤ 1099511627776) : CSpec P 82 [.str s] (.bool (decide (okD (bl s)))) := by
  have HE := Sn_ok hP
  refine CSpec_vc (E := ⟨T0, Sn⟩) (fn82 hP) HE hP.mix rfl (by first | rfl | (simp only [go_sem]; done)) (by first | rfl | (simp only [go_sem]; done)) (Nat.le_of_ble_eq_true rfl) ?_
  obtain ⟨l, hl⟩ : ∃ l, bl s = l := ⟨_, rfl⟩
  rw [hl] at hsz ⊢
  by_cases h1 : l = []
  · have h1' : (l.length == 0) = true := by rw [h1]; rfl
    have hno : decide (okD l) = false := decide_eq_false fun h => h.1 h1
    simp (maxSteps := 1000000) only [go_sem, size_bl, get_bl, hl, h1']
    rw [hno]; exact .refl _
  · have h1' : (l.length == 0) = false := beq_eq_false_iff_ne.2 fun h => h1 (List.length_eq_zero_iff.1 h)
    by_cases h2 : 1 < l.length
    · rcases (by cases (l.getD 0 0 == 48) <;> simp : (l.getD 0 0 == 48) = true ∨ (l.getD 0 0 == 48) = false) with h3 | h3
      · have hno : decide (okD l) = false := decide_eq_false fun h => h.2.1 ⟨h2, by simpa using h3⟩
        simp (maxSteps := 1000000) only [go_sem, size_bl, get_bl, hl, h1', h2, h3]
        rw [hno]
        exact ⟨by omega, .refl _⟩
      · have h0 : ¬ (1 < l.length ∧ l.getD 0 0 = 48) := fun h => by simp at h3; exact h3 (by simpa using h.2)
        simp (maxSteps := 1000000) only [go_sem, size_bl, get_bl, hl, h1', h2, h3]
        refine ⟨by omega, ?_⟩
        refine trX_loop HE hP.mix [] (fun k : Nat => ⟨upd (upd (fun _ => .junk) 0 (.str s)) 3 (.int .i64 (k : Int)), fun _ => .unused, 33⟩)
          (fun k => k ≤ l.length ∧ ∀ c ∈ l.take k, 48 ≤ c ∧ c ≤ 57) (fun k => l.length - k) 0 10
          (by repeat (first | exact Has.nil | refine Has.upd rfl ?_)) (Kept.of rfl (by repeat (first | exact KT.nil | refine KT.upd rfl (by first | rfl | exact hr | exact hr2 | (simp only [go_sem]; done)) ?_)) (KM.p (by repeat (first | exact KMp.nil | refine KMp.upd rfl (by first | rfl | (simp only [go_sem]; done)) ?_)))) ⟨Nat.zero_le _, by simp⟩ 33 (by kernel_rfl) ?_
        rintro k ⟨k1, k2⟩
        by_cases hk : k < l.length
        · have hw := wi_add1 k (by omega)
          have hb := bl_lt s
          rw [hl] at hb
          have hkb := hb _ (getD_mem hk)
          by_cases ha : l.getD k 0 < 48
          · have hno : decide (okD l) = false := decide_eq_false fun h => by have := h.2.2 _ (getD_mem hk); omega
            have ha' : decide (((l.getD k 0 : Nat) : Int) < 48) = true := decide_eq_true (by omega)
            simp (maxSteps := 1000000) only [go_sem, size_bl, get_bl, hl, hk, ha, ha', Int.toNat_natCast]
            rw [hno]; exact .refl _
          · have ha' : decide (((l.getD k 0 : Nat) : Int) < 48) = false := decide_eq_false (by omega)
            by_cases hc : 57 < l.getD k 0
            · have hno : decide (okD l) = false := decide_eq_false fun h => by have := h.2.2 _ (getD_mem hk); omega
              simp (maxSteps := 1000000) only [go_sem, size_bl, get_bl, hl, hk, ha, ha', Int.toNat_natCast, hc]
              rw [hno]; exact .refl _
            · simp (maxSteps := 1000000) only [go_sem, size_bl, get_bl, hl, hk, ha, ha', Int.toNat_natCast, hc, hw]
              exact ⟨k + 1, Kept.of rfl (by repeat (first | exact KT.nil | refine KT.upd rfl (by first | rfl | exact hr | exact hr2 | (simp only [go_sem]; done)) ?_)) (KM.p (by repeat (first | exact KMp.nil | refine KMp.upd rfl (by first | rfl | (simp only [go_sem]; done)) ?_))), ⟨by omega, fun c hcm => by
                rw [take_snoc hk] at hcm
                rcases List.mem_append.1 hcm with hcm | hcm
                · exact k2 c hcm
                · rw [List.mem_singleton.1 hcm]; omega⟩, by omega⟩
        · have hyes : decide (okD l) = true := decide_eq_true ⟨h1, h0, by rwa [List.take_of_length_le (by omega)] at k2⟩
          simp (maxSteps := 1000000) only [go_sem, size_bl, get_bl, hl, hk]
          rw [hyes]; exact .refl _
    · have h0 : ¬ (1 < l.length ∧ l.getD 0 0 = 48) := fun h => h2 h.1
      simp (maxSteps := 1000000) only [go_sem, size_bl, get_bl, hl, h1', h2]
      refine trX_loop HE hP.mix [] (fun k : Nat => ⟨upd (upd (fun _ => .junk) 0 (.str s)) 3 (.int .i64 (k : Int)), fun _ => .unused, 33⟩)
        (fun k => k ≤ l.length ∧ ∀ c ∈ l.take k, 48 ≤ c ∧ c ≤ 57) (fun k => l.length - k) 0 10
        (by repeat (first | exact Has.nil | refine Has.upd rfl ?_)) (Kept.of rfl (by repeat (first | exact KT.nil | refine KT.upd rfl (by first | rfl | exact hr | exact hr2 | (simp only [go_sem]; done)) ?_)) (KM.p (by repeat (first | exact KMp.nil | refine KMp.upd rfl (by first | rfl | (simp only [go_sem]; done)) ?_)))) ⟨Nat.zero_le _, by simp⟩ 33 (by kernel_rfl) ?_
      rintro k ⟨k1, k2⟩
      by_cases hk : k < l.length
      · have hw := wi_add1 k (by omega)
        have hb := bl_lt s
        rw [hl] at hb
        have hkb := hb _ (getD_mem hk)
        by_cases ha : l.getD k 0 < 48
        · have hno : decide (okD l) = false := decide_eq_false fun h => by have := h.2.2 _ (getD_mem hk); omega
          have ha' : decide (((l.getD k 0 : Nat) : Int) < 48) = true := decide_eq_true (by omega)
          simp (maxSteps := 1000000) only [go_sem, size_bl, get_bl, hl, hk, ha, ha', Int.toNat_natCast]
          rw [hno]; exact .refl _
        · have ha' : decide (((l.getD k 0 : Nat) : Int) < 48) = false := decide_eq_false (by omega)
          by_cases hc : 57 < l.getD k 0
          · have hno : decide (okD l) = false := decide_eq_false fun h => by have := h.2.2 _ (getD_mem hk); omega
            simp (maxSteps := 1000000) only [go_sem, size_bl, get_bl, hl, hk, ha, ha', Int.toNat_natCast, hc]
            rw [hno]; exact .refl _
          · simp (maxSteps := 1000000) only [go_sem, size_bl, get_bl, hl, hk, ha, ha', Int.toNat_natCast, hc, hw]
            exact ⟨k + 1, Kept.of rfl (by repeat (first | exact KT.nil | refine KT.upd rfl (by first | rfl | exact hr | exact hr2 | (simp only [go_sem]; done)) ?_)) (KM.p (by repeat (first | exact KMp.nil | refine KMp.upd rfl (by first | rfl | (simp only [go_sem]; done)) ?_))), ⟨by omega, fun c hcm => by
              rw [take_snoc hk] at hcm
              rcases List.mem_append.1 hcm with hcm | hcm
              · exact k2 c hcm
              · rw [List.mem_singleton.1 hcm]; omega⟩, by omega⟩
      · have hyes : decide (okD l) = true := decide_eq_true ⟨h1, h0, by rwa [List.take_of_length_le (by omega)] at k2⟩
        simp (maxSteps := 1000000) only [go_sem, size_bl, get_bl, hl, hk]
        rw [hyes]; exact .refl _
def DigitsS : List AV → Option (Prop × AV)
  | [.str s] => some ((bl s).length ≤ 1099511627776, .bool (decide (okD (bl s))))
  | _ => none
theorem DigitsS_ok (hP : PrgOk P) (args p r) (h : DigitsS args = some (p, r)) (hp : p) : CSpec P 82 args r := by
  unfold DigitsS at h
  split at h
  · simp only [Option.some.injEq, Prod.mk.injEq] at h
    obtain ⟨rfl, rfl⟩ := h
    exact rDigits_spec hP _ hp
  · simp at h
attribute [go_sem] DigitsS
noncomputable def So : Nat → List AV → Option (Prop × AV) := addS (addS (addS Sn 86 rGcdS) 25 rTextS) 82 DigitsS
theorem So_ok (hP : PrgOk P) : EnvOk P ⟨T0, So⟩ := ((((Sn_ok hP).add (rGcdS_ok hP)).add (rTextS_ok hP)).add (DigitsS_ok hP))
theorem So_at (f a) : So f a = (addS (addS (addS Sn 86 rGcdS) 25 rTextS) 82 DigitsS) f a := rfl
attribute [go_sem] So_at
theorem valL_blen4 {l : List Nat} (h : ∀ c ∈ l, c ≤ 57) : blen (valL l) ≤ 4 * l.length := by
  have h1 := valL_lt (l := l) h
  have h4 : 10 ^ l.length ≤ 16 ^ l.length := Nat.pow_le_pow_left (by decide) _
  have h5 : (16 : Nat) ^ l.length = 2 ^ (4 * l.length) := by rw [show (16 : Nat) = 2 ^ 4 from rfl, ← Nat.pow_mul]
  rw [blen_le_iff, ← h5]; exact Nat.lt_of_lt_of_le h1 h4
theorem rParse_spec (hP : PrgOk P) (s : ByteArray) (hsz : (bl s).length ≤ 8589934592) (hd : ∀ c ∈ bl s, 48 ≤ c ∧ c ≤ 57) : CSpec P 63 [.str s] (.imm (digs 65536 (valL (bl s))).length (List.map (fun d : Nat => AV.int .u32 (d : Int)) (digs 65536 (valL (bl s))))) := by
  have HE := So_ok hP
  have h10 : blen 10 ≤ 68719476736 := by decide
  have h10i : (10 : Int).toNat = 10 := rfl
  refine CSpec_vc (E := ⟨T0, So⟩) (fn63 hP) HE hP.mix rfl (by first | rfl | (simp only [go_sem]; done)) (by first | rfl | (simp only [go_sem]; done)) (Nat.le_of_ble_eq_true rfl) ?_
  obtain ⟨l, hl⟩ : ∃ l, bl s = l := ⟨_, rfl⟩
  rw [hl] at hsz hd ⊢
  simp (maxSteps := 1000000) only [go_sem, size_bl, get_bl, hl]
  refine trX_loop HE hP.mix [] (fun k : Nat × Option Nat => ⟨upd (upd (upd (fun _ => .junk) 0 (.str s)) 3 (rv k.2)) 4 (.int .i64 (k.1 : Int)), fun _ => .unused, 22⟩)
    (fun k => k.1 ≤ l.length ∧ ru k.2 = valL (l.take k.1)) (fun k => l.length - k.1) (0, none) 10
    (by repeat (first | exact Has.nil | refine Has.upd rfl ?_)) (Kept.of rfl (by repeat (first | exact KT.nil | refine KT.upd rfl (by first | rfl | exact hr | exact hr2 | (simp only [go_sem]; done)) ?_)) (KM.p (by repeat (first | exact KMp.nil | refine KMp.upd rfl (by first | rfl | (simp only [go_sem]; done)) ?_)))) ⟨Nat.zero_le _, rfl⟩ 22 (by kernel_rfl) ?_
  rintro ⟨k, r⟩ ⟨k1, k2⟩
  simp only [] at k1 k2
  by_cases hk : k < l.length
  · have hw := wi_add1 k (by omega)
    have hkb := hd _ (getD_mem hk)
    have hvb : blen (valL (l.take k)) ≤ 34359738368 := by
      have := valL_blen4 (l := l.take k) (fun c hc => (hd c (List.mem_of_mem_take hc)).2)
      rw [List.length_take, Nat.min_eq_left k1] at this
      omega
    have hst := valL_take_succ hk
    obtain ⟨d, hdd⟩ : ∃ d, l.getD k 0 - 48 = d := ⟨_, rfl⟩
    have f1 : IntKind.u8.wrap (((l.getD k 0 : Nat) : Int) - 48) = (d : Int) := by rw [IntKind.wrap_u8]; omega
    have f2 : IntKind.u64.wrap (d : Int) = (d : Int) := by rw [IntKind.wrap_u64]; omega
    have f3 : ((0 : Int) ≤ (d : Int)) = True := eq_true (by omega)
    have f4 : ((d : Int) < 18446744073709551616) = True := eq_true (by omega)
    cases r with
    | none =>
      simp only [rv]
      simp (maxSteps := 1000000) only [go_sem, size_bl, get_bl, hl, hk, Int.toNat_natCast, f1, f2, f3, f4, h10, h10i, hw]
      have hdb : blen d ≤ 68719476736 := Nat.le_trans (blen_17 (by omega)) (by decide)
      refine ⟨by decide, by decide, ⟨by decide, hdb⟩, (k + 1, some (d)), Kept.of rfl (by repeat (first | exact KT.nil | refine KT.upd rfl (by first | rfl | exact hr | exact hr2 | (simp only [go_sem]; done)) ?_)) (KM.p (by repeat (first | exact KMp.nil | refine KMp.upd rfl (by first | rfl | (simp only [go_sem]; done)) ?_))), ⟨by simp only []; omega, ?_⟩, by simp only []; omega⟩
      simp only [ru] at k2 ⊢
      rw [hst, hdd, ← k2]; omega
    | some r =>
      have k2 : r = valL (l.take k) := k2
      have hvb : blen r ≤ 34359738368 := by rw [k2]; exact hvb
      simp only [rv]
      simp (maxSteps := 1000000) only [go_sem, size_bl, get_bl, hl, hk, Int.toNat_natCast, f1, f2, f3, f4, h10, h10i, hw]
      have hdb : blen d ≤ 68719476736 := Nat.le_trans (blen_17 (by omega)) (by decide)
      refine ⟨by decide, Nat.le_trans hvb (by decide), ⟨Nat.le_trans (blen_mul_le hvb (show blen 10 ≤ 4 by decide)) (by decide), hdb⟩, (k + 1, some (r * 10 + d)), Kept.of rfl (by repeat (first | exact KT.nil | refine KT.upd rfl (by first | rfl | exact hr | exact hr2 | (simp only [go_sem]; done)) ?_)) (KM.p (by repeat (first | exact KMp.nil | refine KMp.upd rfl (by first | rfl | (simp only [go_sem]; done)) ?_))), ⟨by simp only []; omega, ?_⟩, by simp only []; omega⟩
      simp only [ru] at k2 ⊢
      rw [hst, hdd, ← k2]; omega
  · have htk : l.take k = l := List.take_of_length_le (by omega)
    rw [htk] at k2
    cases r with
    | none =>
      simp only [rv]
      simp (maxSteps := 1000000) only [go_sem, size_bl, get_bl, hl, hk]
      rw [← k2]
      have e : digs 65536 0 = [] := digs_zero _
      simp only [ru, e]
      exact CvL.conv (.nilR .nil)
    | some r =>
      simp only [rv]
      simp (maxSteps := 1000000) only [go_sem, size_bl, get_bl, hl, hk]
      rw [← k2]
      exact .refl _
def rParseS : List AV → Option (Prop × AV)
  | [.str s] => some ((bl s).length ≤ 8589934592 ∧ ∀ c ∈ bl s, 48 ≤ c ∧ c ≤ 57, (.imm (digs 65536 (valL (bl s))).length (List.map (fun d : Nat => AV.int .u32 (d : Int)) (digs 65536 (valL (bl s))))))
  | _ => none
theorem rParseS_ok (hP : PrgOk P) (args p r) (h : rParseS args = some (p, r)) (hp : p) : CSpec P 63 args r := by
  unfold rParseS at h
  split at h
  · simp only [Option.some.injEq, Prod.mk.injEq] at h
    obtain ⟨rfl, rfl⟩ := h
    exact rParse_spec hP _ hp.1 hp.2
  · simp at h
attribute [go_sem] rParseS
noncomputable def Sp : Nat → List AV → Option (Prop × AV) := addS So 63 rParseS
theorem Sp_ok (hP : PrgOk P) : EnvOk P ⟨T0, Sp⟩ := ((So_ok hP).add (rParseS_ok hP))
theorem Sp_at (f a) : Sp f a = (addS So 63 rParseS) f a := rfl
attribute [go_sem] Sp_at
end Go.Proofs.YtjnhekedclcbfaaGreatDoor.AM
/- The document's numbers, told az one. -/
namespace Go.Proofs.YtjnhekedclcbfaaGreatDoor.AM
set_option linter.all false
set_option autoImplicit true
set_option relaxedAutoImplicit true
open Go Go.Proofs
set_option maxRecDepth 100000
set_option maxHeartbeats 8000000
set_option linter.unusedSimpArgs false
variable {P : Program}

def rOfA : List AV → Option (Prop × AV)
  | [.int .u64 n] => some (0 ≤ n ∧ n < 18446744073709551616, (.opq (.rnat (n.toNat))))
  | _ => none
theorem rOfA_ok (hP : PrgOk P) (args p r) (h : rOfA args = some (p, r)) (hp : p) : CSpec P 61 args r := by
  unfold rOfA at h
  split at h
  · simp only [Option.some.injEq, Prod.mk.injEq] at h
    obtain ⟨rfl, rfl⟩ := h
    exact (rOfS_ok hP _ _ _ rfl hp).conv (.rnat _)
  · simp at h
def rAddA : List AV → Option (Prop × AV) := onR2 fun a b => (blen a ≤ 68719476736 ∧ blen b ≤ 68719476736, (.opq (.rnat (a + b))))
theorem rAddA_ok (hP : PrgOk P) (args p r) : rAddA args = some (p, r) → p → CSpec P 77 args r := onR2_ok (fun a b h => by exact (rAdd_spec hP a b h.1 h.2).conv (.rnat _)) args p r
def rSubA : List AV → Option (Prop × AV) := onR2 fun a b => (blen a ≤ 68719476736 ∧ b ≤ a, (.opq (.rnat (a - b))))
theorem rSubA_ok (hP : PrgOk P) (args p r) : rSubA args = some (p, r) → p → CSpec P 101 args r := onR2_ok (fun a b h => by exact (rSub_spec hP a b h.1 h.2).conv (.rnat _)) args p r
def rMulA : List AV → Option (Prop × AV) := onR2 fun a b => (blen a ≤ 68719476736 ∧ blen b ≤ 68719476736, (.opq (.rnat (a * b))))
theorem rMulA_ok (hP : PrgOk P) (args p r) : rMulA args = some (p, r) → p → CSpec P 62 args r := onR2_ok (fun a b h => by exact (rMul_spec hP a b h.1 h.2).conv (.rnat _)) args p r
theorem Conv.rnat2 (a b : Nat) : Conv (.tup [(.imm (digs 65536 (a)).length (List.map (fun d : Nat => AV.int .u32 (d : Int)) (digs 65536 (a)))), (.imm (digs 65536 (b)).length (List.map (fun d : Nat => AV.int .u32 (d : Int)) (digs 65536 (b))))]) (.tup [(.opq (.rnat (a))), (.opq (.rnat (b)))]) := CvL.conv (CvL.tup (fun W φ w l hl => by
  obtain ⟨v, vs, rfl, h1, h2⟩ := hl.uncons rfl
  obtain ⟨v', rfl, h2⟩ := h2.one
  exact (Conv.rnat a _ _ _ _ h1).app (Conv.rnat b _ _ _ _ h2)) .nil)
def rDivA : List AV → Option (Prop × AV) := onR2 fun a b => (blen a ≤ 68719476736 ∧ blen b ≤ 34359738368 ∧ 0 < b, .tup [(.opq (.rnat (a / b))), (.opq (.rnat (a % b)))])
theorem rDivA_ok (hP : PrgOk P) (args p r) : rDivA args = some (p, r) → p → CSpec P 67 args r := onR2_ok (fun a b h => by exact (rDiv_spec hP a b h.1 h.2.1 h.2.2).conv (.rnat2 _ _)) args p r
def rGcdA : List AV → Option (Prop × AV) := onR2 fun a b => (blen a ≤ 34359738368 ∧ blen b ≤ 34359738368, (.opq (.rnat (Nat.gcd a b))))
theorem rGcdA_ok (hP : PrgOk P) (args p r) : rGcdA args = some (p, r) → p → CSpec P 86 args r := onR2_ok (fun a b h => by exact (rGcd_spec hP a b h.1 h.2).conv (.rnat _)) args p r
def rParseA : List AV → Option (Prop × AV)
  | [.str s] => some ((bl s).length ≤ 8589934592 ∧ ∀ c ∈ bl s, 48 ≤ c ∧ c ≤ 57, (.opq (.rnat (valL (bl s)))))
  | _ => none
theorem rParseA_ok (hP : PrgOk P) (args p r) (h : rParseA args = some (p, r)) (hp : p) : CSpec P 63 args r := by
  unfold rParseA at h
  split at h
  · simp only [Option.some.injEq, Prod.mk.injEq] at h
    obtain ⟨rfl, rfl⟩ := h
    exact (rParse_spec hP _ hp.1 hp.2).conv (.rnat _)
  · simp at h
attribute [go_sem] rOfA rAddA rSubA rMulA rDivA rGcdA rParseA
noncomputable def Sr : Nat → List AV → Option (Prop × AV) := addS (addS (addS (addS (addS (addS (addS Sp 61 rOfA) 77 rAddA) 101 rSubA) 62 rMulA) 67 rDivA) 86 rGcdA) 63 rParseA
theorem Sr_all (hP : PrgOk P) (T) (hT : TyOk P T) : EnvOk P ⟨T, Sr⟩ := (((((((((Sp_ok hP).re hT).add (rOfA_ok hP)).add (rAddA_ok hP)).add (rSubA_ok hP)).add (rMulA_ok hP)).add (rDivA_ok hP)).add (rGcdA_ok hP)).add (rParseA_ok hP))
theorem Sr_at (f a) : Sr f a = (addS (addS (addS (addS (addS (addS (addS Sp 61 rOfA) 77 rAddA) 101 rSubA) 62 rMulA) 67 rDivA) 86 rGcdA) 63 rParseA) f a := rfl
attribute [go_sem] Sr_at
end Go.Proofs.YtjnhekedclcbfaaGreatDoor.AM
/- Whole numbers: their cells; made of a sign and a size. -/
namespace Go.Proofs.YtjnhekedclcbfaaGreatDoor.AM
set_option linter.all false
set_option autoImplicit true
set_option relaxedAutoImplicit true
open Go Go.Proofs
set_option maxRecDepth 100000
set_option maxHeartbeats 8000000
set_option linter.unusedSimpArgs false
variable {P : Program}

/-- The cells of one. -/
def wC (z : Int) : List AV := [.bool (decide (z < 0)), .opq (.nat z.natAbs), .pad]
theorem CvL.wholeIn (z : Int) {xs bs} (h : CvL xs bs) : CvL ((.agg [.opq (.whole (z)), .pad, .pad]) :: xs) (.agg (wC z) :: bs) := .agg (by simpa [Pay.open, Pay.width, wC] using CvL.unfold (.whole z) []) h
theorem CvL.wholeOut (z : Int) {xs bs} (h : CvL xs bs) : CvL (.agg (wC z) :: xs) ((.agg [.opq (.whole (z)), .pad, .pad]) :: bs) := .agg (by simpa [Pay.open, Pay.width, wC] using CvL.fold (.whole z) [] rfl) h
theorem Conv.whole (z : Int) : Conv (.agg (wC z)) (.agg [.opq (.whole (z)), .pad, .pad]) := CvL.conv (.wholeOut z .nil)
/-- A size with a sign. -/
def sg (m : Bool) (a : Nat) : Int := if m then -(a : Int) else a
theorem sg_t (a : Nat) : sg true a = -(a : Int) := rfl
theorem sg_f (a : Nat) : sg false a = (a : Int) := rfl
theorem sg_abs (m a) : (sg m a).natAbs = a := by cases m <;> simp [sg]
theorem sg_neg (m a) : decide (sg m a < 0) = (m && decide (0 < a)) := by cases m <;> simp [sg] <;> omega
theorem sg_of (z : Int) : sg (decide (z < 0)) z.natAbs = z := by
  unfold sg; by_cases h : z < 0
  · rw [decide_eq_true h]; simp; omega
  · rw [decide_eq_false h]; simp; omega
def rawW : AV → Option (Prop × Int)
  | .agg [.opq (.whole z), .pad, .pad] => some (True, z)
  | .agg [.bool m, .opq (.nat a), .pad] => some (m = true → 0 < a, sg m a)
  | _ => none
theorem rawW_atom (z : Int) : rawW (.agg [.opq (.whole (z)), .pad, .pad]) = some (True, z) := rfl
theorem rawW_raw (m a) : rawW (.agg [.bool m, .opq (.nat a), .pad]) = some (m = true → 0 < a, sg m a) := rfl
theorem rawW_cv {v : AV} {p z} (h : rawW v = some (p, z)) (hp : p) {xs bs} (k : CvL xs bs) : CvL (v :: xs) ((.agg [.opq (.whole (z)), .pad, .pad]) :: bs) := by
  unfold rawW at h
  split at h
  · simp only [Option.some.injEq, Prod.mk.injEq] at h
    obtain ⟨rfl, rfl⟩ := h
    exact .agg (.refl _) k
  · simp only [Option.some.injEq, Prod.mk.injEq] at h
    obtain ⟨rfl, rfl⟩ := h
    rename_i m a
    have e : wC (sg m a) = [.bool m, .opq (.nat a), .pad] := by
      unfold wC; rw [sg_abs, sg_neg]
      cases m
      · rfl
      · rw [decide_eq_true (hp rfl)]; rfl
    rw [← e]; exact .wholeOut _ k
  · simp at h
def onW1 (f : Int → Prop × AV) : List AV → Option (Prop × AV)
  | [x] => (rawW x).map fun a => (a.1 ∧ (f a.2).1, (f a.2).2)
  | _ => none
def onW2 (f : Int → Int → Prop × AV) : List AV → Option (Prop × AV)
  | [x, y] => (rawW x).bind fun a => (rawW y).map fun b => (a.1 ∧ b.1 ∧ (f a.2 b.2).1, (f a.2 b.2).2)
  | _ => none
theorem onW1_ok {fi : Nat} {f : Int → Prop × AV} (h : ∀ a, (f a).1 → CSpec P fi [(.agg [.opq (.whole (a)), .pad, .pad])] (f a).2) (args p r) (he : onW1 f args = some (p, r)) (hp : p) : CSpec P fi args r := by
  unfold onW1 at he
  split at he
  · simp only [Option.map_eq_some_iff, Prod.exists, Prod.mk.injEq] at he
    obtain ⟨q, a, h1, rfl, rfl⟩ := he
    exact (h a hp.2).cv (rawW_cv h1 hp.1 .nil)
  · simp at he
theorem onW2_ok {fi : Nat} {f : Int → Int → Prop × AV} (h : ∀ a b, (f a b).1 → CSpec P fi [(.agg [.opq (.whole (a)), .pad, .pad]), (.agg [.opq (.whole (b)), .pad, .pad])] (f a b).2) (args p r) (he : onW2 f args = some (p, r)) (hp : p) : CSpec P fi args r := by
  unfold onW2 at he
  split at he
  · simp only [Option.bind_eq_some_iff, Option.map_eq_some_iff, Prod.exists, Prod.mk.injEq] at he
    obtain ⟨q, a, h1, q', b, h2, rfl, rfl⟩ := he
    exact (h a b hp.2.2).cv (rawW_cv h1 hp.1 (rawW_cv h2 hp.2.1 .nil))
  · simp at he
theorem onW1_eq (f x) : onW1 f [x] = (rawW x).map fun a => (a.1 ∧ (f a.2).1, (f a.2).2) := rfl
theorem onW2_eq (f x y) : onW2 f [x, y] = (rawW x).bind fun a => (rawW y).map fun b => (a.1 ∧ b.1 ∧ (f a.2 b.2).1, (f a.2 b.2).2) := rfl
attribute [go_sem] rawW_atom rawW_raw onW1_eq onW2_eq
/-- The bits of a size. -/
abbrev wl (z : Int) : Nat := blen z.natAbs

theorem wMake_spec (hP : PrgOk P) (m : Bool) (a : Nat) (ha : blen a ≤ 68719476736) : CSpec P 60 [.bool m, (.agg [.opq (.nat (a)), .pad])] (.agg [.opq (.whole (sg m a)), .pad, .pad]) := by
  have HE := Sr_all hP T1 hP.t1
  refine CSpec.conv (r := .agg (wC (sg m a))) ?_ (.whole _)
  unfold wC
  rw [sg_abs, sg_neg]
  refine CSpec_vc (E := ⟨T1, Sr⟩) (fn60 hP) HE hP.mix rfl (by first | rfl | (simp only [go_sem]; done)) (by first | rfl | (simp only [go_sem]; done)) (Nat.le_of_ble_eq_true rfl) ?_
  cases m
  · simp (maxSteps := 1000000) only [go_sem, ha]
    exact .refl _
  · rcases Nat.eq_zero_or_pos a with h | h
    · subst h
      have hb : blen 0 = 0 := by decide
      simp (maxSteps := 1000000) only [go_sem, ha, hb]
      exact .refl _
    · have hb : 0 < blen a := by
        have : blen a ≠ 0 := by rw [Ne, blen_zero_iff]; omega
        omega
      simp (maxSteps := 1000000) only [go_sem, ha, hb, h]
      exact .refl _
def wMakeS : List AV → Option (Prop × AV)
  | [.bool m, x] => (rawN x).map fun a => (a.1 ∧ blen a.2 ≤ 68719476736, (.agg [.opq (.whole (sg m a.2)), .pad, .pad]))
  | _ => none
theorem wMakeS_eq (m x) : wMakeS [.bool m, x] = (rawN x).map fun a => (a.1 ∧ blen a.2 ≤ 68719476736, (.agg [.opq (.whole (sg m a.2)), .pad, .pad])) := rfl
theorem wMakeS_ok (hP : PrgOk P) (args p r) (he : wMakeS args = some (p, r)) (hp : p) : CSpec P 60 args r := by
  unfold wMakeS at he
  split at he
  · simp only [Option.map_eq_some_iff, Prod.exists, Prod.mk.injEq] at he
    obtain ⟨q, a, h1, rfl, rfl⟩ := he
    exact (wMake_spec hP _ a hp.2).cv (.cons rfl (rawN_cv h1 hp.1 .nil))
  · simp at he
attribute [go_sem] wMakeS_eq
end Go.Proofs.YtjnhekedclcbfaaGreatDoor.AM
/- Whole numbers: signs, order, sums. -/
namespace Go.Proofs.YtjnhekedclcbfaaGreatDoor.AM
set_option linter.all false
set_option autoImplicit true
set_option relaxedAutoImplicit true
open Go Go.Proofs
set_option maxRecDepth 100000
set_option maxHeartbeats 8000000
set_option linter.unusedSimpArgs false
variable {P : Program}

noncomputable def Wt0 : Nat → List AV → Option (Prop × AV) := addS Sr 60 wMakeS
theorem Wt0_all (hP : PrgOk P) (T) (hT : TyOk P T) : EnvOk P ⟨T, Wt0⟩ := ((Sr_all hP T hT).add (wMakeS_ok hP))
theorem Wt0_at (f a) : Wt0 f a = (addS Sr 60 wMakeS) f a := rfl
attribute [go_sem] Wt0_at
def sgnZ (z : Int) : Int := if z = 0 then 0 else if z < 0 then -1 else 1
def cmpZ (a b : Int) : Int := if a < b then -1 else if b < a then 1 else 0
theorem wl_zero {z : Int} : (wl z = 0) = (z = 0) := by
  unfold wl; rw [eq_iff_iff, blen_zero_iff]; omega
theorem wSign_spec (hP : PrgOk P) (z : Int) (h : wl z ≤ 68719476736) : CSpec P 47 [(.agg [.opq (.whole (z)), .pad, .pad])] (.int .i64 (sgnZ z)) := by
  have HE := Wt0_all hP T1 hP.t1
  refine CSpec.cv ?_ (.wholeIn z .nil)
  unfold wC
  refine CSpec_vc (E := ⟨T1, Wt0⟩) (fn47 hP) HE hP.mix rfl (by first | rfl | (simp only [go_sem]; done)) (by first | rfl | (simp only [go_sem]; done)) (Nat.le_of_ble_eq_true rfl) ?_
  unfold sgnZ
  unfold wl at h
  by_cases h0 : z = 0
  · have hb : (blen z.natAbs == 0) = true := beq_iff_eq.2 ((blen_zero_iff _).2 (by omega))
    rw [if_pos h0]
    simp (maxSteps := 1000000) only [go_sem, h, hb]
    exact .refl _
  · have hb : (blen z.natAbs == 0) = false := beq_eq_false_iff_ne.2 fun e => h0 (by have := (blen_zero_iff _).1 e; omega)
    rw [if_neg h0]
    by_cases h1 : z < 0
    · rw [if_pos h1]
      simp (maxSteps := 1000000) only [go_sem, h, hb, h1]
      exact .refl _
    · rw [if_neg h1]
      simp (maxSteps := 1000000) only [go_sem, h, hb, h1]
      exact .refl _
def wSignS : List AV → Option (Prop × AV) := onW1 fun a => (wl a ≤ 68719476736, .int .i64 (sgnZ a))
theorem wSignS_ok (hP : PrgOk P) (args p r) : wSignS args = some (p, r) → p → CSpec P 47 args r := onW1_ok (fun a h => by exact wSign_spec hP a h) args p r
attribute [go_sem] wSignS
theorem wAbs_spec (hP : PrgOk P) (z : Int) : CSpec P 50 [(.agg [.opq (.whole (z)), .pad, .pad])] (.agg [.opq (.nat (z.natAbs)), .pad]) := by
  have HE := Wt0_all hP T1 hP.t1
  refine CSpec.cv ?_ (.wholeIn z .nil)
  unfold wC
  refine CSpec_vc (E := ⟨T1, Wt0⟩) (fn50 hP) HE hP.mix rfl (by first | rfl | (simp only [go_sem]; done)) (by first | rfl | (simp only [go_sem]; done)) (Nat.le_of_ble_eq_true rfl) ?_
  simp (maxSteps := 1000000) only [go_sem]
  exact .refl _
def wAbsS : List AV → Option (Prop × AV) := onW1 fun a => (True, (.agg [.opq (.nat (a.natAbs)), .pad]))
theorem wAbsS_ok (hP : PrgOk P) (args p r) : wAbsS args = some (p, r) → p → CSpec P 50 args r := onW1_ok (fun a _ => by exact wAbs_spec hP a) args p r
attribute [go_sem] wAbsS
theorem wOf_spec (hP : PrgOk P) (n : Int) (h1 : -9223372036854775808 ≤ n) (h2 : n ≤ 9223372036854775807) : CSpec P 43 [.int .i64 n] (.agg [.opq (.whole (n)), .pad, .pad]) := by
  have HE := Wt0_all hP T1 hP.t1
  refine CSpec.conv (r := .agg (wC n)) ?_ (.whole _)
  unfold wC
  refine CSpec_vc (E := ⟨T1, Wt0⟩) (fn43 hP) HE hP.mix rfl (by first | rfl | (simp only [go_sem]; done)) (by first | rfl | (simp only [go_sem]; done)) (Nat.le_of_ble_eq_true rfl) ?_
  by_cases h : n < 0
  · have e1 : IntKind.u64.wrap n = n + 18446744073709551616 := by rw [IntKind.wrap_u64]; omega
    have e2 : IntKind.u64.wrap (0 - (n + 18446744073709551616)) = -n := by rw [IntKind.wrap_u64]; omega
    have e3 : ((0 : Int) ≤ -n) = True := eq_true (by omega)
    have e4 : (-n < 18446744073709551616) = True := eq_true (by omega)
    have e5 : (-n).toNat = n.natAbs := by omega
    simp (maxSteps := 1000000) only [go_sem, h, e1, e2, e3, e4, e5]
    exact .refl _
  · have e1 : IntKind.u64.wrap n = n := by rw [IntKind.wrap_u64]; omega
    have e3 : ((0 : Int) ≤ n) = True := eq_true (by omega)
    have e4 : (n < 18446744073709551616) = True := eq_true (by omega)
    have e5 : n.toNat = n.natAbs := by omega
    simp (maxSteps := 1000000) only [go_sem, h, e1, e3, e4, e5]
    exact .refl _
def wOfS : List AV → Option (Prop × AV)
  | [.int .i64 n] => some (-9223372036854775808 ≤ n ∧ n ≤ 9223372036854775807, (.agg [.opq (.whole (n)), .pad, .pad]))
  | _ => none
theorem wOfS_ok (hP : PrgOk P) (args p r) (h : wOfS args = some (p, r)) (hp : p) : CSpec P 43 args r := by
  unfold wOfS at h
  split at h
  · simp only [Option.some.injEq, Prod.mk.injEq] at h
    obtain ⟨rfl, rfl⟩ := h
    exact wOf_spec hP _ hp.1 hp.2
  · simp at h
attribute [go_sem] wOfS
theorem wCmp_spec (hP : PrgOk P) (a b : Int) (ha : wl a ≤ 68719476736) (hb : wl b ≤ 68719476736) : CSpec P 42 [(.agg [.opq (.whole (a)), .pad, .pad]), (.agg [.opq (.whole (b)), .pad, .pad])] (.int .i64 (cmpZ a b)) := by
  have HE := Wt0_all hP T1 hP.t1
  refine CSpec.cv ?_ (.wholeIn a (.wholeIn b .nil))
  unfold wC
  unfold wl at ha hb
  refine CSpec_vc (E := ⟨T1, Wt0⟩) (fn42 hP) HE hP.mix rfl (by first | rfl | (simp only [go_sem]; done)) (by first | rfl | (simp only [go_sem]; done)) (Nat.le_of_ble_eq_true rfl) ?_
  by_cases h1 : a < 0
  · by_cases h2 : b < 0
    · have e : cmpZ a b = cmpI b.natAbs a.natAbs := by
        unfold cmpZ cmpI; repeat' split
        all_goals omega
      simp (maxSteps := 1000000) only [go_sem, h1, h2, ha, hb]
      rw [e]; exact .refl _
    · have e : cmpZ a b = -1 := by unfold cmpZ; rw [if_pos (by omega)]
      simp (maxSteps := 1000000) only [go_sem, h1, h2, ha, hb]
      rw [e]; exact .refl _
  · by_cases h2 : b < 0
    · have e : cmpZ a b = 1 := by unfold cmpZ; rw [if_neg (by omega), if_pos (by omega)]
      simp (maxSteps := 1000000) only [go_sem, h1, h2, ha, hb]
      rw [e]; exact .refl _
    · have e : cmpZ a b = cmpI a.natAbs b.natAbs := by
        unfold cmpZ cmpI; repeat' split
        all_goals omega
      simp (maxSteps := 1000000) only [go_sem, h1, h2, ha, hb]
      rw [e]; exact .refl _
def wCmpS : List AV → Option (Prop × AV) := onW2 fun a b => (wl a ≤ 68719476736 ∧ wl b ≤ 68719476736, .int .i64 (cmpZ a b))
theorem wCmpS_ok (hP : PrgOk P) (args p r) : wCmpS args = some (p, r) → p → CSpec P 42 args r := onW2_ok (fun a b h => by exact wCmp_spec hP a b h.1 h.2) args p r
attribute [go_sem] wCmpS
theorem wNeg_spec (hP : PrgOk P) (a : Int) (ha : wl a ≤ 68719476736) : CSpec P 48 [(.agg [.opq (.whole (a)), .pad, .pad])] (.agg [.opq (.whole (-a)), .pad, .pad]) := by
  have HE := Wt0_all hP T1 hP.t1
  refine CSpec.cv ?_ (.wholeIn a .nil)
  unfold wC
  unfold wl at ha
  refine CSpec_vc (E := ⟨T1, Wt0⟩) (fn48 hP) HE hP.mix rfl (by first | rfl | (simp only [go_sem]; done)) (by first | rfl | (simp only [go_sem]; done)) (Nat.le_of_ble_eq_true rfl) ?_
  have e : sg (!decide (a < 0)) a.natAbs = -a := by
    by_cases h : a < 0
    · rw [decide_eq_true h]; simp [sg]; omega
    · rw [decide_eq_false h]; simp [sg]; omega
  simp (maxSteps := 1000000) only [go_sem, ha, e]
  exact .refl _
def wNegS : List AV → Option (Prop × AV) := onW1 fun a => (wl a ≤ 68719476736, (.agg [.opq (.whole (-a)), .pad, .pad]))
theorem wNegS_ok (hP : PrgOk P) (args p r) : wNegS args = some (p, r) → p → CSpec P 48 args r := onW1_ok (fun a h => by exact wNeg_spec hP a h) args p r
attribute [go_sem] wNegS
theorem wAdd_spec (hP : PrgOk P) (a b : Int) (ha : wl a ≤ 34359738368) (hb : wl b ≤ 34359738368) : CSpec P 70 [(.agg [.opq (.whole (a)), .pad, .pad]), (.agg [.opq (.whole (b)), .pad, .pad])] (.agg [.opq (.whole (a + b)), .pad, .pad]) := by
  have HE := Wt0_all hP T1 hP.t1
  refine CSpec.cv ?_ (.wholeIn a (.wholeIn b .nil))
  unfold wC
  unfold wl at ha hb
  have hs := Nat.le_trans (blen_add_le ha hb) (show _ ≤ 68719476736 by decide)
  have ha' := Nat.le_trans ha (show _ ≤ 68719476736 by decide)
  have hb' := Nat.le_trans hb (show _ ≤ 68719476736 by decide)
  refine CSpec_vc (E := ⟨T1, Wt0⟩) (fn70 hP) HE hP.mix rfl (by first | rfl | (simp only [go_sem]; done)) (by first | rfl | (simp only [go_sem]; done)) (Nat.le_of_ble_eq_true rfl) ?_
  by_cases h1 : a < 0
  · by_cases h2 : b < 0
    · have e : sg true (a.natAbs + b.natAbs) = a + b := by rw [sg_t]; omega
      simp (maxSteps := 1000000) only [go_sem, h1, h2, ha', hb', hs, e]
      exact .refl _
    · rcases Nat.lt_or_ge a.natAbs b.natAbs with h | h
      · have hc : cmpI a.natAbs b.natAbs = -1 := cmpI_lt h
        have hn : (b.natAbs < a.natAbs) = False := eq_false (by omega)
        have hd := Nat.le_trans (blen_mono (Nat.sub_le b.natAbs a.natAbs)) hb'
        have e : sg false (b.natAbs - a.natAbs) = a + b := by rw [sg_f]; omega
        simp (maxSteps := 1000000) only [go_sem, h1, h2, ha', hb', hc, hn, hd, e]
        exact .refl _
      · have hc : decide (cmpI a.natAbs b.natAbs < 0) = false := cmp_ge h
        have hn : (a.natAbs < b.natAbs) = False := eq_false (by omega)
        have hd := Nat.le_trans (blen_mono (Nat.sub_le a.natAbs b.natAbs)) ha'
        have e : sg true (a.natAbs - b.natAbs) = a + b := by rw [sg_t]; omega
        simp (maxSteps := 1000000) only [go_sem, h1, h2, ha', hb', hc, hn, hd, e]
        exact .refl _
  · by_cases h2 : b < 0
    · rcases Nat.lt_or_ge a.natAbs b.natAbs with h | h
      · have hc : cmpI a.natAbs b.natAbs = -1 := cmpI_lt h
        have hn : (b.natAbs < a.natAbs) = False := eq_false (by omega)
        have hd := Nat.le_trans (blen_mono (Nat.sub_le b.natAbs a.natAbs)) hb'
        have e : sg true (b.natAbs - a.natAbs) = a + b := by rw [sg_t]; omega
        simp (maxSteps := 1000000) only [go_sem, h1, h2, ha', hb', hc, hn, hd, e]
        exact .refl _
      · have hc : decide (cmpI a.natAbs b.natAbs < 0) = false := cmp_ge h
        have hn : (a.natAbs < b.natAbs) = False := eq_false (by omega)
        have hd := Nat.le_trans (blen_mono (Nat.sub_le a.natAbs b.natAbs)) ha'
        have e : sg false (a.natAbs - b.natAbs) = a + b := by rw [sg_f]; omega
        simp (maxSteps := 1000000) only [go_sem, h1, h2, ha', hb', hc, hn, hd, e]
        exact .refl _
    · have e : sg false (a.natAbs + b.natAbs) = a + b := by rw [sg_f]; omega
      simp (maxSteps := 1000000) only [go_sem, h1, h2, ha', hb', hs, e]
      exact .refl _
def wAddS : List AV → Option (Prop × AV) := onW2 fun a b => (wl a ≤ 34359738368 ∧ wl b ≤ 34359738368, (.agg [.opq (.whole (a + b)), .pad, .pad]))
theorem wAddS_ok (hP : PrgOk P) (args p r) : wAddS args = some (p, r) → p → CSpec P 70 args r := onW2_ok (fun a b h => by exact wAdd_spec hP a b h.1 h.2) args p r
attribute [go_sem] wAddS
noncomputable def Wt1 : Nat → List AV → Option (Prop × AV) := addS (addS (addS (addS (addS (addS Wt0 47 wSignS) 50 wAbsS) 43 wOfS) 42 wCmpS) 48 wNegS) 70 wAddS
theorem Wt1_all (hP : PrgOk P) (T) (hT : TyOk P T) : EnvOk P ⟨T, Wt1⟩ := (((((((Wt0_all hP T hT).add (wSignS_ok hP)).add (wAbsS_ok hP)).add (wOfS_ok hP)).add (wCmpS_ok hP)).add (wNegS_ok hP)).add (wAddS_ok hP))
theorem Wt1_at (f a) : Wt1 f a = (addS (addS (addS (addS (addS (addS Wt0 47 wSignS) 50 wAbsS) 43 wOfS) 42 wCmpS) 48 wNegS) 70 wAddS) f a := rfl
attribute [go_sem] Wt1_at
theorem wl_neg (a : Int) : wl (-a) = wl a := by unfold wl; rw [Int.natAbs_neg]
theorem wSub_spec (hP : PrgOk P) (a b : Int) (ha : wl a ≤ 34359738368) (hb : wl b ≤ 34359738368) : CSpec P 72 [(.agg [.opq (.whole (a)), .pad, .pad]), (.agg [.opq (.whole (b)), .pad, .pad])] (.agg [.opq (.whole (a - b)), .pad, .pad]) := by
  have HE := Wt1_all hP T2 hP.t2
  have hb' := Nat.le_trans hb (show _ ≤ 68719476736 by decide)
  have e : a + -b = a - b := rfl
  unfold wl at ha hb hb'
  refine CSpec_vc (E := ⟨T2, Wt1⟩) (fn72 hP) HE hP.mix rfl (by first | rfl | (simp only [go_sem]; done)) (by first | rfl | (simp only [go_sem]; done)) (Nat.le_of_ble_eq_true rfl) ?_
  simp (maxSteps := 1000000) only [go_sem, ha, hb, hb', wl, Int.natAbs_neg, e]
  exact .refl _
def wSubS : List AV → Option (Prop × AV) := onW2 fun a b => (wl a ≤ 34359738368 ∧ wl b ≤ 34359738368, (.agg [.opq (.whole (a - b)), .pad, .pad]))
theorem wSubS_ok (hP : PrgOk P) (args p r) : wSubS args = some (p, r) → p → CSpec P 72 args r := onW2_ok (fun a b h => by exact wSub_spec hP a b h.1 h.2) args p r
attribute [go_sem] wSubS
theorem sg_mul (a b : Int) : sg (!(decide (a < 0) == decide (b < 0))) (a.natAbs * b.natAbs) = a * b := by
  rw [← Int.natAbs_mul]
  have ha := sg_of a
  have hb := sg_of b
  unfold sg at *
  by_cases h1 : a < 0 <;> by_cases h2 : b < 0
  · have := Int.mul_pos_of_neg_of_neg h1 h2; simp [h1, h2]; omega
  · have := Int.mul_nonpos_of_nonpos_of_nonneg (Int.le_of_lt h1) (Int.not_lt.1 h2); simp [h1, h2]; omega
  · have := Int.mul_nonpos_of_nonneg_of_nonpos (Int.not_lt.1 h1) (Int.le_of_lt h2); simp [h1, h2]; omega
  · have := Int.mul_nonneg (Int.not_lt.1 h1) (Int.not_lt.1 h2); simp [h1, h2]; omega
theorem wMul_spec (hP : PrgOk P) (a b : Int) (ha : wl a ≤ 34359738368) (hb : wl b ≤ 34359738368) : CSpec P 73 [(.agg [.opq (.whole (a)), .pad, .pad]), (.agg [.opq (.whole (b)), .pad, .pad])] (.agg [.opq (.whole (a * b)), .pad, .pad]) := by
  have HE := Wt1_all hP T1 hP.t1
  refine CSpec.cv ?_ (.wholeIn a (.wholeIn b .nil))
  unfold wC
  unfold wl at ha hb
  have hs := Nat.le_trans (blen_mul_le ha hb) (show _ ≤ 68719476736 by decide)
  have ha' := Nat.le_trans ha (show _ ≤ 68719476736 by decide)
  have hb' := Nat.le_trans hb (show _ ≤ 68719476736 by decide)
  refine CSpec_vc (E := ⟨T1, Wt1⟩) (fn73 hP) HE hP.mix rfl (by first | rfl | (simp only [go_sem]; done)) (by first | rfl | (simp only [go_sem]; done)) (Nat.le_of_ble_eq_true rfl) ?_
  simp (maxSteps := 1000000) only [go_sem, ha', hb', hs, sg_mul]
  exact .refl _
def wMulS : List AV → Option (Prop × AV) := onW2 fun a b => (wl a ≤ 34359738368 ∧ wl b ≤ 34359738368, (.agg [.opq (.whole (a * b)), .pad, .pad]))
theorem wMulS_ok (hP : PrgOk P) (args p r) : wMulS args = some (p, r) → p → CSpec P 73 args r := onW2_ok (fun a b h => by exact wMul_spec hP a b h.1 h.2) args p r
attribute [go_sem] wMulS
end Go.Proofs.YtjnhekedclcbfaaGreatDoor.AM
/- Whole numbers: quotients, texts, machine's numbers. -/
namespace Go.Proofs.YtjnhekedclcbfaaGreatDoor.AM
set_option linter.all false
set_option autoImplicit true
set_option relaxedAutoImplicit true
open Go Go.Proofs
set_option maxRecDepth 100000
set_option maxHeartbeats 8000000
set_option linter.unusedSimpArgs false
variable {P : Program}

noncomputable def Wt2 : Nat → List AV → Option (Prop × AV) := addS (addS Wt1 72 wSubS) 73 wMulS
theorem Wt2_all (hP : PrgOk P) (T) (hT : TyOk P T) : EnvOk P ⟨T, Wt2⟩ := (((Wt1_all hP T hT).add (wSubS_ok hP)).add (wMulS_ok hP))
theorem Wt2_at (f a) : Wt2 f a = (addS (addS Wt1 72 wSubS) 73 wMulS) f a := rfl
attribute [go_sem] Wt2_at
/-- What is left, from 0 on; how often it goes. -/
def rZ (a b : Int) : Nat := if a < 0 ∧ 0 < a.natAbs % b.natAbs then b.natAbs - a.natAbs % b.natAbs else a.natAbs % b.natAbs
def qZ (a b : Int) : Int := sg (!(decide (a < 0) == decide (b < 0))) (if a < 0 ∧ 0 < a.natAbs % b.natAbs then a.natAbs / b.natAbs + 1 else a.natAbs / b.natAbs)
def wQuoS : List AV → Option (Prop × AV) := onW2 fun a b => (wl a ≤ 34359738368 ∧ wl b ≤ 34359738368, if b = 0 then .tup [(.agg [.opq (.whole (0)), .pad, .pad]), (.agg [.opq (.whole (0)), .pad, .pad]), .int .i64 11] else .tup [(.agg [.opq (.whole (qZ a b)), .pad, .pad]), (.agg [.opq (.whole ((rZ a b : Nat))), .pad, .pad]), .int .i64 0])
attribute [go_sem] wQuoS
/-- The text of a whole number. -/
def itS (z : Int) : ByteArray := if z < 0 then ⟨#[45]⟩ ++ decS z.natAbs else decS z.natAbs
theorem decS_size (a : Nat) : (decS a).size = (decL a).length := by unfold decS; rw [bytesS_size, List.length_map]
theorem wText_spec (hP : PrgOk P) (z : Int) (h : wl z ≤ 68719476736) : CSpec P 21 [(.agg [.opq (.whole (z)), .pad, .pad])] (.str (itS z)) := by
  have HE := Wt2_all hP T2 hP.t2
  refine CSpec.cv ?_ (.wholeIn z .nil)
  unfold wC
  unfold wl at h
  unfold itS
  have hl := decL_len z.natAbs
  have hs : (ByteArray.mk #[45]).size + (decS z.natAbs).size ≤ 9223372036854775807 := by
    rw [decS_size]; have : (ByteArray.mk #[45]).size = 1 := rfl
    omega
  refine CSpec_vc (E := ⟨T2, Wt2⟩) (fn21 hP) HE hP.mix rfl (by first | rfl | (simp only [go_sem]; done)) (by first | rfl | (simp only [go_sem]; done)) (Nat.le_of_ble_eq_true rfl) ?_
  by_cases h1 : z < 0
  · simp (maxSteps := 1000000) only [go_sem, h1, h]
    exact ⟨hs, .refl _⟩
  · simp (maxSteps := 1000000) only [go_sem, h1, h]
    exact .refl _
def wTextS : List AV → Option (Prop × AV) := onW1 fun a => (wl a ≤ 68719476736, .str (itS a))
theorem wTextS_ok (hP : PrgOk P) (args p r) : wTextS args = some (p, r) → p → CSpec P 21 args r := onW1_ok (fun a h => by exact wText_spec hP a h) args p r
attribute [go_sem] wTextS
/-- Does it fit into a machine's number? -/
def fitZ (z : Int) : Bool := decide (-9223372036854775808 ≤ z ∧ z ≤ 9223372036854775807)
def wInt64S : List AV → Option (Prop × AV) := onW1 fun z => (True, .tup [.int .i64 (if fitZ z = true then z else 0), .bool (fitZ z)])
attribute [go_sem] wInt64S
/-- A text read: the number, and what is wrong with it. -/
noncomputable def prD (l : List Nat) : Nat × Int := if okD l then (if l.length ≤ 256 then (valL l, 0) else (0, 3)) else (0, 12)
theorem parseR_eq (l : List Nat) : parseR l = .tup [(.agg [.opq (.nat ((prD l).1)), .pad]), .int .i64 (prD l).2] := by
  unfold prD
  by_cases h : okD l
  · by_cases h2 : l.length ≤ 256
    · rw [parse_ok h h2, if_pos h, if_pos h2]
    · rw [parse_long h (by omega), if_pos h, if_neg h2]
  · rw [parse_bad h, if_neg h]
noncomputable def parW (l : List Nat) : Int × Int := if l = [45, 48] then (0, 12) else (sg (decide (l.getD 0 0 = 45)) (prD (if l.getD 0 0 = 45 then l.drop 1 else l)).1, (prD (if l.getD 0 0 = 45 then l.drop 1 else l)).2)
theorem bl_inj {s t : ByteArray} (h : bl s = bl t) : s = t := by rw [← bytesS_bl s, ← bytesS_bl t, h]
theorem prD_zero {l : List Nat} (h : (prD l).2 ≠ 0) : (prD l).1 = 0 := by
  unfold prD at *
  by_cases h1 : okD l
  · by_cases h2 : l.length ≤ 256
    · simp [h1, h2] at h
    · simp [h1, h2]
  · simp [h1]
theorem prD_blen (l : List Nat) : blen (prD l).1 ≤ 1024 := by
  unfold prD
  split
  · split
    · exact valL_blen ‹_› ‹_›
    · decide
  · decide
theorem sg_zero (m : Bool) : sg m 0 = 0 := by cases m <;> rfl
noncomputable def wParseS : List AV → Option (Prop × AV)
  | [.str s] => some ((bl s).length ≤ 1099511627776, .tup [(.agg [.opq (.whole ((parW (bl s)).1)), .pad, .pad]), .int .i64 (parW (bl s)).2])
  | _ => none
attribute [go_sem] wParseS
noncomputable def Wt3 : Nat → List AV → Option (Prop × AV) := addS Wt2 21 wTextS
theorem Wt3_all (hP : PrgOk P) (T) (hT : TyOk P T) : EnvOk P ⟨T, Wt3⟩ := ((Wt2_all hP T hT).add (wTextS_ok hP))
theorem Wt3_at (f a) : Wt3 f a = (addS Wt2 21 wTextS) f a := rfl
attribute [go_sem] Wt3_at
end Go.Proofs.YtjnhekedclcbfaaGreatDoor.AM
/- Texts and numbers; bounds. -/
namespace Go.Proofs.YtjnhekedclcbfaaGreatDoor.AM
set_option linter.all false
set_option autoImplicit true
set_option relaxedAutoImplicit true
open Go Go.Proofs
set_option maxRecDepth 100000
set_option maxHeartbeats 8000000
set_option linter.unusedSimpArgs false
variable {P : Program}

/-! Texts and numbers. -/
theorem decS_inj2 {a b : Nat} (h : decS a = decS b) : a = b := by
  rw [← valL_decL a, ← valL_decL b, ← bl_decS, ← bl_decS, h]
theorem bl_app (s t : ByteArray) : bl (s ++ t) = bl s ++ bl t := by
  simp [bl, ByteArray.data_append]
theorem bl_itS (z : Int) : bl (itS z) = if z < 0 then 45 :: decL z.natAbs else decL z.natAbs := by
  unfold itS; split
  · rw [bl_app, bl_decS]; rfl
  · exact bl_decS _
theorem decL_head (a : Nat) : (decL a).getD 0 0 ≠ 45 := by
  have h := okD_decL a
  intro e
  have h1 := h.1
  cases hd : decL a with
  | nil => exact h1 hd
  | cons c t =>
    rw [hd] at e
    have := (h.2.2 c (by rw [hd]; simp)).1
    simp at e; omega
theorem itS_inj {a b : Int} (h : itS a = itS b) : a = b := by
  have e : bl (itS a) = bl (itS b) := by rw [h]
  rw [bl_itS, bl_itS] at e
  have hab := sg_of a
  have hbb := sg_of b
  by_cases h1 : a < 0 <;> by_cases h2 : b < 0
  · rw [if_pos h1, if_pos h2] at e
    have := congrArg valL (List.cons.inj e).2
    rw [valL_decL, valL_decL] at this; omega
  · rw [if_pos h1, if_neg h2] at e
    exact absurd (by rw [← e]; rfl) (decL_head b.natAbs)
  · rw [if_neg h1, if_pos h2] at e
    exact absurd (by rw [e]; rfl) (decL_head a.natAbs)
  · rw [if_neg h1, if_neg h2] at e
    have := congrArg valL e
    rw [valL_decL, valL_decL] at this; omega
theorem itS_eq (a b : Int) : ((itS a).toList == (itS b).toList) = decide (a = b) := by
  rw [str_same]
  exact decide_eq_decide.2 ⟨itS_inj, fun h => h ▸ rfl⟩
/-- A text that is read az a number is that number's. -/
theorem itS_val {s : ByteArray} (h : (parW (bl s)).2 = 0) : itS (parW (bl s)).1 = s := by
  unfold parW at *
  by_cases h0 : bl s = [45, 48]
  · rw [if_pos h0] at h; simp at h
  rw [if_neg h0] at h ⊢
  simp only [] at h ⊢
  have hprd : ∀ l, (prD l).2 = 0 → okD l ∧ (prD l).1 = valL l := fun l hl => by
    unfold prD at *
    by_cases h1 : okD l
    · by_cases h2 : l.length ≤ 256
      · simp [h1, h2]
      · simp [h1, h2] at hl
    · simp [h1] at hl
  apply bl_inj
  rw [bl_itS]
  by_cases hm : (bl s).getD 0 0 = 45
  · rw [if_pos hm] at h ⊢
    obtain ⟨h1, h2⟩ := hprd _ h
    rw [h2, decide_eq_true hm, sg_abs, decL_val h1]
    obtain ⟨c, t, hct⟩ : ∃ c t, bl s = c :: t := by
      cases hb : bl s with
      | nil => rw [hb] at hm; simp at hm
      | cons c t => exact ⟨c, t, rfl⟩
    have hc : c = 45 := by rw [hct] at hm; simpa using hm
    have hv : 0 < valL ((bl s).drop 1) := by
      rcases Nat.eq_zero_or_pos (valL ((bl s).drop 1)) with hz | hz
      · exfalso
        have h3 := decL_val h1
        rw [hz] at h3
        have h4 : decL 0 = [48] := rfl
        rw [h4, hct] at h3
        simp at h3
        exact h0 (by rw [hct, hc, ← h3])
      · exact hz
    have hneg : sg true (valL ((bl s).drop 1)) < 0 := by rw [sg_t]; omega
    rw [if_pos hneg, hct, hc]; rfl
  · rw [if_neg hm] at h ⊢
    obtain ⟨h1, h2⟩ := hprd _ h
    rw [h2, decide_eq_false hm, sg_abs, decL_val h1]
    have hneg : ¬ sg false (valL (bl s)) < 0 := by rw [sg_f]; omega
    rw [if_neg hneg]
/-- .. and a number's text is read az it. -/
theorem parW_itS {z : Int} (h : wl z ≤ 255) : parW (bl (itS z)) = (z, 0) := by
  rw [bl_itS]
  have hl := decL_len z.natAbs
  have hp : prD (decL z.natAbs) = (z.natAbs, 0) := by
    unfold prD
    rw [if_pos (okD_decL _), if_pos (by unfold wl at h; omega), valL_decL]
  have hz := sg_of z
  unfold parW
  by_cases h1 : z < 0
  · rw [if_pos h1]
    have hne : ¬ (45 :: decL z.natAbs) = [45, 48] := fun e => by
      have := congrArg valL (List.cons.inj e).2
      rw [valL_decL] at this
      have h2 : valL [48] = 0 := rfl
      omega
    have hh : (45 :: decL z.natAbs).getD 0 0 = 45 := rfl
    rw [if_neg hne, if_pos hh, List.drop_succ_cons, List.drop_zero, hp, decide_eq_true hh]
    rw [decide_eq_true h1] at hz; rw [hz]
  · rw [if_neg h1]
    have hh := decL_head z.natAbs
    have hne : ¬ decL z.natAbs = [45, 48] := fun e => hh (by rw [e]; rfl)
    rw [if_neg hne, if_neg hh, hp, decide_eq_false hh]
    rw [decide_eq_false h1] at hz; rw [hz]
theorem decL_bnd {a : Nat} {k : Nat} (h : a < 10 ^ k) (hk : 0 < k) : (decL a).length ≤ k := by
  unfold decL; split
  · exact hk
  · rw [List.length_reverse]; unfold dec10; rw [List.length_map]
    exact digs_length_le 10 a k (by decide) h
/-- 800 bits are at most 256 digits. -/
theorem parW_big {z : Int} (h : wl z ≤ 800) : parW (bl (itS z)) = (z, 0) := by
  rw [bl_itS]
  have hl : (decL z.natAbs).length ≤ 256 := decL_bnd (Nat.lt_of_lt_of_le ((blen_le_iff _ _).1 h) (by decide +kernel)) (by decide)
  have hp : prD (decL z.natAbs) = (z.natAbs, 0) := by
    unfold prD
    rw [if_pos (okD_decL _), if_pos hl, valL_decL]
  have hz := sg_of z
  unfold parW
  by_cases h1 : z < 0
  · rw [if_pos h1]
    have hne : ¬ (45 :: decL z.natAbs) = [45, 48] := fun e => by
      have := congrArg valL (List.cons.inj e).2
      rw [valL_decL] at this
      have h2 : valL [48] = 0 := rfl
      omega
    have hh : (45 :: decL z.natAbs).getD 0 0 = 45 := rfl
    rw [if_neg hne, if_pos hh, List.drop_succ_cons, List.drop_zero, hp, decide_eq_true hh]
    rw [decide_eq_true h1] at hz; rw [hz]
  · rw [if_neg h1]
    have hh := decL_head z.natAbs
    have hne : ¬ decL z.natAbs = [45, 48] := fun e => hh (by rw [e]; rfl)
    rw [if_neg hne, if_neg hh, hp, decide_eq_false hh]
    rw [decide_eq_false h1] at hz; rw [hz]
theorem parW_neg {d : List Nat} {n : Nat} (h : okD d) (hl : d.length ≤ 256) (hv : valL d = n) (hn : d ≠ [48]) : parW (45 :: d) = (-(n : Int), 0) := by
  unfold parW prD
  have hh : (45 :: d).getD 0 0 = 45 := rfl
  rw [if_neg (fun e => hn (List.cons.inj e).2), if_pos hh, decide_eq_true hh, List.drop_succ_cons, List.drop_zero, if_pos h, if_pos hl, hv]; rfl
theorem parW_pos {d : List Nat} {n : Nat} (h : okD d) (hl : d.length ≤ 256) (hv : valL d = n) : parW d = ((n : Int), 0) := by
  have hh : ¬ d.getD 0 0 = 45 := fun e => by
    cases d with
    | nil => exact h.1 rfl
    | cons c t => have := (h.2.2 c (by simp)).1; simp at e; omega
  unfold parW prD
  rw [if_neg (fun e => hh (by rw [e]; rfl)), if_neg hh, decide_eq_false hh, if_pos h, if_pos hl, hv]; rfl
theorem itS_of {s : ByteArray} {z : Int} (h : parW (bl s) = (z, 0)) : itS z = s := by
  have := itS_val (s := s) (by rw [h])
  rw [h] at this; exact this
theorem itS_lit {s : ByteArray} {z : Int} (h : parW (bl s) = (z, 0)) : ((itS z).toList == s.toList) = true := by rw [itS_of h]; exact beq_self_eq_true _
/-! Bounds. -/
theorem wl_add {a b : Int} {n m : Nat} (h : wl a ≤ n) (h' : wl b ≤ m) : wl (a + b) ≤ n + m + 1 := by
  unfold wl at *
  rw [blen_le_iff] at *
  have h1 : (a + b).natAbs ≤ a.natAbs + b.natAbs := Int.natAbs_add_le a b
  have e1 : 2 ^ n ≤ 2 ^ (n + m) := Nat.pow_le_pow_right (by decide) (by omega)
  have e2 : 2 ^ m ≤ 2 ^ (n + m) := Nat.pow_le_pow_right (by decide) (by omega)
  rw [Nat.pow_succ]; omega
theorem wl_sub {a b : Int} {n m : Nat} (h : wl a ≤ n) (h' : wl b ≤ m) : wl (a - b) ≤ n + m + 1 := by
  have := wl_add h (show wl (-b) ≤ m by rw [wl_neg]; exact h')
  exact this
theorem wl_mul {a b : Int} {n m : Nat} (h : wl a ≤ n) (h' : wl b ≤ m) : wl (a * b) ≤ n + m := by
  unfold wl at *
  rw [Int.natAbs_mul]; exact blen_mul_le h h'
theorem wl_neg' {a : Int} {n : Nat} (h : wl a ≤ n) : wl (-a) ≤ n := by rw [wl_neg]; exact h
theorem wl_qZ {a b : Int} {n : Nat} (h : wl a ≤ n) : wl (qZ a b) ≤ n + 1 := by
  unfold qZ wl at *
  rw [sg_abs]
  have hq := blen_le_of (Nat.div_le_self a.natAbs b.natAbs) h
  split
  · rw [blen_le_iff] at *
    have : 2 ^ n * 2 = 2 ^ (n + 1) := (Nat.pow_succ 2 n).symm
    have := Nat.one_le_two_pow (n := n)
    omega
  · omega
theorem wl_rZ {a b : Int} {n : Nat} (h : wl b ≤ n) (h0 : b ≠ 0) : wl ((rZ a b : Nat) : Int) ≤ n := by
  unfold rZ wl at *
  rw [Int.natAbs_natCast]
  have := Nat.mod_lt a.natAbs (show 0 < b.natAbs by omega)
  split
  · exact blen_le_of (Nat.sub_le _ _) h
  · exact blen_le_of (Nat.le_of_lt this) h
theorem itS_len {z : Int} {n : Nat} (h : wl z ≤ n) : (bl (itS z)).length ≤ n + 2 := by
  rw [bl_itS]
  have := decL_len z.natAbs
  unfold wl at h
  split <;> simp <;> omega

end Go.Proofs.YtjnhekedclcbfaaGreatDoor.AM
/- Fractions: plain facts. -/

namespace Go.Proofs.YtjnhekedclcbfaaGreatDoor.AM
set_option linter.all false
set_option autoImplicit true
set_option relaxedAutoImplicit true
open Go Go.Proofs
set_option maxRecDepth 100000

/-- How long a fraction's numbers are. -/
def fl (q : Rat) : Nat := max (wl q.num) (blen q.den)
theorem fl_le {q : Rat} {n : Nat} : fl q ≤ n ↔ wl q.num ≤ n ∧ blen q.den ≤ n := by unfold fl; exact Nat.max_le
theorem mk_num {z : Int} {d : Nat} (hd : 0 < d) : (mkRat z d).num = sg (decide (z < 0)) (z.natAbs / Nat.gcd z.natAbs d) := by
  rw [Rat.num_mkRat, if_neg (by omega), Nat.gcd_comm d]
  have hg : 0 < Nat.gcd z.natAbs d := Nat.gcd_pos_of_pos_right _ hd
  have e := Nat.div_mul_cancel (Nat.gcd_dvd_left z.natAbs d)
  refine Int.ediv_eq_of_eq_mul_left (by omega) ?_
  have hz := sg_of z
  by_cases h : z < 0
  · rw [decide_eq_true h, sg_t] at *
    rw [Int.neg_mul, ← Int.natCast_mul, e]; exact hz.symm
  · rw [decide_eq_false h, sg_f] at *
    rw [← Int.natCast_mul, e]; exact hz.symm
theorem mk_den {z : Int} {d : Nat} (hd : 0 < d) : (mkRat z d).den = d / Nat.gcd z.natAbs d := by
  rw [Rat.den_mkRat, if_neg (by omega), Nat.gcd_comm]
theorem mk_one (z : Int) : (mkRat z 1).num = z ∧ (mkRat z 1).den = 1 := by
  rw [mk_num (by decide), mk_den (by decide), Nat.gcd_one_right, Nat.div_one]
  exact ⟨sg_of z, rfl⟩
theorem mk_int (z : Int) : mkRat z 1 = (z : Rat) := by
  apply Rat.ext
  · rw [(mk_one z).1]; rfl
  · rw [(mk_one z).2]; rfl
theorem fl_mk {z : Int} {d n : Nat} (hz : wl z ≤ n) (hd : blen d ≤ n) (h0 : 0 < d) : fl (mkRat z d) ≤ n := by
  rw [fl_le, mk_num h0, mk_den h0]
  refine ⟨?_, blen_le_of (Nat.div_le_self _ _) hd⟩
  unfold wl; rw [sg_abs]; exact blen_le_of (Nat.div_le_self _ _) hz
theorem den_pos (q : Rat) : 0 < q.den := q.den_pos
theorem den_eq (q : Rat) : q.den - 1 + 1 = q.den := by have := q.den_pos; omega
theorem q_self (q : Rat) : mkRat q.num q.den = q := Rat.mkRat_self q
theorem q_gcd (q : Rat) : Nat.gcd q.num.natAbs q.den = 1 := q.reduced
theorem add_mk (a b : Rat) : a + b = mkRat (a.num * b.den + b.num * a.den) (a.den * b.den) := by rw [Rat.add_def, Rat.normalize_eq_mkRat]
theorem sub_mk (a b : Rat) : a - b = mkRat (a.num * b.den - b.num * a.den) (a.den * b.den) := by rw [Rat.sub_def, Rat.normalize_eq_mkRat]
theorem mul_mk (a b : Rat) : a * b = mkRat (a.num * b.num) (a.den * b.den) := by rw [Rat.mul_def, Rat.normalize_eq_mkRat]
theorem neg_nd (a : Rat) : (-a).num = -a.num ∧ (-a).den = a.den := ⟨rfl, rfl⟩
/-- Divided: by the sign and the size of the numerator. -/
theorem div_mk {a b : Rat} (hb : b.num ≠ 0) : a / b = mkRat (a.num * sgnZ b.num * b.den) (a.den * b.num.natAbs) := by
  have hb0 : b ≠ 0 := fun h => hb (by rw [h]; rfl)
  have hd : a.den * b.num.natAbs ≠ 0 := Nat.mul_ne_zero a.den_nz (by omega)
  have e : a / b * b = a := Rat.div_mul_cancel hb0
  have key : mkRat (a.num * sgnZ b.num * b.den) (a.den * b.num.natAbs) * b = a := by
    have hs : sgnZ b.num * b.num = (b.num.natAbs : Int) := by
      rcases Int.lt_trichotomy b.num 0 with h | h | h
      · rw [show sgnZ b.num = -1 by unfold sgnZ; rw [if_neg (by omega), if_pos h]]; omega
      · exact absurd h hb
      · rw [show sgnZ b.num = 1 by unfold sgnZ; rw [if_neg (by omega), if_neg (by omega)]]; omega
    conv => lhs; rhs; rw [← q_self b]
    conv => rhs; rw [← q_self a]
    rw [Rat.mkRat_mul_mkRat, Rat.mkRat_eq_iff (Nat.mul_ne_zero hd b.den_nz) a.den_nz]
    have : a.num * sgnZ b.num * ↑b.den * b.num * (a.den : Int) = a.num * (sgnZ b.num * b.num) * ↑b.den * ↑a.den := by grind
    rw [this, hs, Int.natCast_mul, Int.natCast_mul]; grind
  have h2 : a / b * b = mkRat (a.num * sgnZ b.num * b.den) (a.den * b.num.natAbs) * b := by rw [e, key]
  generalize mkRat (a.num * sgnZ b.num * b.den) (a.den * b.num.natAbs) = c at *
  generalize a / b = d at *
  have h3 : (d - c) * b = 0 := by grind
  rcases Rat.mul_eq_zero.1 h3 with h | h
  · grind
  · exact absurd h hb0
def cmpQ (a b : Rat) : Int := if a < b then -1 else if b < a then 1 else 0
theorem cmpQ_mk (a b : Rat) : cmpQ a b = cmpZ (a.num * b.den) (b.num * a.den) := by
  unfold cmpQ cmpZ
  simp only [Rat.lt_iff]
theorem sgn_cmp (q : Rat) : sgnZ q.num = cmpQ q 0 := by
  rw [cmpQ_mk]
  show _ = cmpZ (q.num * 1) (0 * q.den)
  rw [Int.mul_one, Int.zero_mul]
  unfold sgnZ cmpZ; repeat' split
  all_goals first | rfl | omega
theorem cmpQ_sub (a b : Rat) : sgnZ (a - b).num = cmpQ a b := by
  rw [sgn_cmp]; unfold cmpQ
  by_cases h1 : a < b
  · rw [if_pos h1, if_pos (by grind)]
  · rw [if_neg h1, if_neg (by grind)]
    by_cases h2 : b < a
    · rw [if_pos h2, if_pos (by grind)]
    · rw [if_neg h2, if_neg (by grind)]
theorem num_zero {q : Rat} : q.num = 0 ↔ q = 0 := Rat.num_eq_zero
theorem wl_add2 {a b : Int} {n : Nat} (h : wl a ≤ n) (h' : wl b ≤ n) : wl (a + b) ≤ n + 1 := by
  unfold wl at *
  rw [blen_le_iff] at *
  have h1 : (a + b).natAbs ≤ a.natAbs + b.natAbs := Int.natAbs_add_le a b
  rw [Nat.pow_succ]; omega
theorem fl_add {a b : Rat} {n m : Nat} (h : fl a ≤ n) (h' : fl b ≤ m) : fl (a + b) ≤ n + m + 1 := by
  rw [fl_le] at h h'
  rw [add_mk]
  refine fl_mk ?_ ?_ (Nat.mul_pos a.den_pos b.den_pos)
  · have h1 := wl_mul h.1 (show wl (b.den : Int) ≤ m from h'.2)
    have h2 := wl_mul h'.1 (show wl (a.den : Int) ≤ n from h.2)
    exact wl_add2 h1 (Nat.le_trans h2 (by omega))
  · exact Nat.le_trans (blen_mul_le h.2 h'.2) (by omega)
theorem fl_neg {a : Rat} {n : Nat} (h : fl a ≤ n) : fl (-a) ≤ n := by
  rw [fl_le] at *
  exact ⟨by rw [(neg_nd a).1, wl_neg]; exact h.1, h.2⟩
theorem fl_sub {a b : Rat} {n m : Nat} (h : fl a ≤ n) (h' : fl b ≤ m) : fl (a - b) ≤ n + m + 1 := by
  rw [Rat.sub_eq_add_neg]; exact fl_add h (fl_neg h')
theorem fl_mul {a b : Rat} {n m : Nat} (h : fl a ≤ n) (h' : fl b ≤ m) : fl (a * b) ≤ n + m := by
  rw [fl_le] at h h'
  rw [mul_mk]
  exact fl_mk (wl_mul h.1 h'.1) (blen_mul_le h.2 h'.2) (Nat.mul_pos a.den_pos b.den_pos)
theorem wl_sgn (z : Int) : wl (sgnZ z) ≤ 1 := by
  unfold sgnZ
  split
  · exact Nat.le_of_ble_eq_true rfl
  · split <;> exact Nat.le_of_ble_eq_true rfl
theorem fl_div {a b : Rat} {n m : Nat} (h : fl a ≤ n) (h' : fl b ≤ m) : fl (a / b) ≤ n + m + 1 := by
  rw [fl_le] at h h'
  by_cases hb : b.num = 0
  · rw [num_zero.1 hb, Rat.div_def, Rat.inv_zero, Rat.mul_zero]
    exact fl_le.2 ⟨Nat.le_trans (Nat.le_of_ble_eq_true rfl : wl (0 : Rat).num ≤ 0) (by omega), Nat.le_trans (Nat.le_of_ble_eq_true rfl : blen (0 : Rat).den ≤ 1) (by omega)⟩
  · rw [div_mk hb]
    refine fl_mk ?_ ?_ (Nat.mul_pos a.den_pos (by omega))
    · exact Nat.le_trans (wl_mul (wl_mul h.1 (wl_sgn _)) (show wl (b.den : Int) ≤ m from h'.2)) (by omega)
    · exact Nat.le_trans (blen_mul_le h.2 h'.1) (by omega)
theorem fl_int {z : Int} {n : Nat} (h : wl z ≤ n) (hn : 1 ≤ n) : fl (z : Rat) ≤ n := fl_le.2 ⟨h, Nat.le_trans (Nat.le_of_ble_eq_true rfl : blen 1 ≤ 1) hn⟩

/-- Sums and the like, such that nothing unfolds them. -/
theorem qo_ex : ∃ x : (Rat → Rat → Rat) × (Rat → Rat → Rat) × (Rat → Rat → Rat) × (Rat → Rat → Rat) × (Int → Nat → Rat) × (Rat → Rat), x = ((· + ·), (· - ·), (· * ·), (· / ·), mkRat, (- ·)) := ⟨_, rfl⟩
noncomputable def qo : (Rat → Rat → Rat) × (Rat → Rat → Rat) × (Rat → Rat → Rat) × (Rat → Rat → Rat) × (Int → Nat → Rat) × (Rat → Rat) := Classical.choose qo_ex
theorem qo_eq : qo = ((· + ·), (· - ·), (· * ·), (· / ·), mkRat, (- ·)) := Classical.choose_spec qo_ex
noncomputable def qadd (a b : Rat) : Rat := qo.1 a b
noncomputable def qsub (a b : Rat) : Rat := qo.2.1 a b
noncomputable def qmul (a b : Rat) : Rat := qo.2.2.1 a b
noncomputable def qdiv (a b : Rat) : Rat := qo.2.2.2.1 a b
noncomputable def qlow (z : Int) (d : Nat) : Rat := qo.2.2.2.2.1 z d
noncomputable def qneg (a : Rat) : Rat := qo.2.2.2.2.2 a
theorem qadd_eq (a b) : qadd a b = a + b := by unfold qadd; rw [qo_eq]
theorem qsub_eq (a b) : qsub a b = a - b := by unfold qsub; rw [qo_eq]
theorem qmul_eq (a b) : qmul a b = a * b := by unfold qmul; rw [qo_eq]
theorem qdiv_eq (a b) : qdiv a b = a / b := by unfold qdiv; rw [qo_eq]
theorem qlow_eq (z d) : qlow z d = mkRat z d := by unfold qlow; rw [qo_eq]
theorem qneg_eq (a) : qneg a = -a := by unfold qneg; rw [qo_eq]
theorem fl_qadd {a b : Rat} {n m : Nat} (h : fl a ≤ n) (h' : fl b ≤ m) : fl (qadd a b) ≤ n + m + 1 := qadd_eq a b ▸ fl_add h h'
theorem fl_qsub {a b : Rat} {n m : Nat} (h : fl a ≤ n) (h' : fl b ≤ m) : fl (qsub a b) ≤ n + m + 1 := qsub_eq a b ▸ fl_sub h h'
theorem fl_qmul {a b : Rat} {n m : Nat} (h : fl a ≤ n) (h' : fl b ≤ m) : fl (qmul a b) ≤ n + m := qmul_eq a b ▸ fl_mul h h'
theorem fl_qdiv {a b : Rat} {n m : Nat} (h : fl a ≤ n) (h' : fl b ≤ m) : fl (qdiv a b) ≤ n + m + 1 := qdiv_eq a b ▸ fl_div h h'
theorem fl_qneg {a : Rat} {n : Nat} (h : fl a ≤ n) : fl (qneg a) ≤ n := qneg_eq a ▸ fl_neg h

/-- The text of a fraction. -/
def qtS (q : Rat) : ByteArray := if q.den = 1 then itS q.num else itS q.num ++ ⟨#[47]⟩ ++ decS q.den
end Go.Proofs.YtjnhekedclcbfaaGreatDoor.AM
/- Fractions: their cells; in lowest terms. -/
namespace Go.Proofs.YtjnhekedclcbfaaGreatDoor.AM
set_option linter.all false
set_option autoImplicit true
set_option relaxedAutoImplicit true
open Go Go.Proofs
set_option maxRecDepth 100000
set_option maxHeartbeats 8000000
set_option linter.unusedSimpArgs false
variable {P : Program}

/-- The cells of one. -/
def fC (q : Rat) : List AV := [.opq (.whole q.num), .pad, .pad, .opq (.nat (q.den - 1)), .pad]
theorem CvL.fracIn (q : Rat) {xs bs} (h : CvL xs bs) : CvL ((.agg [.opq (.frac (q)), .pad, .pad, .pad, .pad]) :: xs) (.agg (fC q) :: bs) := .agg (by simpa [Pay.open, Pay.width, fC] using CvL.unfold (.frac q) []) h
theorem CvL.fracOut (q : Rat) {xs bs} (h : CvL xs bs) : CvL (.agg (fC q) :: xs) ((.agg [.opq (.frac (q)), .pad, .pad, .pad, .pad]) :: bs) := .agg (by simpa [Pay.open, Pay.width, fC] using CvL.fold (.frac q) [] rfl) h
theorem Conv.frac (q : Rat) : Conv (.agg (fC q)) (.agg [.opq (.frac (q)), .pad, .pad, .pad, .pad]) := CvL.conv (.fracOut q .nil)
noncomputable def rawF : AV → Option (Prop × Rat)
  | .agg [.opq (.frac q), .pad, .pad, .pad, .pad] => some (True, q)
  | .agg [.opq (.whole z), .pad, .pad, .opq (.nat l), .pad] => some (Nat.gcd z.natAbs (l + 1) = 1, qlow z (l + 1))
  | _ => none
theorem rawF_atom (q : Rat) : rawF (.agg [.opq (.frac (q)), .pad, .pad, .pad, .pad]) = some (True, q) := rfl
theorem rawF_raw (z l) : rawF (.agg [.opq (.whole z), .pad, .pad, .opq (.nat l), .pad]) = some (Nat.gcd z.natAbs (l + 1) = 1, qlow z (l + 1)) := rfl
theorem q_self' (q : Rat) : qlow q.num (q.den - 1 + 1) = q := by rw [den_eq, qlow_eq]; exact q_self q
theorem q_gcd' (q : Rat) : (Nat.gcd q.num.natAbs (q.den - 1 + 1) = 1) = True := by rw [den_eq]; exact eq_true (q_gcd q)
theorem fC_mk {z : Int} {d : Nat} (hd : 0 < d) (h : Nat.gcd z.natAbs d = 1) : fC (mkRat z d) = [.opq (.whole z), .pad, .pad, .opq (.nat (d - 1)), .pad] := by
  unfold fC
  rw [mk_num hd, mk_den hd, h, Nat.div_one, Nat.div_one, sg_of]
theorem rawF_cv {v : AV} {p q} (h : rawF v = some (p, q)) (hp : p) {xs bs} (k : CvL xs bs) : CvL (v :: xs) ((.agg [.opq (.frac (q)), .pad, .pad, .pad, .pad]) :: bs) := by
  unfold rawF at h
  split at h
  · simp only [Option.some.injEq, Prod.mk.injEq] at h
    obtain ⟨rfl, rfl⟩ := h
    exact .agg (.refl _) k
  · simp only [Option.some.injEq, Prod.mk.injEq] at h
    obtain ⟨rfl, rfl⟩ := h
    rename_i z l
    have e : fC (mkRat z (l + 1)) = [.opq (.whole z), .pad, .pad, .opq (.nat l), .pad] := fC_mk (by omega) hp
    rw [← e, qlow_eq]; exact .fracOut _ k
  · simp at h
noncomputable def onF1 (f : Rat → Prop × AV) : List AV → Option (Prop × AV)
  | [x] => (rawF x).map fun a => (a.1 ∧ (f a.2).1, (f a.2).2)
  | _ => none
noncomputable def onF2 (f : Rat → Rat → Prop × AV) : List AV → Option (Prop × AV)
  | [x, y] => (rawF x).bind fun a => (rawF y).map fun b => (a.1 ∧ b.1 ∧ (f a.2 b.2).1, (f a.2 b.2).2)
  | _ => none
theorem onF1_ok {fi : Nat} {f : Rat → Prop × AV} (h : ∀ a, (f a).1 → CSpec P fi [(.agg [.opq (.frac (a)), .pad, .pad, .pad, .pad])] (f a).2) (args p r) (he : onF1 f args = some (p, r)) (hp : p) : CSpec P fi args r := by
  unfold onF1 at he
  split at he
  · simp only [Option.map_eq_some_iff, Prod.exists, Prod.mk.injEq] at he
    obtain ⟨q, a, h1, rfl, rfl⟩ := he
    exact (h a hp.2).cv (rawF_cv h1 hp.1 .nil)
  · simp at he
theorem onF2_ok {fi : Nat} {f : Rat → Rat → Prop × AV} (h : ∀ a b, (f a b).1 → CSpec P fi [(.agg [.opq (.frac (a)), .pad, .pad, .pad, .pad]), (.agg [.opq (.frac (b)), .pad, .pad, .pad, .pad])] (f a b).2) (args p r) (he : onF2 f args = some (p, r)) (hp : p) : CSpec P fi args r := by
  unfold onF2 at he
  split at he
  · simp only [Option.bind_eq_some_iff, Option.map_eq_some_iff, Prod.exists, Prod.mk.injEq] at he
    obtain ⟨q, a, h1, q', b, h2, rfl, rfl⟩ := he
    exact (h a b hp.2.2).cv (rawF_cv h1 hp.1 (rawF_cv h2 hp.2.1 .nil))
  · simp at he
theorem onF1_eq (f x) : onF1 f [x] = (rawF x).map fun a => (a.1 ∧ (f a.2).1, (f a.2).2) := rfl
theorem onF2_eq (f x y) : onF2 f [x, y] = (rawF x).bind fun a => (rawF y).map fun b => (a.1 ∧ b.1 ∧ (f a.2 b.2).1, (f a.2 b.2).2) := rfl
attribute [go_sem] rawF_atom rawF_raw onF1_eq onF2_eq q_self' q_gcd'
abbrev FB : Nat := 1073741824

theorem one_spec (hP : PrgOk P) : CSpec P 57 [] (.agg [.opq (.nat (1)), .pad]) := by
  have HE := Wt3_all hP T2 hP.t2
  have h1 : (1 : Int).toNat = 1 := rfl
  refine CSpec_vc (E := ⟨T2, Wt3⟩) (fn57 hP) HE hP.mix rfl (by first | rfl | (simp only [go_sem]; done)) (by first | rfl | (simp only [go_sem]; done)) (Nat.le_of_ble_eq_true rfl) ?_
  simp (maxSteps := 1000000) only [go_sem, h1]
  (repeat' (first | exact Conv.refl _ | refine And.intro ?_ ?_)) <;> first | omega | decide
def oneS : List AV → Option (Prop × AV)
  | [] => some (True, (.agg [.opq (.nat (1)), .pad]))
  | _ => none
theorem oneS_ok (hP : PrgOk P) (args p r) (h : oneS args = some (p, r)) (hp : p) : CSpec P 57 args r := by
  unfold oneS at h
  split at h
  · simp only [Option.some.injEq, Prod.mk.injEq] at h
    obtain ⟨rfl, rfl⟩ := h
    exact one_spec hP
  · simp at h
attribute [go_sem] oneS
theorem part_spec (hP : PrgOk P) (x g : Nat) (hx : blen x ≤ 68719476736) (hg : blen g ≤ 34359738368) (h0 : 0 < g) : CSpec P 83 [(.agg [.opq (.nat (x)), .pad]), .fref [.opq (.nat g), .pad]] (.agg [.opq (.nat (x / g)), .pad]) := by
  have HE := Wt3_all hP T2 hP.t2
  have hz : (g = 0) = False := eq_false (by omega)
  refine CSpec_vc (E := ⟨T2, Wt3⟩) (fn83 hP) HE hP.mix rfl (by first | rfl | (simp only [go_sem]; done)) (by first | rfl | (simp only [go_sem]; done)) (Nat.le_of_ble_eq_true rfl) ?_
  simp (maxSteps := 1000000) only [go_sem, hx, hg, hz]
  (repeat' (first | exact Conv.refl _ | refine And.intro ?_ ?_)) <;> first | omega | decide
def partS : List AV → Option (Prop × AV)
  | [x, .fref [.opq (.nat g), .pad]] => (rawN x).map fun a => (a.1 ∧ blen a.2 ≤ 68719476736 ∧ blen g ≤ 34359738368 ∧ 0 < g, (.agg [.opq (.nat (a.2 / g)), .pad]))
  | _ => none
theorem partS_eq (x g) : partS [x, .fref [.opq (.nat g), .pad]] = (rawN x).map fun a => (a.1 ∧ blen a.2 ≤ 68719476736 ∧ blen g ≤ 34359738368 ∧ 0 < g, (.agg [.opq (.nat (a.2 / g)), .pad])) := rfl
theorem partS_ok (hP : PrgOk P) (args p r) (he : partS args = some (p, r)) (hp : p) : CSpec P 83 args r := by
  unfold partS at he
  split at he
  · simp only [Option.map_eq_some_iff, Prod.exists, Prod.mk.injEq] at he
    obtain ⟨q, a, h1, rfl, rfl⟩ := he
    exact (part_spec hP a _ hp.2.1 hp.2.2.1 hp.2.2.2).cv (rawN_cv h1 hp.1 (.refl _))
  · simp at he
attribute [go_sem] partS_eq
noncomputable def Ft0 : Nat → List AV → Option (Prop × AV) := addS (addS Wt3 57 oneS) 83 partS
theorem Ft0_all (hP : PrgOk P) (T) (hT : TyOk P T) : EnvOk P ⟨T, Ft0⟩ := (((Wt3_all hP T hT).add (oneS_ok hP)).add (partS_ok hP))
theorem Ft0_at (f a) : Ft0 f a = (addS (addS Wt3 57 oneS) 83 partS) f a := rfl
attribute [go_sem] Ft0_at
theorem fr_live2 (cs) : (AObj.live cs).freeze = .ro cs := rfl
theorem fr_ro (cs) : (AObj.ro cs).freeze = .ro cs := rfl
attribute [go_sem] fr_live2 fr_ro
theorem sgn_neg (z : Int) : (sgnZ z < 0) = (z < 0) := by
  unfold sgnZ; rw [eq_iff_iff]; split
  · omega
  · split <;> omega
theorem blen_one_iff (d : Nat) : blen d = 1 ↔ d = 1 := by
  constructor
  · intro h
    have h1 : d < 2 ^ 1 := (blen_le_iff d 1).1 (by omega)
    have h2 : d ≠ 0 := fun e => by rw [e] at h; exact absurd h (by decide)
    omega
  · intro h; rw [h]; decide
theorem blen_two {d : Nat} (h0 : 0 < d) (h : d ≠ 1) : 1 < blen d := by
  have h1 : blen d ≠ 0 := by rw [Ne, blen_zero_iff]; omega
  have h2 := mt (blen_one_iff d).1 h
  omega
theorem low_spec (hP : PrgOk P) (z : Int) (d : Nat) (hz : wl z ≤ 34359738368) (hd : blen d ≤ 34359738368) (h0 : 0 < d) : CSpec P 49 [(.agg [.opq (.whole (z)), .pad, .pad]), (.agg [.opq (.nat (d)), .pad])] (.agg [.opq (.frac (qlow z d)), .pad, .pad, .pad, .pad]) := by
  have HE := Ft0_all hP T2 hP.t2
  rw [qlow_eq]
  refine CSpec.conv (r := .agg (fC (mkRat z d))) ?_ (.frac _)
  have hz' := Nat.le_trans hz (show _ ≤ 68719476736 by decide)
  have hd' := Nat.le_trans hd (show _ ≤ 68719476736 by decide)
  refine CSpec_vc (E := ⟨T2, Ft0⟩) (fn49 hP) HE hP.mix rfl (by first | rfl | (simp only [go_sem]; done)) (by first | rfl | (simp only [go_sem]; done)) (Nat.le_of_ble_eq_true rfl) ?_
  by_cases h1 : d = 1
  · subst h1
    have hb : (blen 1 == 1) = true := by decide
    rw [fC_mk (by decide) (Nat.gcd_one_right _)]
    simp (maxSteps := 1000000) only [go_sem, hz', hd', hb]
    (repeat' (first | exact Conv.refl _ | refine And.intro ?_ ?_)) <;> first | omega | decide
  · have hb : (blen d == 1) = false := beq_eq_false_iff_ne.2 (mt (blen_one_iff d).1 h1)
    have hg0 : 0 < Nat.gcd z.natAbs d := Nat.gcd_pos_of_pos_right _ h0
    have hgb : blen (Nat.gcd z.natAbs d) ≤ 34359738368 := gcd_blen hz hd
    have hgb' := Nat.le_trans hgb (show _ ≤ 68719476736 by decide)
    by_cases h2 : Nat.gcd z.natAbs d = 1
    · have hb2 : (1 < blen 1) = False := eq_false (by decide)
      have hlt : (d < 1) = False := eq_false (by omega)
      rw [fC_mk h0 h2]
      simp (maxSteps := 1000000) only [go_sem, hz, hd, hz', hd', hb, h2, hb2, hlt]
      (repeat' (first | exact Conv.refl _ | refine And.intro ?_ ?_)) <;> first | omega | decide
    · have hb2 : (1 < blen (Nat.gcd z.natAbs d)) = True := eq_true (blen_two hg0 h2)
      have hgz : (Nat.gcd z.natAbs d = 0) = False := eq_false (by omega)
      have hq1 := blen_le_of (Nat.div_le_self z.natAbs (Nat.gcd z.natAbs d)) hz'
      have hq2 := blen_le_of (Nat.div_le_self d (Nat.gcd z.natAbs d)) hd'
      have hdg : 0 < d / Nat.gcd z.natAbs d := Nat.div_pos (Nat.le_of_dvd h0 (Nat.gcd_dvd_right _ _)) hg0
      have hlt : (d / Nat.gcd z.natAbs d < 1) = False := eq_false (by omega)
      have e : fC (mkRat z d) = [.opq (.whole (sg (decide (z < 0)) (z.natAbs / Nat.gcd z.natAbs d))), .pad, .pad, .opq (.nat (d / Nat.gcd z.natAbs d - 1)), .pad] := by
        unfold fC; rw [mk_num h0, mk_den h0]
      rw [e]
      simp (maxSteps := 1000000) only [go_sem, hz, hd, hz', hd', hb, hb2, hgb, hgb', sgn_neg, hg0, hq1, hq2, hlt]
      (repeat' (first | exact Conv.refl _ | refine And.intro ?_ ?_)) <;> first | omega | decide
noncomputable def lowS : List AV → Option (Prop × AV)
  | [x, y] => (rawW x).bind fun z => (rawN y).map fun d => (z.1 ∧ d.1 ∧ wl z.2 ≤ 34359738368 ∧ blen d.2 ≤ 34359738368 ∧ 0 < d.2, (.agg [.opq (.frac (qlow z.2 d.2)), .pad, .pad, .pad, .pad]))
  | _ => none
theorem lowS_eq (x y) : lowS [x, y] = (rawW x).bind fun z => (rawN y).map fun d => (z.1 ∧ d.1 ∧ wl z.2 ≤ 34359738368 ∧ blen d.2 ≤ 34359738368 ∧ 0 < d.2, (.agg [.opq (.frac (qlow z.2 d.2)), .pad, .pad, .pad, .pad])) := rfl
theorem lowS_ok (hP : PrgOk P) (args p r) (he : lowS args = some (p, r)) (hp : p) : CSpec P 49 args r := by
  unfold lowS at he
  split at he
  · simp only [Option.bind_eq_some_iff, Option.map_eq_some_iff, Prod.exists, Prod.mk.injEq] at he
    obtain ⟨q, a, h1, q', b, h2, rfl, rfl⟩ := he
    exact (low_spec hP a b hp.2.2.1 hp.2.2.2.1 hp.2.2.2.2).cv (rawW_cv h1 hp.1 (rawN_cv h2 hp.2.1 .nil))
  · simp at he
attribute [go_sem] lowS_eq
theorem fDen_spec (hP : PrgOk P) (q : Rat) (h : blen q.den ≤ 34359738368) : CSpec P 23 [(.agg [.opq (.frac (q)), .pad, .pad, .pad, .pad])] (.agg [.opq (.nat (q.den)), .pad]) := by
  have HE := Ft0_all hP T2 hP.t2
  refine CSpec.cv ?_ (.fracIn q .nil)
  have hl : blen (q.den - 1) ≤ 68719476736 := blen_le_of (Nat.sub_le _ _) (Nat.le_trans h (by decide))
  have h1 : blen 1 ≤ 68719476736 := by decide
  have e := den_eq q
  unfold fC
  refine CSpec_vc (E := ⟨T2, Ft0⟩) (fn23 hP) HE hP.mix rfl (by first | rfl | (simp only [go_sem]; done)) (by first | rfl | (simp only [go_sem]; done)) (Nat.le_of_ble_eq_true rfl) ?_
  simp (maxSteps := 1000000) only [go_sem, hl, h1, e]
  (repeat' (first | exact Conv.refl _ | refine And.intro ?_ ?_)) <;> first | omega | decide
noncomputable def fDenS : List AV → Option (Prop × AV) := onF1 fun q => (blen q.den ≤ 34359738368, (.agg [.opq (.nat (q.den)), .pad]))
theorem fDenS_ok (hP : PrgOk P) (args p r) : fDenS args = some (p, r) → p → CSpec P 23 args r := onF1_ok (fun a h => by exact fDen_spec hP a h) args p r
theorem fNum_spec (hP : PrgOk P) (q : Rat) : CSpec P 12 [(.agg [.opq (.frac (q)), .pad, .pad, .pad, .pad])] (.agg [.opq (.whole (q.num)), .pad, .pad]) := by
  have HE := Ft0_all hP T2 hP.t2
  refine CSpec.cv ?_ (.fracIn q .nil)
  unfold fC
  refine CSpec_vc (E := ⟨T2, Ft0⟩) (fn12 hP) HE hP.mix rfl (by first | rfl | (simp only [go_sem]; done)) (by first | rfl | (simp only [go_sem]; done)) (Nat.le_of_ble_eq_true rfl) ?_
  simp (maxSteps := 1000000) only [go_sem]
  (repeat' (first | exact Conv.refl _ | refine And.intro ?_ ?_)) <;> first | omega | decide
noncomputable def fNumS : List AV → Option (Prop × AV) := onF1 fun q => (True, (.agg [.opq (.whole (q.num)), .pad, .pad]))
theorem fNumS_ok (hP : PrgOk P) (args p r) : fNumS args = some (p, r) → p → CSpec P 12 args r := onF1_ok (fun a _ => by exact fNum_spec hP a) args p r
theorem fSign_spec (hP : PrgOk P) (q : Rat) (h : wl q.num ≤ 68719476736) : CSpec P 26 [(.agg [.opq (.frac (q)), .pad, .pad, .pad, .pad])] (.int .i64 (cmpQ q 0)) := by
  have HE := Ft0_all hP T2 hP.t2
  refine CSpec.cv ?_ (.fracIn q .nil)
  rw [← sgn_cmp]
  unfold fC
  refine CSpec_vc (E := ⟨T2, Ft0⟩) (fn26 hP) HE hP.mix rfl (by first | rfl | (simp only [go_sem]; done)) (by first | rfl | (simp only [go_sem]; done)) (Nat.le_of_ble_eq_true rfl) ?_
  simp (maxSteps := 1000000) only [go_sem, h]
  (repeat' (first | exact Conv.refl _ | refine And.intro ?_ ?_)) <;> first | omega | decide
noncomputable def fSignS : List AV → Option (Prop × AV) := onF1 fun q => (wl q.num ≤ 68719476736, .int .i64 (cmpQ q 0))
theorem fSignS_ok (hP : PrgOk P) (args p r) : fSignS args = some (p, r) → p → CSpec P 26 args r := onF1_ok (fun a h => by exact fSign_spec hP a h) args p r
theorem ent_spec (hP : PrgOk P) (q : Rat) (h : blen q.den ≤ 34359738368) : CSpec P 74 [(.agg [.opq (.frac (q)), .pad, .pad, .pad, .pad])] (.bool (decide (q.den = 1))) := by
  have HE := Ft0_all hP T2 hP.t2
  refine CSpec.cv ?_ (.fracIn q .nil)
  have hl : blen (q.den - 1) ≤ 68719476736 := blen_le_of (Nat.sub_le _ _) (Nat.le_trans h (by decide))
  have hp := q.den_pos
  have e : (blen (q.den - 1) == 0) = decide (q.den = 1) := by
    rw [Bool.eq_iff_iff]; simp only [beq_iff_eq, decide_eq_true_eq, blen_zero_iff]; omega
  unfold fC
  refine CSpec_vc (E := ⟨T2, Ft0⟩) (fn74 hP) HE hP.mix rfl (by first | rfl | (simp only [go_sem]; done)) (by first | rfl | (simp only [go_sem]; done)) (Nat.le_of_ble_eq_true rfl) ?_
  simp (maxSteps := 1000000) only [go_sem, hl, e]
  (repeat' (first | exact Conv.refl _ | refine And.intro ?_ ?_)) <;> first | omega | decide
noncomputable def entS : List AV → Option (Prop × AV) := onF1 fun q => (blen q.den ≤ 34359738368, .bool (decide (q.den = 1)))
theorem entS_ok (hP : PrgOk P) (args p r) : entS args = some (p, r) → p → CSpec P 74 args r := onF1_ok (fun a h => by exact ent_spec hP a h) args p r
theorem by_spec (hP : PrgOk P) (z : Int) (d : Nat) (hz : wl z ≤ 34359738368) (hd : blen d ≤ 34359738368) : CSpec P 75 [(.agg [.opq (.whole (z)), .pad, .pad]), (.agg [.opq (.nat (d)), .pad])] (.agg [.opq (.whole (z * d)), .pad, .pad]) := by
  have HE := Ft0_all hP T2 hP.t2
  have hd' := Nat.le_trans hd (show _ ≤ 68719476736 by decide)
  have hdz : wl (d : Int) ≤ 34359738368 := hd
  refine CSpec_vc (E := ⟨T2, Ft0⟩) (fn75 hP) HE hP.mix rfl (by first | rfl | (simp only [go_sem]; done)) (by first | rfl | (simp only [go_sem]; done)) (Nat.le_of_ble_eq_true rfl) ?_
  simp (maxSteps := 1000000) only [go_sem, hz, hd', hdz, sg_abs, sg_f]
  (repeat' (first | exact Conv.refl _ | refine And.intro ?_ ?_)) <;> first | omega | decide
def byS : List AV → Option (Prop × AV)
  | [x, y] => (rawW x).bind fun z => (rawN y).map fun d => (z.1 ∧ d.1 ∧ wl z.2 ≤ 34359738368 ∧ blen d.2 ≤ 34359738368, (.agg [.opq (.whole (z.2 * d.2)), .pad, .pad]))
  | _ => none
theorem byS_eq (x y) : byS [x, y] = (rawW x).bind fun z => (rawN y).map fun d => (z.1 ∧ d.1 ∧ wl z.2 ≤ 34359738368 ∧ blen d.2 ≤ 34359738368, (.agg [.opq (.whole (z.2 * d.2)), .pad, .pad])) := rfl
theorem byS_ok (hP : PrgOk P) (args p r) (he : byS args = some (p, r)) (hp : p) : CSpec P 75 args r := by
  unfold byS at he
  split at he
  · simp only [Option.bind_eq_some_iff, Option.map_eq_some_iff, Prod.exists, Prod.mk.injEq] at he
    obtain ⟨q, a, h1, q', b, h2, rfl, rfl⟩ := he
    exact (by_spec hP a b hp.2.2.1 hp.2.2.2).cv (rawW_cv h1 hp.1 (rawN_cv h2 hp.2.1 .nil))
  · simp at he
theorem fOf_spec (hP : PrgOk P) (z : Int) : CSpec P 16 [(.agg [.opq (.whole (z)), .pad, .pad])] (.agg [.opq (.frac ((z : Rat))), .pad, .pad, .pad, .pad]) := by
  have HE := Ft0_all hP T2 hP.t2
  refine CSpec.conv (r := .agg (fC (z : Rat))) ?_ (.frac _)
  have e : fC (z : Rat) = [.opq (.whole z), .pad, .pad, .opq (.nat 0), .pad] := rfl
  rw [e]
  refine CSpec_vc (E := ⟨T2, Ft0⟩) (fn16 hP) HE hP.mix rfl (by first | rfl | (simp only [go_sem]; done)) (by first | rfl | (simp only [go_sem]; done)) (Nat.le_of_ble_eq_true rfl) ?_
  simp (maxSteps := 1000000) only [go_sem]
  (repeat' (first | exact Conv.refl _ | refine And.intro ?_ ?_)) <;> first | omega | decide
def fOfS : List AV → Option (Prop × AV) := onW1 fun z => (True, (.agg [.opq (.frac ((z : Rat))), .pad, .pad, .pad, .pad]))
theorem fOfS_ok (hP : PrgOk P) (args p r) : fOfS args = some (p, r) → p → CSpec P 16 args r := onW1_ok (fun a _ => by exact fOf_spec hP a) args p r
theorem fInt_spec (hP : PrgOk P) (n : Int) (h1 : -9223372036854775808 ≤ n) (h2 : n ≤ 9223372036854775807) : CSpec P 19 [.int .i64 n] (.agg [.opq (.frac ((n : Rat))), .pad, .pad, .pad, .pad]) := by
  have HE := Ft0_all hP T2 hP.t2
  refine CSpec.conv (r := .agg (fC (n : Rat))) ?_ (.frac _)
  have e : fC (n : Rat) = [.opq (.whole n), .pad, .pad, .opq (.nat 0), .pad] := rfl
  rw [e]
  refine CSpec_vc (E := ⟨T2, Ft0⟩) (fn19 hP) HE hP.mix rfl (by first | rfl | (simp only [go_sem]; done)) (by first | rfl | (simp only [go_sem]; done)) (Nat.le_of_ble_eq_true rfl) ?_
  simp (maxSteps := 1000000) only [go_sem, h1, h2]
  (repeat' (first | exact Conv.refl _ | refine And.intro ?_ ?_)) <;> first | omega | decide
def fIntS : List AV → Option (Prop × AV)
  | [.int .i64 n] => some (-9223372036854775808 ≤ n ∧ n ≤ 9223372036854775807, (.agg [.opq (.frac ((n : Rat))), .pad, .pad, .pad, .pad]))
  | _ => none
theorem fIntS_ok (hP : PrgOk P) (args p r) (h : fIntS args = some (p, r)) (hp : p) : CSpec P 19 args r := by
  unfold fIntS at h
  split at h
  · simp only [Option.some.injEq, Prod.mk.injEq] at h
    obtain ⟨rfl, rfl⟩ := h
    exact fInt_spec hP _ hp.1 hp.2
  · simp at h
theorem fNeg_spec (hP : PrgOk P) (q : Rat) (h : wl q.num ≤ 68719476736) : CSpec P 28 [(.agg [.opq (.frac (q)), .pad, .pad, .pad, .pad])] (.agg [.opq (.frac (qneg q)), .pad, .pad, .pad, .pad]) := by
  have HE := Ft0_all hP T2 hP.t2
  rw [qneg_eq]
  refine CSpec.cv ?_ (.fracIn q .nil)
  refine CSpec.conv (r := .agg (fC (-q))) ?_ (.frac _)
  unfold fC
  rw [(neg_nd q).1, (neg_nd q).2]
  refine CSpec_vc (E := ⟨T2, Ft0⟩) (fn28 hP) HE hP.mix rfl (by first | rfl | (simp only [go_sem]; done)) (by first | rfl | (simp only [go_sem]; done)) (Nat.le_of_ble_eq_true rfl) ?_
  simp (maxSteps := 1000000) only [go_sem, h]
  (repeat' (first | exact Conv.refl _ | refine And.intro ?_ ?_)) <;> first | omega | decide
noncomputable def fNegS : List AV → Option (Prop × AV) := onF1 fun q => (wl q.num ≤ 68719476736, (.agg [.opq (.frac (qneg q)), .pad, .pad, .pad, .pad]))
theorem fNegS_ok (hP : PrgOk P) (args p r) : fNegS args = some (p, r) → p → CSpec P 28 args r := onF1_ok (fun a h => by exact fNeg_spec hP a h) args p r
attribute [go_sem] fDenS fNumS fSignS entS byS_eq fOfS fIntS fNegS
noncomputable def Ft1 : Nat → List AV → Option (Prop × AV) := addS (addS (addS (addS (addS (addS (addS (addS (addS Ft0 49 lowS) 23 fDenS) 12 fNumS) 26 fSignS) 74 entS) 75 byS) 16 fOfS) 19 fIntS) 28 fNegS
theorem Ft1_all (hP : PrgOk P) (T) (hT : TyOk P T) : EnvOk P ⟨T, Ft1⟩ := ((((((((((Ft0_all hP T hT).add (lowS_ok hP)).add (fDenS_ok hP)).add (fNumS_ok hP)).add (fSignS_ok hP)).add (entS_ok hP)).add (byS_ok hP)).add (fOfS_ok hP)).add (fIntS_ok hP)).add (fNegS_ok hP))
theorem Ft1_at (f a) : Ft1 f a = (addS (addS (addS (addS (addS (addS (addS (addS (addS Ft0 49 lowS) 23 fDenS) 12 fNumS) 26 fSignS) 74 entS) 75 byS) 16 fOfS) 19 fIntS) 28 fNegS) f a := rfl
attribute [go_sem] Ft1_at
end Go.Proofs.YtjnhekedclcbfaaGreatDoor.AM
/- Fractions: sums, products, order. -/
namespace Go.Proofs.YtjnhekedclcbfaaGreatDoor.AM
set_option linter.all false
set_option autoImplicit true
set_option relaxedAutoImplicit true
open Go Go.Proofs
set_option maxRecDepth 100000
set_option maxHeartbeats 8000000
set_option linter.unusedSimpArgs false
variable {P : Program}

theorem fl_num {q : Rat} {n : Nat} (h : fl q ≤ n) : wl q.num ≤ n := (fl_le.1 h).1
theorem fl_den {q : Rat} {n : Nat} (h : fl q ≤ n) : blen q.den ≤ n := (fl_le.1 h).2
theorem fl_denZ {q : Rat} {n : Nat} (h : fl q ≤ n) : wl (q.den : Int) ≤ n := (fl_le.1 h).2
theorem blen_mul' {a b n m : Nat} (h : blen a ≤ n) (h' : blen b ≤ m) : blen (a * b) ≤ n + m := blen_mul_le h h'
/-- The premise on a length, wherever it is asked. -/
theorem fl_any {q : Rat} (h : fl q ≤ FB) {n : Nat} (hn : FB ≤ n) : (wl q.num ≤ n) = True ∧ (blen q.den ≤ n) = True := ⟨eq_true (Nat.le_trans (fl_num h) hn), eq_true (Nat.le_trans (fl_den h) hn)⟩
theorem fCmp_spec (hP : PrgOk P) (a b : Rat) (ha : fl a ≤ FB) (hb : fl b ≤ FB) : CSpec P 36 [(.agg [.opq (.frac (a)), .pad, .pad, .pad, .pad]), (.agg [.opq (.frac (b)), .pad, .pad, .pad, .pad])] (.int .i64 (cmpQ a b)) := by
  have HE := Ft1_all hP T2 hP.t2
  refine CSpec.cv ?_ (.fracIn a (.fracIn b .nil))
  have a1 : wl a.num ≤ 34359738368 := Nat.le_trans (fl_num ha) (by decide)
  have a2 : blen a.den ≤ 34359738368 := Nat.le_trans (fl_den ha) (by decide)
  have a3 : wl a.num ≤ 68719476736 := Nat.le_trans (fl_num ha) (by decide)
  have a4 : blen a.den ≤ 68719476736 := Nat.le_trans (fl_den ha) (by decide)
  have a5 : 0 < a.den := a.den_pos
  have b1 : wl b.num ≤ 34359738368 := Nat.le_trans (fl_num hb) (by decide)
  have b2 : blen b.den ≤ 34359738368 := Nat.le_trans (fl_den hb) (by decide)
  have b3 : wl b.num ≤ 68719476736 := Nat.le_trans (fl_num hb) (by decide)
  have b4 : blen b.den ≤ 68719476736 := Nat.le_trans (fl_den hb) (by decide)
  have b5 : 0 < b.den := b.den_pos
  have m1 : wl (a.num * b.den) ≤ 68719476736 := Nat.le_trans (wl_mul (fl_num ha) (fl_denZ hb)) (by decide)
  have m2 : wl (b.num * a.den) ≤ 68719476736 := Nat.le_trans (wl_mul (fl_num hb) (fl_denZ ha)) (by decide)
  rw [cmpQ_mk]
  unfold fC
  refine CSpec_vc (E := ⟨T2, Ft1⟩) (fn36 hP) HE hP.mix rfl (by first | rfl | (simp only [go_sem]; done)) (by first | rfl | (simp only [go_sem]; done)) (Nat.le_of_ble_eq_true rfl) ?_
  by_cases h1 : a.den = 1
  · by_cases h2 : b.den = 1
    · have h1' : decide (a.den = 1) = true := decide_eq_true h1
      have h2' : decide (b.den = 1) = true := decide_eq_true h2
      have e : cmpZ (a.num * b.den) (b.num * a.den) = cmpZ a.num b.num := by rw [h1, h2, Int.natCast_one, Int.mul_one, Int.mul_one]
      rw [e]
      simp (maxSteps := 1000000) only [go_sem, a1, a2, a3, b1, b2, b3, m1, m2, h1', h2']
      (repeat' (first | exact Conv.refl _ | refine And.intro ?_ ?_)) <;> first | omega | decide
    · have h1' : decide (a.den = 1) = true := decide_eq_true h1
      have h2' : decide (b.den = 1) = false := decide_eq_false h2
      simp (maxSteps := 1000000) only [go_sem, a1, a2, a3, b1, b2, b3, m1, m2, h1', h2']
      (repeat' (first | exact Conv.refl _ | refine And.intro ?_ ?_)) <;> first | omega | decide
  · have h1' : decide (a.den = 1) = false := decide_eq_false h1
    simp (maxSteps := 1000000) only [go_sem, a1, a2, a3, b1, b2, b3, m1, m2, h1']
    (repeat' (first | exact Conv.refl _ | refine And.intro ?_ ?_)) <;> first | omega | decide
noncomputable def fCmpS : List AV → Option (Prop × AV) := onF2 fun a b => (fl a ≤ FB ∧ fl b ≤ FB, .int .i64 (cmpQ a b))
theorem fCmpS_ok (hP : PrgOk P) (args p r) : fCmpS args = some (p, r) → p → CSpec P 36 args r := onF2_ok (fun a b h => by exact fCmp_spec hP a b h.1 h.2) args p r

end Go.Proofs.YtjnhekedclcbfaaGreatDoor.AM
/- Fractions: sums, products. -/
namespace Go.Proofs.YtjnhekedclcbfaaGreatDoor.AM
set_option linter.all false
set_option autoImplicit true
set_option relaxedAutoImplicit true
open Go Go.Proofs
set_option maxRecDepth 100000
set_option maxHeartbeats 8000000
set_option linter.unusedSimpArgs false
variable {P : Program}

theorem jAdd_spec (hP : PrgOk P) (a b : Rat) (ha : fl a ≤ FB) (hb : fl b ≤ FB) : CSpec P 69 [(.agg [.opq (.frac (a)), .pad, .pad, .pad, .pad]), (.agg [.opq (.frac (b)), .pad, .pad, .pad, .pad]), .fn 70 [] []] (.agg [.opq (.frac (qadd a b)), .pad, .pad, .pad, .pad]) := by
  have HE := Ft1_all hP T2 hP.t2
  rw [qadd_eq]
  refine CSpec.cv ?_ (.fracIn a (.fracIn b (.refl _)))
  have a1 : wl a.num ≤ 34359738368 := Nat.le_trans (fl_num ha) (by decide)
  have a2 : blen a.den ≤ 34359738368 := Nat.le_trans (fl_den ha) (by decide)
  have a3 : wl a.num ≤ 68719476736 := Nat.le_trans (fl_num ha) (by decide)
  have a4 : blen a.den ≤ 68719476736 := Nat.le_trans (fl_den ha) (by decide)
  have a5 : 0 < a.den := a.den_pos
  have b1 : wl b.num ≤ 34359738368 := Nat.le_trans (fl_num hb) (by decide)
  have b2 : blen b.den ≤ 34359738368 := Nat.le_trans (fl_den hb) (by decide)
  have b3 : wl b.num ≤ 68719476736 := Nat.le_trans (fl_num hb) (by decide)
  have b4 : blen b.den ≤ 68719476736 := Nat.le_trans (fl_den hb) (by decide)
  have b5 : 0 < b.den := b.den_pos
  have m0 : wl (a.num + b.num) ≤ 34359738368 := Nat.le_trans (wl_add (fl_num ha) (fl_num hb)) (by decide)
  have m1 : wl (a.num * b.den) ≤ 34359738368 := Nat.le_trans (wl_mul (fl_num ha) (fl_denZ hb)) (by decide)
  have m2 : wl (b.num * a.den) ≤ 34359738368 := Nat.le_trans (wl_mul (fl_num hb) (fl_denZ ha)) (by decide)
  have m3 : wl (a.num * b.den + b.num * a.den) ≤ 34359738368 := Nat.le_trans (wl_add (wl_mul (fl_num ha) (fl_denZ hb)) (wl_mul (fl_num hb) (fl_denZ ha))) (by decide)
  have m4 : blen (a.den * b.den) ≤ 34359738368 := Nat.le_trans (blen_mul_le (fl_den ha) (fl_den hb)) (by decide)
  have m5 : 0 < a.den * b.den := Nat.mul_pos a5 b5
  by_cases h : a.den = 1 ∧ b.den = 1
  · refine CSpec.conv (r := .agg (fC (a + b))) ?_ (.frac _)
    have e : fC (a + b) = [.opq (.whole (a.num + b.num)), .pad, .pad, .opq (.nat 0), .pad] := by
      rw [add_mk, h.1, h.2, fC_mk (by decide) (Nat.gcd_one_right _), Int.natCast_one, Int.mul_one, Int.mul_one]
    have h1' : decide (a.den = 1) = true := decide_eq_true h.1
    have h2' : decide (b.den = 1) = true := decide_eq_true h.2
    rw [e]
    unfold fC
    refine CSpec_vc (E := ⟨T2, Ft1⟩) (fn69 hP) HE hP.mix rfl (by first | rfl | (simp only [go_sem]; done)) (by first | rfl | (simp only [go_sem]; done)) (Nat.le_of_ble_eq_true rfl) ?_
    simp (maxSteps := 1000000) only [go_sem, a1, a2, b1, b2, m0, h1', h2']
    (repeat' (first | exact Conv.refl _ | refine And.intro ?_ ?_)) <;> first | omega | decide
  · rw [add_mk, ← qlow_eq]
    unfold fC
    refine CSpec_vc (E := ⟨T2, Ft1⟩) (fn69 hP) HE hP.mix rfl (by first | rfl | (simp only [go_sem]; done)) (by first | rfl | (simp only [go_sem]; done)) (Nat.le_of_ble_eq_true rfl) ?_
    by_cases h1 : a.den = 1
    · have h2 : ¬ b.den = 1 := fun e => h ⟨h1, e⟩
      have h1' : decide (a.den = 1) = true := decide_eq_true h1
      have h2' : decide (b.den = 1) = false := decide_eq_false h2
      simp (maxSteps := 1000000) only [go_sem, a1, a2, a4, b1, b2, b4, m1, m2, m3, m4, m5, h1', h2']
      (repeat' (first | exact Conv.refl _ | refine And.intro ?_ ?_)) <;> first | omega | decide
    · have h1' : decide (a.den = 1) = false := decide_eq_false h1
      simp (maxSteps := 1000000) only [go_sem, a1, a2, a4, b1, b2, b4, m1, m2, m3, m4, m5, h1']
      (repeat' (first | exact Conv.refl _ | refine And.intro ?_ ?_)) <;> first | omega | decide
theorem jSub_spec (hP : PrgOk P) (a b : Rat) (ha : fl a ≤ FB) (hb : fl b ≤ FB) : CSpec P 69 [(.agg [.opq (.frac (a)), .pad, .pad, .pad, .pad]), (.agg [.opq (.frac (b)), .pad, .pad, .pad, .pad]), .fn 72 [] []] (.agg [.opq (.frac (qsub a b)), .pad, .pad, .pad, .pad]) := by
  have HE := Ft1_all hP T2 hP.t2
  rw [qsub_eq]
  refine CSpec.cv ?_ (.fracIn a (.fracIn b (.refl _)))
  have a1 : wl a.num ≤ 34359738368 := Nat.le_trans (fl_num ha) (by decide)
  have a2 : blen a.den ≤ 34359738368 := Nat.le_trans (fl_den ha) (by decide)
  have a3 : wl a.num ≤ 68719476736 := Nat.le_trans (fl_num ha) (by decide)
  have a4 : blen a.den ≤ 68719476736 := Nat.le_trans (fl_den ha) (by decide)
  have a5 : 0 < a.den := a.den_pos
  have b1 : wl b.num ≤ 34359738368 := Nat.le_trans (fl_num hb) (by decide)
  have b2 : blen b.den ≤ 34359738368 := Nat.le_trans (fl_den hb) (by decide)
  have b3 : wl b.num ≤ 68719476736 := Nat.le_trans (fl_num hb) (by decide)
  have b4 : blen b.den ≤ 68719476736 := Nat.le_trans (fl_den hb) (by decide)
  have b5 : 0 < b.den := b.den_pos
  have m0 : wl (a.num - b.num) ≤ 34359738368 := Nat.le_trans (wl_sub (fl_num ha) (fl_num hb)) (by decide)
  have m1 : wl (a.num * b.den) ≤ 34359738368 := Nat.le_trans (wl_mul (fl_num ha) (fl_denZ hb)) (by decide)
  have m2 : wl (b.num * a.den) ≤ 34359738368 := Nat.le_trans (wl_mul (fl_num hb) (fl_denZ ha)) (by decide)
  have m3 : wl (a.num * b.den - b.num * a.den) ≤ 34359738368 := Nat.le_trans (wl_sub (wl_mul (fl_num ha) (fl_denZ hb)) (wl_mul (fl_num hb) (fl_denZ ha))) (by decide)
  have m4 : blen (a.den * b.den) ≤ 34359738368 := Nat.le_trans (blen_mul_le (fl_den ha) (fl_den hb)) (by decide)
  have m5 : 0 < a.den * b.den := Nat.mul_pos a5 b5
  by_cases h : a.den = 1 ∧ b.den = 1
  · refine CSpec.conv (r := .agg (fC (a - b))) ?_ (.frac _)
    have e : fC (a - b) = [.opq (.whole (a.num - b.num)), .pad, .pad, .opq (.nat 0), .pad] := by
      rw [sub_mk, h.1, h.2, fC_mk (by decide) (Nat.gcd_one_right _), Int.natCast_one, Int.mul_one, Int.mul_one]
    have h1' : decide (a.den = 1) = true := decide_eq_true h.1
    have h2' : decide (b.den = 1) = true := decide_eq_true h.2
    rw [e]
    unfold fC
    refine CSpec_vc (E := ⟨T2, Ft1⟩) (fn69 hP) HE hP.mix rfl (by first | rfl | (simp only [go_sem]; done)) (by first | rfl | (simp only [go_sem]; done)) (Nat.le_of_ble_eq_true rfl) ?_
    simp (maxSteps := 1000000) only [go_sem, a1, a2, b1, b2, m0, h1', h2']
    (repeat' (first | exact Conv.refl _ | refine And.intro ?_ ?_)) <;> first | omega | decide
  · rw [sub_mk, ← qlow_eq]
    unfold fC
    refine CSpec_vc (E := ⟨T2, Ft1⟩) (fn69 hP) HE hP.mix rfl (by first | rfl | (simp only [go_sem]; done)) (by first | rfl | (simp only [go_sem]; done)) (Nat.le_of_ble_eq_true rfl) ?_
    by_cases h1 : a.den = 1
    · have h2 : ¬ b.den = 1 := fun e => h ⟨h1, e⟩
      have h1' : decide (a.den = 1) = true := decide_eq_true h1
      have h2' : decide (b.den = 1) = false := decide_eq_false h2
      simp (maxSteps := 1000000) only [go_sem, a1, a2, a4, b1, b2, b4, m1, m2, m3, m4, m5, h1', h2']
      (repeat' (first | exact Conv.refl _ | refine And.intro ?_ ?_)) <;> first | omega | decide
    · have h1' : decide (a.den = 1) = false := decide_eq_false h1
      simp (maxSteps := 1000000) only [go_sem, a1, a2, a4, b1, b2, b4, m1, m2, m3, m4, m5, h1']
      (repeat' (first | exact Conv.refl _ | refine And.intro ?_ ?_)) <;> first | omega | decide
noncomputable def joinS : List AV → Option (Prop × AV)
  | [x, y, .fn f [] []] => (rawF x).bind fun a => (rawF y).map fun b => (a.1 ∧ b.1 ∧ fl a.2 ≤ FB ∧ fl b.2 ≤ FB ∧ (f = 70 ∨ f = 72), (.agg [.opq (.frac (if f = 70 then qadd a.2 b.2 else qsub a.2 b.2)), .pad, .pad, .pad, .pad]))
  | _ => none
theorem joinS_eq (x y f) : joinS [x, y, .fn f [] []] = (rawF x).bind fun a => (rawF y).map fun b => (a.1 ∧ b.1 ∧ fl a.2 ≤ FB ∧ fl b.2 ≤ FB ∧ (f = 70 ∨ f = 72), (.agg [.opq (.frac (if f = 70 then qadd a.2 b.2 else qsub a.2 b.2)), .pad, .pad, .pad, .pad])) := rfl
theorem joinS_ok (hP : PrgOk P) (args p r) (he : joinS args = some (p, r)) (hp : p) : CSpec P 69 args r := by
  unfold joinS at he
  split at he
  · simp only [Option.bind_eq_some_iff, Option.map_eq_some_iff, Prod.exists, Prod.mk.injEq] at he
    obtain ⟨q, a, h1, q', b, h2, rfl, rfl⟩ := he
    obtain ⟨p1, p2, p3, p4, h | h⟩ := hp
    · subst h
      exact (jAdd_spec hP a b p3 p4).cv (rawF_cv h1 p1 (rawF_cv h2 p2 (.refl _)))
    · subst h
      exact (jSub_spec hP a b p3 p4).cv (rawF_cv h1 p1 (rawF_cv h2 p2 (.refl _)))
  · simp at he
attribute [go_sem] joinS_eq fCmpS
noncomputable def Ft2 : Nat → List AV → Option (Prop × AV) := addS (addS Ft1 36 fCmpS) 69 joinS
theorem Ft2_all (hP : PrgOk P) (T) (hT : TyOk P T) : EnvOk P ⟨T, Ft2⟩ := (((Ft1_all hP T hT).add (fCmpS_ok hP)).add (joinS_ok hP))
theorem Ft2_at (f a) : Ft2 f a = (addS (addS Ft1 36 fCmpS) 69 joinS) f a := rfl
attribute [go_sem] Ft2_at
theorem fAdd_spec (hP : PrgOk P) (a b : Rat) (ha : fl a ≤ FB) (hb : fl b ≤ FB) : CSpec P 30 [(.agg [.opq (.frac (a)), .pad, .pad, .pad, .pad]), (.agg [.opq (.frac (b)), .pad, .pad, .pad, .pad])] (.agg [.opq (.frac (qadd a b)), .pad, .pad, .pad, .pad]) := by
  have HE := Ft2_all hP TF hP.tF
  refine CSpec_vc (E := ⟨TF, Ft2⟩) (fn30 hP) HE hP.mix rfl (by first | rfl | (simp only [go_sem]; done)) (by first | rfl | (simp only [go_sem]; done)) (Nat.le_of_ble_eq_true rfl) ?_
  simp (maxSteps := 1000000) only [go_sem, ha, hb]
  (repeat' (first | exact Conv.refl _ | refine And.intro ?_ ?_)) <;> first | omega | decide
noncomputable def fAddS : List AV → Option (Prop × AV) := onF2 fun a b => (fl a ≤ FB ∧ fl b ≤ FB, (.agg [.opq (.frac (qadd a b)), .pad, .pad, .pad, .pad]))
theorem fAddS_ok (hP : PrgOk P) (args p r) : fAddS args = some (p, r) → p → CSpec P 30 args r := onF2_ok (fun a b h => by exact fAdd_spec hP a b h.1 h.2) args p r
theorem fSub_spec (hP : PrgOk P) (a b : Rat) (ha : fl a ≤ FB) (hb : fl b ≤ FB) : CSpec P 32 [(.agg [.opq (.frac (a)), .pad, .pad, .pad, .pad]), (.agg [.opq (.frac (b)), .pad, .pad, .pad, .pad])] (.agg [.opq (.frac (qsub a b)), .pad, .pad, .pad, .pad]) := by
  have HE := Ft2_all hP TF hP.tF
  refine CSpec_vc (E := ⟨TF, Ft2⟩) (fn32 hP) HE hP.mix rfl (by first | rfl | (simp only [go_sem]; done)) (by first | rfl | (simp only [go_sem]; done)) (Nat.le_of_ble_eq_true rfl) ?_
  simp (maxSteps := 1000000) only [go_sem, ha, hb]
  (repeat' (first | exact Conv.refl _ | refine And.intro ?_ ?_)) <;> first | omega | decide
noncomputable def fSubS : List AV → Option (Prop × AV) := onF2 fun a b => (fl a ≤ FB ∧ fl b ≤ FB, (.agg [.opq (.frac (qsub a b)), .pad, .pad, .pad, .pad]))
theorem fSubS_ok (hP : PrgOk P) (args p r) : fSubS args = some (p, r) → p → CSpec P 32 args r := onF2_ok (fun a b h => by exact fSub_spec hP a b h.1 h.2) args p r
theorem fMul_spec (hP : PrgOk P) (a b : Rat) (ha : fl a ≤ FB) (hb : fl b ≤ FB) : CSpec P 34 [(.agg [.opq (.frac (a)), .pad, .pad, .pad, .pad]), (.agg [.opq (.frac (b)), .pad, .pad, .pad, .pad])] (.agg [.opq (.frac (qmul a b)), .pad, .pad, .pad, .pad]) := by
  have HE := Ft1_all hP T2 hP.t2
  rw [qmul_eq]
  refine CSpec.cv ?_ (.fracIn a (.fracIn b .nil))
  have a1 : wl a.num ≤ 34359738368 := Nat.le_trans (fl_num ha) (by decide)
  have a2 : blen a.den ≤ 34359738368 := Nat.le_trans (fl_den ha) (by decide)
  have a3 : wl a.num ≤ 68719476736 := Nat.le_trans (fl_num ha) (by decide)
  have a4 : blen a.den ≤ 68719476736 := Nat.le_trans (fl_den ha) (by decide)
  have a5 : 0 < a.den := a.den_pos
  have b1 : wl b.num ≤ 34359738368 := Nat.le_trans (fl_num hb) (by decide)
  have b2 : blen b.den ≤ 34359738368 := Nat.le_trans (fl_den hb) (by decide)
  have b3 : wl b.num ≤ 68719476736 := Nat.le_trans (fl_num hb) (by decide)
  have b4 : blen b.den ≤ 68719476736 := Nat.le_trans (fl_den hb) (by decide)
  have b5 : 0 < b.den := b.den_pos
  have m0 : wl (a.num * b.num) ≤ 34359738368 := Nat.le_trans (wl_mul (fl_num ha) (fl_num hb)) (by decide)
  have m4 : blen (a.den * b.den) ≤ 34359738368 := Nat.le_trans (blen_mul_le (fl_den ha) (fl_den hb)) (by decide)
  have m5 : 0 < a.den * b.den := Nat.mul_pos a5 b5
  by_cases h : a.den = 1 ∧ b.den = 1
  · refine CSpec.conv (r := .agg (fC (a * b))) ?_ (.frac _)
    have e : fC (a * b) = [.opq (.whole (a.num * b.num)), .pad, .pad, .opq (.nat 0), .pad] := by
      rw [mul_mk, h.1, h.2, fC_mk (by decide) (Nat.gcd_one_right _)]
    have h1' : decide (a.den = 1) = true := decide_eq_true h.1
    have h2' : decide (b.den = 1) = true := decide_eq_true h.2
    rw [e]
    unfold fC
    refine CSpec_vc (E := ⟨T2, Ft1⟩) (fn34 hP) HE hP.mix rfl (by first | rfl | (simp only [go_sem]; done)) (by first | rfl | (simp only [go_sem]; done)) (Nat.le_of_ble_eq_true rfl) ?_
    simp (maxSteps := 1000000) only [go_sem, a1, a2, b1, b2, m0, h1', h2']
    (repeat' (first | exact Conv.refl _ | refine And.intro ?_ ?_)) <;> first | omega | decide
  · rw [mul_mk, ← qlow_eq]
    unfold fC
    refine CSpec_vc (E := ⟨T2, Ft1⟩) (fn34 hP) HE hP.mix rfl (by first | rfl | (simp only [go_sem]; done)) (by first | rfl | (simp only [go_sem]; done)) (Nat.le_of_ble_eq_true rfl) ?_
    by_cases h1 : a.den = 1
    · have h2 : ¬ b.den = 1 := fun e => h ⟨h1, e⟩
      have h1' : decide (a.den = 1) = true := decide_eq_true h1
      have h2' : decide (b.den = 1) = false := decide_eq_false h2
      simp (maxSteps := 1000000) only [go_sem, a1, a2, a4, b1, b2, b4, m0, m4, m5, h1', h2']
      (repeat' (first | exact Conv.refl _ | refine And.intro ?_ ?_)) <;> first | omega | decide
    · have h1' : decide (a.den = 1) = false := decide_eq_false h1
      simp (maxSteps := 1000000) only [go_sem, a1, a2, a4, b1, b2, b4, m0, m4, m5, h1']
      (repeat' (first | exact Conv.refl _ | refine And.intro ?_ ?_)) <;> first | omega | decide
noncomputable def fMulS : List AV → Option (Prop × AV) := onF2 fun a b => (fl a ≤ FB ∧ fl b ≤ FB, (.agg [.opq (.frac (qmul a b)), .pad, .pad, .pad, .pad]))
theorem fMulS_ok (hP : PrgOk P) (args p r) : fMulS args = some (p, r) → p → CSpec P 34 args r := onF2_ok (fun a b h => by exact fMul_spec hP a b h.1 h.2) args p r
theorem sgn_zero (z : Int) : (sgnZ z == 0) = decide (z = 0) := by
  unfold sgnZ; split
  · rename_i h; rw [decide_eq_true h]; rfl
  · rename_i h; rw [decide_eq_false h]; split <;> rfl
theorem fDiv_spec (hP : PrgOk P) (a b : Rat) (ha : fl a ≤ FB) (hb : fl b ≤ FB) : CSpec P 38 [(.agg [.opq (.frac (a)), .pad, .pad, .pad, .pad]), (.agg [.opq (.frac (b)), .pad, .pad, .pad, .pad])] (if b = 0 then .tup [(.agg [.opq (.frac (0)), .pad, .pad, .pad, .pad]), .int .i64 11] else .tup [(.agg [.opq (.frac (qdiv a b)), .pad, .pad, .pad, .pad]), .int .i64 0]) := by
  have HE := Ft1_all hP T2 hP.t2
  refine CSpec.cv ?_ (.fracIn a (.fracIn b .nil))
  have a1 : wl a.num ≤ 34359738368 := Nat.le_trans (fl_num ha) (by decide)
  have a2 : blen a.den ≤ 34359738368 := Nat.le_trans (fl_den ha) (by decide)
  have a3 : wl a.num ≤ 68719476736 := Nat.le_trans (fl_num ha) (by decide)
  have a4 : blen a.den ≤ 68719476736 := Nat.le_trans (fl_den ha) (by decide)
  have a5 : 0 < a.den := a.den_pos
  have b1 : wl b.num ≤ 34359738368 := Nat.le_trans (fl_num hb) (by decide)
  have b2 : blen b.den ≤ 34359738368 := Nat.le_trans (fl_den hb) (by decide)
  have b3 : wl b.num ≤ 68719476736 := Nat.le_trans (fl_num hb) (by decide)
  have b4 : blen b.den ≤ 68719476736 := Nat.le_trans (fl_den hb) (by decide)
  have b5 : 0 < b.den := b.den_pos
  by_cases h0 : b = 0
  · have hs : cmpQ b 0 = 0 := by rw [h0]; rfl
    rw [if_pos h0]
    refine CSpec.conv (r := .tup [.agg (fC 0), .int .i64 11]) ?_ (CvL.conv (CvL.tup (.fracOut 0 (.refl _)) .nil))
    have e : fC 0 = [.opq (.whole 0), .pad, .pad, .opq (.nat 0), .pad] := rfl
    rw [e]
    unfold fC
    refine CSpec_vc (E := ⟨T2, Ft1⟩) (fn38 hP) HE hP.mix rfl (by first | rfl | (simp only [go_sem]; done)) (by first | rfl | (simp only [go_sem]; done)) (Nat.le_of_ble_eq_true rfl) ?_
    simp (maxSteps := 1000000) only [go_sem, b3, hs]
    (repeat' (first | exact Conv.refl _ | refine And.intro ?_ ?_)) <;> first | omega | decide
  · have hn : b.num ≠ 0 := fun e => h0 (num_zero.1 e)
    have hs : (sgnZ b.num == 0) = false := by rw [sgn_zero, decide_eq_false hn]
    have hr : -9223372036854775808 ≤ sgnZ b.num ∧ sgnZ b.num ≤ 9223372036854775807 := by
      unfold sgnZ; split
      · decide
      · split <;> decide
    have hr1 := hr.1
    have hr2 := hr.2
    have sb : wl (sgnZ b.num) ≤ 34359738368 := Nat.le_trans (wl_sgn _) (by decide)
    have m1 : wl (a.num * sgnZ b.num) ≤ 34359738368 := Nat.le_trans (wl_mul (fl_num ha) (wl_sgn _)) (by decide)
    have m2 : wl (a.num * sgnZ b.num * b.den) ≤ 34359738368 := Nat.le_trans (wl_mul (wl_mul (fl_num ha) (wl_sgn _)) (fl_denZ hb)) (by decide)
    have m3 : blen (a.den * b.num.natAbs) ≤ 34359738368 := Nat.le_trans (blen_mul_le (fl_den ha) (fl_num hb)) (by decide)
    have m4 : 0 < a.den * b.num.natAbs := Nat.mul_pos a5 (by omega)
    have b6 : blen b.num.natAbs ≤ 68719476736 := b3
    rw [if_neg h0, qdiv_eq, div_mk hn, ← qlow_eq]
    unfold fC
    refine CSpec_vc (E := ⟨T2, Ft1⟩) (fn38 hP) HE hP.mix rfl (by first | rfl | (simp only [go_sem]; done)) (by first | rfl | (simp only [go_sem]; done)) (Nat.le_of_ble_eq_true rfl) ?_
    simp (maxSteps := 1000000) only [go_sem, a1, a2, a4, b1, b2, b3, b4, b6, hs, ← sgn_cmp, hr1, hr2, sb, m1, m2, m3, m4]
    (repeat' (first | exact Conv.refl _ | refine And.intro ?_ ?_)) <;> first | omega | decide
noncomputable def fDivS : List AV → Option (Prop × AV) := onF2 fun a b => (fl a ≤ FB ∧ fl b ≤ FB, if b = 0 then .tup [(.agg [.opq (.frac (0)), .pad, .pad, .pad, .pad]), .int .i64 11] else .tup [(.agg [.opq (.frac (qdiv a b)), .pad, .pad, .pad, .pad]), .int .i64 0])
theorem fDivS_ok (hP : PrgOk P) (args p r) : fDivS args = some (p, r) → p → CSpec P 38 args r := onF2_ok (fun a b h => by exact fDiv_spec hP a b h.1 h.2) args p r
attribute [go_sem] fAddS fSubS fMulS fDivS
end Go.Proofs.YtjnhekedclcbfaaGreatDoor.AM
/- Fractions: rounded down, told az texts, made of two. -/
namespace Go.Proofs.YtjnhekedclcbfaaGreatDoor.AM
set_option linter.all false
set_option autoImplicit true
set_option relaxedAutoImplicit true
open Go Go.Proofs
set_option maxRecDepth 100000
set_option maxHeartbeats 8000000
set_option linter.unusedSimpArgs false
variable {P : Program}

noncomputable def Ft3 : Nat → List AV → Option (Prop × AV) := addS (addS (addS (addS Ft2 30 fAddS) 32 fSubS) 34 fMulS) 38 fDivS
theorem Ft3_all (hP : PrgOk P) (T) (hT : TyOk P T) : EnvOk P ⟨T, Ft3⟩ := (((((Ft2_all hP T hT).add (fAddS_ok hP)).add (fSubS_ok hP)).add (fMulS_ok hP)).add (fDivS_ok hP))
theorem Ft3_at (f a) : Ft3 f a = (addS (addS (addS (addS Ft2 30 fAddS) 32 fSubS) 34 fMulS) 38 fDivS) f a := rfl
attribute [go_sem] Ft3_at
/-- Rounded down. -/
def flo (q : Rat) : Int := q.num / (q.den : Int)
theorem flo_neg {q : Rat} (h : q.num < 0) (hr : 0 < q.num.natAbs % q.den) : flo q = sg true (q.num.natAbs / q.den + 1) := by
  unfold flo
  have e := Nat.div_add_mod q.num.natAbs q.den
  have hd := q.den_pos
  have hl := Nat.mod_lt q.num.natAbs hd
  have hz : q.num = -(q.num.natAbs : Int) := by omega
  generalize q.num.natAbs = a at *
  generalize q.den = d at *
  rw [hz, sg_t]
  have hd' : (0 : Int) < d := by omega
  refine (Int.ediv_emod_unique hd' (r := (d : Int) - (a % d : Nat))).2 ⟨?_, by omega, by omega⟩ |>.1
  have e' : (d : Int) * ((a / d : Nat) : Int) + ((a % d : Nat) : Int) = (a : Int) := by exact_mod_cast e
  grind
theorem flo_negz {q : Rat} (h : q.num < 0) (hr : ¬ 0 < q.num.natAbs % q.den) : flo q = sg true (q.num.natAbs / q.den) := by
  unfold flo
  have e := Nat.div_add_mod q.num.natAbs q.den
  have hd := q.den_pos
  have hz : q.num = -(q.num.natAbs : Int) := by omega
  generalize q.num.natAbs = a at *
  generalize q.den = d at *
  rw [hz, sg_t]
  have hd' : (0 : Int) < d := by omega
  refine (Int.ediv_emod_unique hd' (r := 0)).2 ⟨?_, by omega, by omega⟩ |>.1
  have e' : (d : Int) * ((a / d : Nat) : Int) + ((a % d : Nat) : Int) = (a : Int) := by exact_mod_cast e
  have : ((a % d : Nat) : Int) = 0 := by omega
  grind
theorem flo_pos {q : Rat} (h : ¬ q.num < 0) : flo q = sg false (q.num.natAbs / q.den) := by
  unfold flo
  have hz : q.num = (q.num.natAbs : Int) := by omega
  rw [hz, sg_f, Int.natAbs_natCast]
  exact (Int.natCast_ediv _ _).symm
theorem flo_wl {q : Rat} {n : Nat} (h : wl q.num ≤ n) : wl (flo q) ≤ n + 1 := by
  have h0 : blen (q.num.natAbs / q.den) ≤ n := blen_le_of (Nat.div_le_self _ _) h
  by_cases h1 : q.num < 0
  · by_cases h2 : 0 < q.num.natAbs % q.den
    · rw [flo_neg h1 h2]; unfold wl; rw [sg_abs]
      rw [blen_le_iff] at *
      have : 2 ^ n * 2 = 2 ^ (n + 1) := (Nat.pow_succ 2 n).symm
      have := Nat.one_le_two_pow (n := n)
      omega
    · rw [flo_negz h1 h2]; unfold wl; rw [sg_abs]; omega
  · rw [flo_pos h1]; unfold wl; rw [sg_abs]; omega
theorem sgn_nn (z : Int) : (0 ≤ sgnZ z) = (0 ≤ z) := by
  unfold sgnZ; rw [eq_iff_iff]; split
  · omega
  · split <;> omega
theorem blen_pos' {a : Nat} : (0 < blen a) = (0 < a) := by rw [eq_iff_iff]; have := blen_zero_iff a; omega
theorem fFlo_spec (hP : PrgOk P) (q : Rat) (h : fl q ≤ FB) : CSpec P 40 [(.agg [.opq (.frac (q)), .pad, .pad, .pad, .pad])] (.agg [.opq (.whole (flo q)), .pad, .pad]) := by
  have HE := Ft1_all hP T2 hP.t2
  refine CSpec.cv ?_ (.fracIn q .nil)
  have a1 : wl q.num ≤ 34359738368 := Nat.le_trans (fl_num h) (by decide)
  have a2 : blen q.den ≤ 34359738368 := Nat.le_trans (fl_den h) (by decide)
  have a3 : wl q.num ≤ 68719476736 := Nat.le_trans (fl_num h) (by decide)
  have a4 : blen q.den ≤ 68719476736 := Nat.le_trans (fl_den h) (by decide)
  have a5 : 0 < q.den := q.den_pos
  have a6 : blen q.num.natAbs ≤ 68719476736 := a3
  have dz : (q.den = 0) = False := eq_false (by omega)
  have dv : blen (q.num.natAbs / q.den) ≤ 34359738368 := blen_le_of (Nat.div_le_self _ _) a1
  have dv' := Nat.le_trans dv (show _ ≤ 68719476736 by decide)
  have md : blen (q.num.natAbs % q.den) ≤ 68719476736 := blen_le_of (Nat.le_of_lt (Nat.mod_lt _ a5)) a4
  have b1 : blen 1 ≤ 68719476736 := by decide
  have d1 : blen (q.num.natAbs / q.den + 1) ≤ 68719476736 := Nat.le_trans (blen_add_le dv (show blen 1 ≤ 34359738368 by decide)) (by decide)
  unfold fC
  refine CSpec_vc (E := ⟨T2, Ft1⟩) (fn40 hP) HE hP.mix rfl (by first | rfl | (simp only [go_sem]; done)) (by first | rfl | (simp only [go_sem]; done)) (Nat.le_of_ble_eq_true rfl) ?_
  by_cases h1 : q.num < 0
  · have hz : (0 ≤ q.num) = False := eq_false (by omega)
    by_cases h2 : 0 < q.num.natAbs % q.den
    · rw [flo_neg h1 h2]
      simp (maxSteps := 1000000) only [go_sem, a1, a2, a3, a4, a6, dz, dv', md, b1, d1, sgn_nn, h1, hz, h2, blen_pos']
      (repeat' (first | exact Conv.refl _ | refine And.intro ?_ ?_)) <;> first | omega | decide
    · rw [flo_negz h1 h2]
      simp (maxSteps := 1000000) only [go_sem, a1, a2, a3, a4, a6, dz, dv', md, b1, d1, sgn_nn, h1, hz, h2, blen_pos']
      (repeat' (first | exact Conv.refl _ | refine And.intro ?_ ?_)) <;> first | omega | decide
  · have hz : (0 ≤ q.num) = True := eq_true (by omega)
    rw [flo_pos h1]
    simp (maxSteps := 1000000) only [go_sem, a1, a2, a3, a4, a6, dz, dv', md, b1, d1, sgn_nn, h1, hz]
    (repeat' (first | exact Conv.refl _ | refine And.intro ?_ ?_)) <;> first | omega | decide
noncomputable def fFloS : List AV → Option (Prop × AV) := onF1 fun q => (fl q ≤ FB, (.agg [.opq (.whole (flo q)), .pad, .pad]))
theorem fFloS_ok (hP : PrgOk P) (args p r) : fFloS args = some (p, r) → p → CSpec P 40 args r := onF1_ok (fun a h => by exact fFlo_spec hP a h) args p r
theorem qtS_one {q : Rat} (h : q.den = 1) : qtS q = itS q.num := by unfold qtS; rw [if_pos h]
theorem qtS_two {q : Rat} (h : ¬ q.den = 1) : qtS q = itS q.num ++ ⟨#[47]⟩ ++ decS q.den := by unfold qtS; rw [if_neg h]
theorem fText_spec (hP : PrgOk P) (q : Rat) (h : fl q ≤ FB) : CSpec P 13 [(.agg [.opq (.frac (q)), .pad, .pad, .pad, .pad])] (.str (qtS q)) := by
  have HE := Ft1_all hP T2 hP.t2
  refine CSpec.cv ?_ (.fracIn q .nil)
  have a1 : wl q.num ≤ 34359738368 := Nat.le_trans (fl_num h) (by decide)
  have a2 : blen q.den ≤ 34359738368 := Nat.le_trans (fl_den h) (by decide)
  have a3 : wl q.num ≤ 68719476736 := Nat.le_trans (fl_num h) (by decide)
  have a4 : blen q.den ≤ 68719476736 := Nat.le_trans (fl_den h) (by decide)
  have a5 : 0 < q.den := q.den_pos
  have hb : (blen (q.den - 1) == 0) = decide (q.den = 1) := by
    rw [Bool.eq_iff_iff]; simp only [beq_iff_eq, decide_eq_true_eq, blen_zero_iff]; omega
  have hl : blen (q.den - 1) ≤ 68719476736 := blen_le_of (Nat.sub_le _ _) a4
  have hb0 : (blen 0 == 0) = true := by decide
  have s1 : (itS q.num).size + (#[47] : Array UInt8).size ≤ 9223372036854775807 := by
    have hf : FB = 1073741824 := rfl
    rw [size_bl]; have := itS_len (fl_num h); have : (#[47] : Array UInt8).size = 1 := rfl
    omega
  have s2 : (itS q.num).size + (#[47] : Array UInt8).size + (decS q.den).size ≤ 9223372036854775807 := by
    have hf : FB = 1073741824 := rfl
    rw [size_bl, decS_size]
    have := itS_len (fl_num h); have := decL_len q.den; have := fl_den h; have : (#[47] : Array UInt8).size = 1 := rfl
    omega
  unfold fC
  refine CSpec_vc (E := ⟨T2, Ft1⟩) (fn13 hP) HE hP.mix rfl (by first | rfl | (simp only [go_sem]; done)) (by first | rfl | (simp only [go_sem]; done)) (Nat.le_of_ble_eq_true rfl) ?_
  by_cases h1 : q.den = 1
  · rw [qtS_one h1]
    simp (maxSteps := 1000000) only [go_sem, a1, a2, a3, a4, hb, hb0, hl, h1]
    (repeat' (first | exact Conv.refl _ | refine And.intro ?_ ?_)) <;> first | omega | decide
  · rw [qtS_two h1]
    simp (maxSteps := 1000000) only [go_sem, a1, a2, a3, a4, hb, hl, h1, s1, s2]
    (repeat' (first | exact Conv.refl _ | refine And.intro ?_ ?_)) <;> first | omega | decide
noncomputable def fTextS : List AV → Option (Prop × AV) := onF1 fun q => (fl q ≤ FB, .str (qtS q))
theorem fTextS_ok (hP : PrgOk P) (args p r) : fTextS args = some (p, r) → p → CSpec P 13 args r := onF1_ok (fun a h => by exact fText_spec hP a h) args p r
theorem int_div {a b : Int} (h : b ≠ 0) : (a : Rat) / (b : Rat) = mkRat (a * sgnZ b) b.natAbs := by
  have := div_mk (a := (a : Rat)) (b := (b : Rat)) (by simpa using h)
  rw [this]
  show mkRat (a * sgnZ b * 1) (1 * b.natAbs) = _
  rw [Int.mul_one, Nat.one_mul]
theorem fMake_spec (hP : PrgOk P) (a b : Int) (ha : wl a ≤ FB) (hb : wl b ≤ FB) : CSpec P 11 [(.agg [.opq (.whole (a)), .pad, .pad]), (.agg [.opq (.whole (b)), .pad, .pad])] (if b = 0 then .tup [(.agg [.opq (.frac (0)), .pad, .pad, .pad, .pad]), .int .i64 11] else .tup [(.agg [.opq (.frac (qdiv (a : Rat) (b : Rat))), .pad, .pad, .pad, .pad]), .int .i64 0]) := by
  have HE := Ft1_all hP TF hP.tF
  have a1 : wl a ≤ 34359738368 := Nat.le_trans ha (by decide)
  have a2 : wl a ≤ 68719476736 := Nat.le_trans ha (by decide)
  have b2 : wl b ≤ 68719476736 := Nat.le_trans hb (by decide)
  have b1 : blen b.natAbs ≤ 34359738368 := Nat.le_trans hb (by decide)
  have n1 : wl (-a) ≤ 34359738368 := wl_neg' a1
  refine CSpec_vc (E := ⟨TF, Ft1⟩) (fn11 hP) HE hP.mix rfl (by first | rfl | (simp only [go_sem]; done)) (by first | rfl | (simp only [go_sem]; done)) (Nat.le_of_ble_eq_true rfl) ?_
  by_cases h0 : b = 0
  · have hs : sgnZ b = 0 := by rw [h0]; rfl
    rw [if_pos h0]
    simp (maxSteps := 1000000) only [go_sem, b2, hs]
    (repeat' (first | exact Conv.refl _ | refine And.intro ?_ ?_)) <;> first | omega | decide
  · have hs : (sgnZ b == 0) = false := by rw [sgn_zero, decide_eq_false h0]
    have hp : 0 < b.natAbs := by omega
    rw [if_neg h0, qdiv_eq, int_div h0, ← qlow_eq]
    by_cases h1 : b < 0
    · have e : a * sgnZ b = -a := by
        unfold sgnZ; rw [if_neg h0, if_pos h1]; omega
      rw [e]
      simp (maxSteps := 1000000) only [go_sem, a1, a2, b1, b2, hs, sgn_neg, h1, n1, hp]
      (repeat' (first | exact Conv.refl _ | refine And.intro ?_ ?_)) <;> first | omega | decide
    · have e : a * sgnZ b = a := by
        unfold sgnZ; rw [if_neg h0, if_neg h1]; omega
      rw [e]
      simp (maxSteps := 1000000) only [go_sem, a1, a2, b1, b2, hs, sgn_neg, h1, n1, hp]
      (repeat' (first | exact Conv.refl _ | refine And.intro ?_ ?_)) <;> first | omega | decide
noncomputable def fMakeS : List AV → Option (Prop × AV) := onW2 fun a b => (wl a ≤ FB ∧ wl b ≤ FB, if b = 0 then .tup [(.agg [.opq (.frac (0)), .pad, .pad, .pad, .pad]), .int .i64 11] else .tup [(.agg [.opq (.frac (qdiv (a : Rat) (b : Rat))), .pad, .pad, .pad, .pad]), .int .i64 0])
theorem fMakeS_ok (hP : PrgOk P) (args p r) : fMakeS args = some (p, r) → p → CSpec P 11 args r := onW2_ok (fun a b h => by exact fMake_spec hP a b h.1 h.2) args p r
attribute [go_sem] fFloS fTextS fMakeS
noncomputable def Ft4 : Nat → List AV → Option (Prop × AV) := addS (addS (addS Ft3 40 fFloS) 13 fTextS) 11 fMakeS
theorem Ft4_all (hP : PrgOk P) (T) (hT : TyOk P T) : EnvOk P ⟨T, Ft4⟩ := ((((Ft3_all hP T hT).add (fFloS_ok hP)).add (fTextS_ok hP)).add (fMakeS_ok hP))
theorem Ft4_at (f a) : Ft4 f a = (addS (addS (addS Ft3 40 fFloS) 13 fTextS) 11 fMakeS) f a := rfl
attribute [go_sem] Ft4_at
end Go.Proofs.YtjnhekedclcbfaaGreatDoor.AM
