/- The document's numbers: quotients and rests. -/
import Derived.Test.YtokoagkbfdkacaaB7
namespace Go.Proofs.Ytokoagkbfdkacaa.AM
set_option linter.all false
set_option autoImplicit true
set_option relaxedAutoImplicit true
open Go Go.Proofs
set_option maxRecDepth 100000
set_option maxHeartbeats 8000000
set_option linter.unusedSimpArgs false
variable {P : Program}

noncomputable def Sm : Nat → List AV → Option (Prop × AV) := addS Sl 70 rMulS
theorem Sm_ok (hP : PrgOk P) : EnvOk P ⟨T0, Sm⟩ := (Sl_ok hP).add (rMulS_ok hP)
attribute [go_sem] Sm

/-- A rest: none yet, or a number. -/
def rv : Option Nat → AV
  | none => .nils
  | some r => (.imm (digs 65536 (r)).length (List.map (fun d : Nat => AV.int .u32 (d : Int)) (digs 65536 (r))))
theorem rv_some (r : Nat) : rv (some r) = (.imm (digs 65536 (r)).length (List.map (fun d : Nat => AV.int .u32 (d : Int)) (digs 65536 (r)))) := rfl
attribute [go_sem] rv_some
def ru : Option Nat → Nat
  | none => 0
  | some r => r
theorem blen_17 {m : Nat} (h : m ≤ 65536) : blen m ≤ 17 := (blen_le_iff m 17).2 (by omega)
theorem objOnly_F {L : List Nat} {l : List Nat} : objOnly L (AObj.live (List.map (fun d : Nat => AV.int .u32 (d : Int)) (l))).freeze = true := objOnly_U (k := .u32) (l := l)
theorem dOf_split_at (b : Nat) (l : List Nat) (i : Nat) (h : i ≤ l.length) : dOf b l = dOf b (l.take i) + b ^ i * dOf b (l.drop i) := by
  conv => lhs; rw [← List.take_append_drop i l]
  rw [dOf_append, List.length_take, Nat.min_eq_left h]
theorem rDiv_spec (hP : PrgOk P) (a b : Nat) (ha : blen a ≤ 68719476736) (hb : blen b ≤ 34359738368) (h0 : 0 < b) : CSpec P 56 [(.imm (digs 65536 (a)).length (List.map (fun d : Nat => AV.int .u32 (d : Int)) (digs 65536 (a)))), (.imm (digs 65536 (b)).length (List.map (fun d : Nat => AV.int .u32 (d : Int)) (digs 65536 (b))))] (.tup [(.imm (digs 65536 (a / b)).length (List.map (fun d : Nat => AV.int .u32 (d : Int)) (digs 65536 (a / b)))), (.imm (digs 65536 (a % b)).length (List.map (fun d : Nat => AV.int .u32 (d : Int)) (digs 65536 (a % b))))]) := by
  have HE := Sm_ok hP
  have hxd : ∀ d ∈ digs 65536 a, d < 65536 := digs_lt 65536 a (by decide)
  have hx := dOf_digs 65536 a (by decide)
  have hlx := rlen_blen a
  refine CSpec_vc (E := ⟨T0, Sm⟩) (fn56 hP) HE hP.mix rfl (by first | rfl | (simp only [go_sem]; done)) (by first | rfl | (simp only [go_sem]; done)) (Nat.le_of_ble_eq_true rfl) ?_
  generalize digs 65536 a = x at *
  have hi2 : x.length ≤ 1099511627776 := by omega
  have hw : IntKind.i64.wrap ((x.length : Int) - 1) = (x.length : Int) - 1 := by rw [IntKind.wrap_i64]; omega
  simp (maxSteps := 1000000) only [go_sem, hi2, hw]
  refine trX_loop HE hP.mix [4] (fun q : Nat × List Nat × Option Nat => ⟨upd (upd (upd (upd (upd (fun _ => .junk) 0 (.imm x.length (List.map (fun d : Nat => AV.int .u32 (d : Int)) (x)))) 1 (.imm (digs 65536 (b)).length (List.map (fun d : Nat => AV.int .u32 (d : Int)) (digs 65536 (b))))) 6 (.sl 4 0 x.length 1)) 7 (rv q.2.2)) 8 (.int .i64 ((q.1 : Int) - 1)), upd (fun _ => .unused) 4 (.live (List.map (fun d : Nat => AV.int .u32 (d : Int)) (q.2.1))), 63⟩)
    (fun q => q.1 ≤ x.length ∧ q.2.1.length = x.length ∧ (∀ d ∈ q.2.1, d < 65536) ∧ dOf 65536 (x.drop q.1) = dOf 65536 (q.2.1.drop q.1) * b + ru q.2.2 ∧ ru q.2.2 < b ∧ True) (fun q => q.1) (x.length, List.replicate x.length 0, none) 100
    (by repeat (first | exact Has.nil | refine Has.upd rfl ?_)) (Kept.of rfl (by repeat (first | exact KT.nil | refine KT.upd rfl (by first | rfl | exact hr | exact hr2 | (simp only [go_sem]; done)) ?_)) (KM.p (by repeat (first | exact KMp.nil | refine KMp.upd rfl (by first | rfl | (simp only [go_sem]; done)) ?_)))) ⟨by simp, by simp, by intro d hd; rw [List.eq_of_mem_replicate hd]; decide, by simp [dOf, ru], h0, trivial⟩ 63 (by kernel_rfl) ?_
  rintro ⟨i, z, r⟩ ⟨q1, q2, q3, q4, q5, q6⟩
  simp only [] at q1 q2 q3 q4 q5 q6
  cases i with
  | zero =>
    have hsl : x.length < 4611686018427387904 := by omega
    have hz3 : (∀ d ∈ z, d < 65536) = True := eq_true q3
    have htk : z.take x.length = z := List.take_of_length_le (by omega)
    simp only [List.drop_zero] at q4
    obtain ⟨k1, k2⟩ := divmod_of (A := a) (by rw [← hx]; exact q4.symm) q5
    have hn0 : decide ((0 : Int) ≤ ((0 : Nat) : Int) - 1) = false := rfl
    cases r with
    | none =>
      simp only [rv]
      simp (maxSteps := 1000000) only [go_sem, hn0, htk, q2, hz3, hsl]
      rw [← k1, ← k2]
      have e : CvL [(.imm (digs 65536 (dOf 65536 z)).length (List.map (fun d : Nat => AV.int .u32 (d : Int)) (digs 65536 (dOf 65536 z)))), .nils] [(.imm (digs 65536 (dOf 65536 z)).length (List.map (fun d : Nat => AV.int .u32 (d : Int)) (digs 65536 (dOf 65536 z)))), (.imm (digs 65536 (0)).length (List.map (fun d : Nat => AV.int .u32 (d : Int)) (digs 65536 (0))))] := .cons rfl (by
        have e : digs 65536 0 = [] := digs_zero _
        rw [e]; exact .nilR .nil)
      exact CvL.conv (CvL.tup e .nil)
    | some r =>
      simp only [rv]
      simp (maxSteps := 1000000) only [go_sem, hn0, htk, q2, hz3, hsl]
      rw [← k1, ← k2]
      exact .refl _
  | succ i =>
    have hi : i < x.length := by omega
    have hi3 : i ≤ x.length := by omega
    have hxi := hxd _ (getD_mem hi)
    have f1 : IntKind.i64.wrap ((i : Int) - 1) = (i : Int) - 1 := by rw [IntKind.wrap_i64]; omega
    have f2 : ((i + 1 : Nat) : Int) - 1 = (i : Int) := by omega
    obtain ⟨R, hR⟩ : ∃ R, x.getD i 0 + 65536 * ru r = R := ⟨_, rfl⟩
    have hRb : R < 65536 * b := by omega
    have hdR : dOf 65536 (x.drop i) = 65536 * (dOf 65536 (z.drop (i + 1)) * b) + R := by
      rw [drop_cons hi, dOf, q4]; omega
    have hRa : R ≤ a := by
      have e := dOf_split_at 65536 x i hi3
      rw [hx, hdR] at e
      have : R ≤ 65536 ^ i * (65536 * (dOf 65536 (z.drop (i + 1)) * b) + R) := Nat.le_trans (Nat.le_add_left _ _) (Nat.le_mul_of_pos_left _ (Nat.pow_pos (by decide)))
      omega
    have hRl : blen R ≤ 68719476736 := blen_le_of hRa ha
    cases r with
    | none =>
      have e1 : dOf 65536 [ud (AV.int .u32 ((x.getD i 0 : Nat) : Int))] = R := by rw [← hR]; simp [dOf, ud, ru]
      have e2 : [AV.int IntKind.u32 ((x.getD i 0 : Nat) : Int)] = [AV.int IntKind.u32 ((ud (AV.int IntKind.u32 ((x.getD i 0 : Nat) : Int)) : Nat) : Int)] := rfl
      have e3 : ud (AV.int IntKind.u32 ((x.getD i 0 : Nat) : Int)) < 65536 := hxi
      simp only [rv, f2]
      simp (maxSteps := 1000000) only [go_sem, hi, hi3, gU' hi, hxi, e1]
      refine ⟨fun h => h, ⟨e2, e3, by simp⟩, ?_⟩
      refine trX_loop HE hP.mix [108, 106, 4] (fun q : Nat × Nat => ⟨upd (upd (upd (upd (upd (upd (upd (fun _ => .junk) 0 (.imm x.length (List.map (fun d : Nat => AV.int .u32 (d : Int)) (x)))) 1 (.imm (digs 65536 (b)).length (List.map (fun d : Nat => AV.int .u32 (d : Int)) (digs 65536 (b))))) 6 (.sl 4 0 x.length 1)) 7 (.imm (digs 65536 (R)).length (List.map (fun d : Nat => AV.int .u32 (d : Int)) (digs 65536 (R))))) 8 (.int .i64 (i : Int))) 9 (.int .u64 (q.1 : Int))) 10 (.int .u64 (q.2 : Int)), upd (upd (upd (fun _ => .unused) 4 (.live (List.map (fun d : Nat => AV.int .u32 (d : Int)) (z)))) 106 .gone) 108 (AObj.live ([.int .u32 ((x.getD i 0 : Nat) : Int)])).freeze, 63⟩)
        (fun q => q.1 < q.2 ∧ q.2 ≤ 65536 ∧ q.1 * b ≤ R ∧ R < q.2 * b) (fun q => q.2 - q.1) (0, 65536) 200
        (by repeat (first | exact Has.nil | refine Has.upd rfl ?_)) (Kept.of rfl (by repeat (first | exact KT.nil | refine KT.upd rfl (by first | rfl | exact hr | exact hr2 | (simp only [go_sem]; done)) ?_)) (KM.p (by repeat (first | exact KMp.nil | refine KMp.upd rfl (by first | rfl | exact objOnly_F) ?_)))) ⟨by decide, by simp, by simp, hRb⟩ 63 (by kernel_rfl) ?_
      rintro ⟨lo, hh⟩ ⟨p1, p2, p3, p4⟩
      simp only [] at p1 p2 p3 p4
      have w1 : IntKind.u64.wrap ((hh : Int) - (lo : Int)) = ((hh - lo : Nat) : Int) := by rw [IntKind.wrap_u64]; omega
      by_cases hg : 1 < hh - lo
      · have w2 : IntKind.u64.wrap ((lo : Int) + (hh : Int)) = ((lo + hh : Nat) : Int) := by rw [IntKind.wrap_u64]; omega
        obtain ⟨m, hm⟩ : ∃ m, (lo + hh) / 2 = m := ⟨_, rfl⟩
        have w3 : ((lo + hh : Nat) : Int).tdiv 2 = (m : Int) := by rw [← hm]; rfl
        have w4 : IntKind.u64.wrap (m : Int) = (m : Int) := by rw [IntKind.wrap_u64]; omega
        have w5 : ((0 : Int) ≤ (m : Int)) = True := eq_true (by omega)
        have w6 : ((m : Int) < 18446744073709551616) = True := eq_true (by omega)
        have hmb : blen m ≤ 17 := blen_17 (by omega)
        have w7 : blen m ≤ 68719476736 := Nat.le_trans hmb (by decide)
        have w8 : blen b ≤ 68719476736 := Nat.le_trans hb (by decide)
        have w9 : blen (m * b) ≤ 68719476736 := Nat.le_trans (blen_mul_le hmb hb) (by decide)
        rcases Nat.lt_or_ge R (m * b) with hc | hc
        · have w10 : decide (cmpI (m * b) R ≤ 0) = false := by rw [cmpI_gt hc]; rfl
          simp (maxSteps := 1000000) only [go_sem, w1, hg, w2, w3, w4, w5, w6, w7, w8, w9, hRl, Int.toNat_natCast, w10]
          exact ⟨by decide, (lo, m), Kept.of rfl (by repeat (first | exact KT.nil | refine KT.upd rfl (by first | rfl | exact hr | exact hr2 | (simp only [go_sem]; done)) ?_)) (KM.p (by repeat (first | exact KMp.nil | refine KMp.upd rfl (by first | rfl | exact objOnly_F) ?_))), ⟨by simp only []; omega, by simp only []; omega, p3, hc⟩, by simp only []; omega⟩
        · have w10 : decide (cmpI (m * b) R ≤ 0) = true := by
            rcases Nat.lt_or_eq_of_le hc with h | h
            · rw [cmpI_lt h]; rfl
            · rw [h, cmpI_eq]; rfl
          simp (maxSteps := 1000000) only [go_sem, w1, hg, w2, w3, w4, w5, w6, w7, w8, w9, hRl, Int.toNat_natCast, w10]
          exact ⟨by decide, (m, hh), Kept.of rfl (by repeat (first | exact KT.nil | refine KT.upd rfl (by first | rfl | exact hr | exact hr2 | (simp only [go_sem]; done)) ?_)) (KM.p (by repeat (first | exact KMp.nil | refine KMp.upd rfl (by first | rfl | exact objOnly_F) ?_))), ⟨by simp only []; omega, p2, hc, p4⟩, by simp only []; omega⟩
      · have hll : hh = lo + 1 := by omega
        have w4 : IntKind.u32.wrap (lo : Int) = (lo : Int) := by rw [IntKind.wrap_u32]; omega
        have w5 : ((0 : Int) ≤ (lo : Int)) = True := eq_true (by omega)
        have w6 : ((lo : Int) < 18446744073709551616) = True := eq_true (by omega)
        have hmb : blen lo ≤ 17 := blen_17 (by omega)
        have w7 : blen lo ≤ 68719476736 := Nat.le_trans hmb (by decide)
        have w8 : blen b ≤ 68719476736 := Nat.le_trans hb (by decide)
        have hz : i < z.length := by omega
        simp (maxSteps := 1000000) only [go_sem, w1, hg, w4, w5, w6, w7, w8, hRl, Int.toNat_natCast, hi, hi3, hz, p3, f1, plain_U hz]
        refine ⟨(i, z.set i lo, some (R - lo * b)), Kept.of rfl (by repeat (first | exact KT.nil | refine KT.upd rfl (by first | rfl | exact hr | exact hr2 | (simp only [go_sem]; done)) ?_)) (KM.p (by repeat (first | exact KMp.nil | refine KMp.upd rfl (by first | rfl | (simp only [go_sem]; done)) ?_))), ⟨by simp only []; omega, by rw [List.length_set]; exact q2, fun d hd => ?_, ?_, ?_⟩, by simp only []; omega⟩
        · rcases List.mem_or_eq_of_mem_set hd with hd | rfl
          · exact q3 d hd
          · omega
        · simp only [ru]
          rw [hdR, drop_cons (w := z.set i lo) (by rw [List.length_set]; exact hz), getD_set_eq _ _ _ hz, List.drop_set_of_lt (by omega), dOf, Nat.add_mul, Nat.mul_assoc]
          omega
        · rw [hll, Nat.succ_mul] at p4
          simp only [ru]
          omega
    | some r =>
      obtain ⟨l, hl⟩ : ∃ l, x.getD i 0 :: digs 65536 r = l := ⟨_, rfl⟩
      have e0 : AV.int IntKind.u32 ((x.getD i 0 : Nat) : Int) :: (List.map (fun d : Nat => AV.int .u32 (d : Int)) (digs 65536 r)) = (List.map (fun d : Nat => AV.int .u32 (d : Int)) (l)) := by rw [← hl]; rfl
      have e1 : l.length = 1 + (digs 65536 r).length := by rw [← hl, List.length_cons, Nat.add_comm]
      have e2 : dOf 65536 l = R := by rw [← hl, ← hR, dOf, dOf_digs 65536 r (by decide)]; rfl
      have e3 : (∀ d ∈ l, d < 65536) = True := eq_true (fun d hd => by
        rw [← hl] at hd
        rcases List.mem_cons.1 hd with rfl | hd
        · exact hxi
        · exact digs_lt 65536 r (by decide) d hd)
      have e4 := rlen_blen r
      have e5 : blen r ≤ 34359738368 := blen_le_of (Nat.le_of_lt (by simpa [ru] using q5)) hb
      have e6 : List.take (1 + (digs 65536 r).length) (List.map (fun d : Nat => AV.int .u32 (d : Int)) (l)) = (List.map (fun d : Nat => AV.int .u32 (d : Int)) (l)) := List.take_of_length_le (by rw [List.length_map]; omega)
      have e7 : List.drop (1 + (digs 65536 r).length) (List.map (fun d : Nat => AV.int .u32 (d : Int)) (l)) = [] := List.drop_of_length_le (by rw [List.length_map]; omega)
      have e8 : (1 + (digs 65536 r).length) * 4 ≤ 1099511627776 := by omega
      have e9 : 1 + (digs 65536 r).length < 4611686018427387904 := by omega
      simp only [rv, f2]
      simp (maxSteps := 1000000) only [go_sem, hi, hi3, gU' hi, hxi, e0, e6, e7, map_ud32, e1, e2, e3, e8, e9]
      refine ⟨fun h => h.elim, ?_⟩
      refine trX_loop HE hP.mix [108, 106, 4] (fun q : Nat × Nat => ⟨upd (upd (upd (upd (upd (upd (upd (fun _ => .junk) 0 (.imm x.length (List.map (fun d : Nat => AV.int .u32 (d : Int)) (x)))) 1 (.imm (digs 65536 (b)).length (List.map (fun d : Nat => AV.int .u32 (d : Int)) (digs 65536 (b))))) 6 (.sl 4 0 x.length 1)) 7 (.imm (digs 65536 (R)).length (List.map (fun d : Nat => AV.int .u32 (d : Int)) (digs 65536 (R))))) 8 (.int .i64 (i : Int))) 9 (.int .u64 (q.1 : Int))) 10 (.int .u64 (q.2 : Int)), upd (upd (upd (fun _ => .unused) 4 (.live (List.map (fun d : Nat => AV.int .u32 (d : Int)) (z)))) 106 .gone) 108 (AObj.live ((List.map (fun d : Nat => AV.int .u32 (d : Int)) (l)))).freeze, 63⟩)
        (fun q => q.1 < q.2 ∧ q.2 ≤ 65536 ∧ q.1 * b ≤ R ∧ R < q.2 * b) (fun q => q.2 - q.1) (0, 65536) 200
        (by repeat (first | exact Has.nil | refine Has.upd rfl ?_)) (Kept.of rfl (by repeat (first | exact KT.nil | refine KT.upd rfl (by first | rfl | exact hr | exact hr2 | (simp only [go_sem]; done)) ?_)) (KM.p (by repeat (first | exact KMp.nil | refine KMp.upd rfl (by first | rfl | exact objOnly_F) ?_)))) ⟨by decide, by simp, by simp, hRb⟩ 63 (by kernel_rfl) ?_
      rintro ⟨lo, hh⟩ ⟨p1, p2, p3, p4⟩
      simp only [] at p1 p2 p3 p4
      have w1 : IntKind.u64.wrap ((hh : Int) - (lo : Int)) = ((hh - lo : Nat) : Int) := by rw [IntKind.wrap_u64]; omega
      by_cases hg : 1 < hh - lo
      · have w2 : IntKind.u64.wrap ((lo : Int) + (hh : Int)) = ((lo + hh : Nat) : Int) := by rw [IntKind.wrap_u64]; omega
        obtain ⟨m, hm⟩ : ∃ m, (lo + hh) / 2 = m := ⟨_, rfl⟩
        have w3 : ((lo + hh : Nat) : Int).tdiv 2 = (m : Int) := by rw [← hm]; rfl
        have w4 : IntKind.u64.wrap (m : Int) = (m : Int) := by rw [IntKind.wrap_u64]; omega
        have w5 : ((0 : Int) ≤ (m : Int)) = True := eq_true (by omega)
        have w6 : ((m : Int) < 18446744073709551616) = True := eq_true (by omega)
        have hmb : blen m ≤ 17 := blen_17 (by omega)
        have w7 : blen m ≤ 68719476736 := Nat.le_trans hmb (by decide)
        have w8 : blen b ≤ 68719476736 := Nat.le_trans hb (by decide)
        have w9 : blen (m * b) ≤ 68719476736 := Nat.le_trans (blen_mul_le hmb hb) (by decide)
        rcases Nat.lt_or_ge R (m * b) with hc | hc
        · have w10 : decide (cmpI (m * b) R ≤ 0) = false := by rw [cmpI_gt hc]; rfl
          simp (maxSteps := 1000000) only [go_sem, w1, hg, w2, w3, w4, w5, w6, w7, w8, w9, hRl, Int.toNat_natCast, w10]
          exact ⟨by decide, (lo, m), Kept.of rfl (by repeat (first | exact KT.nil | refine KT.upd rfl (by first | rfl | exact hr | exact hr2 | (simp only [go_sem]; done)) ?_)) (KM.p (by repeat (first | exact KMp.nil | refine KMp.upd rfl (by first | rfl | exact objOnly_F) ?_))), ⟨by simp only []; omega, by simp only []; omega, p3, hc⟩, by simp only []; omega⟩
        · have w10 : decide (cmpI (m * b) R ≤ 0) = true := by
            rcases Nat.lt_or_eq_of_le hc with h | h
            · rw [cmpI_lt h]; rfl
            · rw [h, cmpI_eq]; rfl
          simp (maxSteps := 1000000) only [go_sem, w1, hg, w2, w3, w4, w5, w6, w7, w8, w9, hRl, Int.toNat_natCast, w10]
          exact ⟨by decide, (m, hh), Kept.of rfl (by repeat (first | exact KT.nil | refine KT.upd rfl (by first | rfl | exact hr | exact hr2 | (simp only [go_sem]; done)) ?_)) (KM.p (by repeat (first | exact KMp.nil | refine KMp.upd rfl (by first | rfl | exact objOnly_F) ?_))), ⟨by simp only []; omega, p2, hc, p4⟩, by simp only []; omega⟩
      · have hll : hh = lo + 1 := by omega
        have w4 : IntKind.u32.wrap (lo : Int) = (lo : Int) := by rw [IntKind.wrap_u32]; omega
        have w5 : ((0 : Int) ≤ (lo : Int)) = True := eq_true (by omega)
        have w6 : ((lo : Int) < 18446744073709551616) = True := eq_true (by omega)
        have hmb : blen lo ≤ 17 := blen_17 (by omega)
        have w7 : blen lo ≤ 68719476736 := Nat.le_trans hmb (by decide)
        have w8 : blen b ≤ 68719476736 := Nat.le_trans hb (by decide)
        have hz : i < z.length := by omega
        simp (maxSteps := 1000000) only [go_sem, w1, hg, w4, w5, w6, w7, w8, hRl, Int.toNat_natCast, hi, hi3, hz, p3, f1, plain_U hz]
        refine ⟨(i, z.set i lo, some (R - lo * b)), Kept.of rfl (by repeat (first | exact KT.nil | refine KT.upd rfl (by first | rfl | exact hr | exact hr2 | (simp only [go_sem]; done)) ?_)) (KM.p (by repeat (first | exact KMp.nil | refine KMp.upd rfl (by first | rfl | (simp only [go_sem]; done)) ?_))), ⟨by simp only []; omega, by rw [List.length_set]; exact q2, fun d hd => ?_, ?_, ?_⟩, by simp only []; omega⟩
        · rcases List.mem_or_eq_of_mem_set hd with hd | rfl
          · exact q3 d hd
          · omega
        · simp only [ru]
          rw [hdR, drop_cons (w := z.set i lo) (by rw [List.length_set]; exact hz), getD_set_eq _ _ _ hz, List.drop_set_of_lt (by omega), dOf, Nat.add_mul, Nat.mul_assoc]
          omega
        · rw [hll, Nat.succ_mul] at p4
          simp only [ru]
          omega
def rDivS : List AV → Option (Prop × AV) := onR2 fun a b => (blen a ≤ 68719476736 ∧ blen b ≤ 34359738368 ∧ 0 < b, .tup [(.imm (digs 65536 (a / b)).length (List.map (fun d : Nat => AV.int .u32 (d : Int)) (digs 65536 (a / b)))), (.imm (digs 65536 (a % b)).length (List.map (fun d : Nat => AV.int .u32 (d : Int)) (digs 65536 (a % b))))])
theorem rDivS_ok (hP : PrgOk P) (args p r) : rDivS args = some (p, r) → p → CSpec P 56 args r := onR2_ok (fun a b h => by exact rDiv_spec hP a b h.1 h.2.1 h.2.2) args p r
attribute [go_sem] rDivS
end Go.Proofs.Ytokoagkbfdkacaa.AM
/- The document's numbers: the greatest divisor, the text. -/
namespace Go.Proofs.Ytokoagkbfdkacaa.AM
set_option linter.all false
set_option autoImplicit true
set_option relaxedAutoImplicit true
open Go Go.Proofs
set_option maxRecDepth 100000
set_option maxHeartbeats 8000000
set_option linter.unusedSimpArgs false
variable {P : Program}

noncomputable def Sn : Nat → List AV → Option (Prop × AV) := addS Sm 56 rDivS
theorem Sn_ok (hP : PrgOk P) : EnvOk P ⟨T0, Sn⟩ := (Sm_ok hP).add (rDivS_ok hP)
attribute [go_sem] Sn

theorem rlen_pos {a : Nat} : 0 < (digs 65536 a).length ↔ 0 < a := by
  constructor
  · intro h
    rcases Nat.eq_zero_or_pos a with e | e
    · rw [e, digs_zero] at h; simp at h
    · exact e
  · intro h
    rcases Nat.eq_zero_or_pos (digs 65536 a).length with e | e
    · have := dOf_digs 65536 a (by decide)
      rw [List.length_eq_zero_iff.1 e] at this
      simp [dOf] at this; omega
    · exact e
theorem rlen_pos_eq {a : Nat} : decide (0 < (digs 65536 a).length) = decide (0 < a) := decide_eq_decide.2 rlen_pos
theorem rGcd_spec (hP : PrgOk P) (a b : Nat) (ha : blen a ≤ 34359738368) (hb : blen b ≤ 34359738368) : CSpec P 66 [(.imm (digs 65536 (a)).length (List.map (fun d : Nat => AV.int .u32 (d : Int)) (digs 65536 (a)))), (.imm (digs 65536 (b)).length (List.map (fun d : Nat => AV.int .u32 (d : Int)) (digs 65536 (b))))] (.imm (digs 65536 (Nat.gcd a b)).length (List.map (fun d : Nat => AV.int .u32 (d : Int)) (digs 65536 (Nat.gcd a b)))) := by
  have HE := Sn_ok hP
  refine CSpec_vc (E := ⟨T0, Sn⟩) (fn66 hP) HE hP.mix rfl (by first | rfl | (simp only [go_sem]; done)) (by first | rfl | (simp only [go_sem]; done)) (Nat.le_of_ble_eq_true rfl) ?_
  simp (maxSteps := 1000000) only [go_sem]
  refine trX_loop HE hP.mix [] (fun q : Nat × Nat => ⟨upd (upd (fun _ => .junk) 0 (.imm (digs 65536 (q.1)).length (List.map (fun d : Nat => AV.int .u32 (d : Int)) (digs 65536 (q.1))))) 1 (.imm (digs 65536 (q.2)).length (List.map (fun d : Nat => AV.int .u32 (d : Int)) (digs 65536 (q.2)))), fun _ => .unused, 19⟩)
    (fun q => blen q.1 ≤ 34359738368 ∧ blen q.2 ≤ 34359738368 ∧ Nat.gcd q.1 q.2 = Nat.gcd a b) (fun q => q.2) (a, b) 10
    (by repeat (first | exact Has.nil | refine Has.upd rfl ?_)) (Kept.of rfl (by repeat (first | exact KT.nil | refine KT.upd rfl (by first | rfl | exact hr | exact hr2 | (simp only [go_sem]; done)) ?_)) (KM.p (by repeat (first | exact KMp.nil | refine KMp.upd rfl (by first | rfl | (simp only [go_sem]; done)) ?_)))) ⟨ha, hb, rfl⟩ 19 (by kernel_rfl) ?_
  rintro ⟨x, y⟩ ⟨h1, h2, h3⟩
  simp only [] at h1 h2 h3
  have h1' : blen x ≤ 68719476736 := Nat.le_trans h1 (by decide)
  by_cases hy : 0 < y
  · have hl : 0 < (digs 65536 y).length := rlen_pos.2 hy
    have hml := Nat.mod_lt x hy
    simp (maxSteps := 1000000) only [go_sem, hl, h1', h2, hy]
    exact ⟨(y, x % y), Kept.of rfl (by repeat (first | exact KT.nil | refine KT.upd rfl (by first | rfl | exact hr | exact hr2 | (simp only [go_sem]; done)) ?_)) (KM.p (by repeat (first | exact KMp.nil | refine KMp.upd rfl (by first | rfl | (simp only [go_sem]; done)) ?_))), ⟨h2, blen_le_of (Nat.le_of_lt hml) h2, by simp only []; rw [← gcd_step]; exact h3⟩, by simp only []; exact hml⟩
  · have hl : ¬ 0 < (digs 65536 y).length := fun h => hy (rlen_pos.1 h)
    have hy0 : y = 0 := by omega
    simp (maxSteps := 1000000) only [go_sem, hl]
    rw [hy0, Nat.gcd_zero_right] at h3
    rw [h3]; exact .refl _
def rGcdS : List AV → Option (Prop × AV) := onR2 fun a b => (blen a ≤ 34359738368 ∧ blen b ≤ 34359738368, (.imm (digs 65536 (Nat.gcd a b)).length (List.map (fun d : Nat => AV.int .u32 (d : Int)) (digs 65536 (Nat.gcd a b)))))
theorem rGcdS_ok (hP : PrgOk P) (args p r) : rGcdS args = some (p, r) → p → CSpec P 66 args r := onR2_ok (fun a b h => by exact rGcd_spec hP a b h.1 h.2) args p r
attribute [go_sem] rGcdS

theorem bytesS_app (x y : List AV) : bytesS x ++ bytesS y = bytesS (x ++ y) := by
  unfold bytesS
  rw [List.map_append]
  apply ByteArray.ext
  simp
theorem bytesS_size (x : List AV) : (bytesS x).size = x.length := by
  unfold bytesS
  rw [← ByteArray.size_data]
  simp
theorem bytesS_nil : (⟨#[]⟩ : ByteArray) = bytesS [] := rfl
abbrev bS (l : List Nat) : ByteArray := bytesS (l.map fun d : Nat => AV.int .u8 (d : Int))
theorem bS_app (x y : List Nat) : bytesS (x.map fun d : Nat => AV.int .u8 (d : Int)) ++ bytesS (y.map fun d : Nat => AV.int .u8 (d : Int)) = bytesS ((x ++ y).map fun d : Nat => AV.int .u8 (d : Int)) := by rw [bytesS_app, List.map_append]
theorem rText_spec (hP : PrgOk P) (a : Nat) (ha : blen a ≤ 68719476736) : CSpec P 38 [(.imm (digs 65536 (a)).length (List.map (fun d : Nat => AV.int .u32 (d : Int)) (digs 65536 (a))))] (.str (decS a)) := by
  have HE := Sn_ok hP
  rcases Nat.eq_zero_or_pos a with rfl | h0
  · have e : digs 65536 0 = [] := digs_zero _
    refine CSpec_vc (E := ⟨T0, Sn⟩) (fn38 hP) HE hP.mix rfl (by first | rfl | (simp only [go_sem]; done)) (by first | rfl | (simp only [go_sem]; done)) (Nat.le_of_ble_eq_true rfl) ?_
    simp (maxSteps := 1000000) only [go_sem, e]
    exact .refl _
  · have hl : ((digs 65536 a).length == 0) = false := by
      have := rlen_pos.2 h0
      exact beq_eq_false_iff_ne.2 (by omega)
    refine CSpec_vc (E := ⟨T0, Sn⟩) (fn38 hP) HE hP.mix rfl (by first | rfl | (simp only [go_sem]; done)) (by first | rfl | (simp only [go_sem]; done)) (Nat.le_of_ble_eq_true rfl) ?_
    simp (maxSteps := 1000000) only [go_sem, hl]
    refine trX_loop HE hP.mix [] (fun q : Nat × List Nat => ⟨upd (upd (fun _ => .junk) 0 (.imm (digs 65536 (q.1)).length (List.map (fun d : Nat => AV.int .u32 (d : Int)) (digs 65536 (q.1))))) 3 (.str (bS q.2.reverse)), fun _ => .unused, 51⟩)
      (fun q => byt q.2 ∧ a = dv q.2 + 10 ^ q.2.length * q.1 ∧ (q.1 = 0 → Canon (q.2.map (· - 48)))) (fun q => q.1) (a, []) 60
      (by repeat (first | exact Has.nil | refine Has.upd rfl ?_)) (Kept.of rfl (by repeat (first | exact KT.nil | refine KT.upd rfl (by first | rfl | exact hr | exact hr2 | (simp only [go_sem]; done)) ?_)) (KM.p (by repeat (first | exact KMp.nil | refine KMp.upd rfl (by first | rfl | (simp only [go_sem]; done)) ?_)))) ⟨by simp [byt], by simp [dv, dOf], fun e => by have e : a = 0 := e; omega⟩ 51 (by kernel_rfl) ?_
    rintro ⟨w, o⟩ ⟨h1, h2, h3⟩
    simp only [] at h1 h2 h3
    by_cases hw : 0 < w
    · have hlw : 0 < (digs 65536 w).length := rlen_pos.2 hw
      have hwa : w ≤ a := by
        rw [h2]
        exact Nat.le_trans (Nat.le_mul_of_pos_left _ (Nat.pow_pos (by decide))) (Nat.le_add_left _ _)
      have hwl : blen w ≤ 68719476736 := blen_le_of hwa ha
      have hlr := rlen_blen (w % 10000)
      have hmd : w % 10000 < 10000 := Nat.mod_lt _ (by decide)
      have hbl : blen (w % 10000) ≤ 14 := (blen_le_iff _ 14).2 (by omega)
      have hl2 : (digs 65536 (w % 10000)).length ≤ 1099511627776 := by omega
      have hsm : (w % 10000 < 18446744073709551616) = True := eq_true (by omega)
      have hbt : (blen 10000 ≤ 34359738368) = True := eq_true (by decide)
      have hbi : (10000 : Int).toNat = 10000 := rfl
      simp (maxSteps := 1000000) only [go_sem, hlw, hwl, hl2, hsm, hbt, hbi]
      obtain ⟨W2, hW2⟩ : ∃ W2, w / 10000 = W2 := ⟨_, rfl⟩
      obtain ⟨v0, hv0⟩ : ∃ v0, w % 10000 = v0 := ⟨_, rfl⟩
      have hwv : w = v0 + 10000 * W2 := by omega
      simp only [hW2, hv0]
      refine ⟨by decide, ?_⟩
      refine trX_loop HE hP.mix [] (fun q : Nat × Nat × List Nat => ⟨upd (upd (upd (upd (fun _ => .junk) 3 (.str (bS q.2.2.reverse))) 4 (.imm (digs 65536 (W2)).length (List.map (fun d : Nat => AV.int .u32 (d : Int)) (digs 65536 (W2))))) 6 (.int .u64 (q.2.1 : Int))) 8 (.int .i64 (q.1 : Int)), fun _ => .unused, 51⟩)
        (fun q => q.1 ≤ 4 ∧ byt q.2.2 ∧ q.2.1 < 10 ^ (4 - q.1) ∧ a = dv q.2.2 + 10 ^ q.2.2.length * (q.2.1 + 10 ^ (4 - q.1) * W2) ∧ (W2 = 0 → q.2.1 = 0 → Canon (q.2.2.map (· - 48)))) (fun q => 4 - q.1) (0, v0, o) 60
        (by repeat (first | exact Has.nil | refine Has.upd rfl ?_)) (Kept.of rfl (by repeat (first | exact KT.nil | refine KT.upd rfl (by first | rfl | exact hr | exact hr2 | (simp only [go_sem]; done)) ?_)) (KM.p (by repeat (first | exact KMp.nil | refine KMp.upd rfl (by first | rfl | (simp only [go_sem]; done)) ?_)))) ⟨Nat.zero_le _, h1, by simp only []; omega, by simp only []; rw [h2, hwv], fun e1 e2 => by have e2 : v0 = 0 := e2; omega⟩ 51 (by kernel_rfl) ?_
      rintro ⟨k, v, o'⟩ ⟨s1, s2, s3, s4, s5⟩
      simp only [] at s1 s2 s3 s4 s5
      have hm : (v : Int).tmod 10 = ((v % 10 : Nat) : Int) := rfl
      have hvb : v < 10000 := Nat.lt_of_lt_of_le s3 (Nat.pow_le_pow_right (by decide) (show 4 - k ≤ 4 by omega))
      have hdv : IntKind.u64.wrap ((v : Int).tdiv 10) = ((v / 10 : Nat) : Int) := wu_div v 10 (by omega)
      have hu8 := u8_dig v
      have hwi := wi_add1 k (by omega)
      have hR : decide (0 < (digs 65536 W2).length) = decide (0 < W2) := rlen_pos_eq
      by_cases hk : k < 4
      · by_cases hgo : 0 < W2 ∨ 0 < v
        · have hkb : o'.length + 1 ≤ 1099511627776 := by
            have h0 : 1 ≤ v + 10 ^ (4 - k) * W2 := by
              rcases hgo with h | h
              · exact Nat.le_trans (Nat.mul_pos (Nat.pow_pos (by decide)) h) (Nat.le_add_left _ _)
              · omega
            have h1 : 10 ^ o'.length * 1 ≤ 10 ^ o'.length * (v + 10 ^ (4 - k) * W2) := Nat.mul_le_mul_left _ h0
            have h2 : 2 ^ o'.length ≤ 10 ^ o'.length := Nat.pow_le_pow_left (by decide) _
            have h3 := blen_lt a
            have h4 : o'.length < blen a := (Nat.pow_lt_pow_iff_right (a := 2) (by decide)).1 (by omega)
            omega
          have hpw : 10 ^ (4 - k) = 10 * 10 ^ (4 - (k + 1)) := by rw [show 4 - k = 4 - (k + 1) + 1 by omega, Nat.pow_succ, Nat.mul_comm]
          have hst : byt (o' ++ [48 + v % 10]) ∧ v / 10 < 10 ^ (4 - (k + 1)) ∧ a = dv (o' ++ [48 + v % 10]) + 10 ^ (o' ++ [48 + v % 10]).length * (v / 10 + 10 ^ (4 - (k + 1)) * W2) ∧ (W2 = 0 → v / 10 = 0 → Canon ((o' ++ [48 + v % 10]).map (· - 48))) := by
            refine ⟨byt_snoc s2 v, by omega, ?_, fun e1 e2 => snoc_canon _ _ ?_⟩
            · rw [dv_snoc, List.length_append, List.length_singleton, Nat.pow_succ]
              rw [hpw, Nat.mul_assoc] at s4
              exact dig_step s4
            · rcases hgo with h | h <;> omega
          obtain ⟨z1, z2, z3, z4⟩ := hst
          have hsz : 1 + o'.length ≤ 9223372036854775807 := by omega
          have hap : bytesS [.int .u8 ((48 + v % 10 : Nat) : Int)] ++ bS o'.reverse = bS (o' ++ [48 + v % 10]).reverse := by
            rw [List.reverse_append]; exact bS_app [48 + v % 10] o'.reverse
          by_cases hW : 0 < W2
          · simp (maxSteps := 1000000) only [go_sem, hk, hR, hW, hm, hdv, hu8, hwi, hap, bytesS_size]
            exact ⟨by decide, rfl, by rw [List.length_reverse]; exact hsz, by decide, (k + 1, v / 10, o' ++ [48 + v % 10]), Kept.of rfl (by repeat (first | exact KT.nil | refine KT.upd rfl (by first | rfl | exact hr | exact hr2 | (simp only [go_sem]; done)) ?_)) (KM.p (by repeat (first | exact KMp.nil | refine KMp.upd rfl (by first | rfl | (simp only [go_sem]; done)) ?_))), ⟨by simp only []; omega, z1, z2, z3, z4⟩, by simp only []; omega⟩
          · have hv : 0 < v := by omega
            simp (maxSteps := 1000000) only [go_sem, hk, hR, hW, hv, hm, hdv, hu8, hwi, hap, bytesS_size]
            exact ⟨by decide, rfl, by rw [List.length_reverse]; exact hsz, by decide, (k + 1, v / 10, o' ++ [48 + v % 10]), Kept.of rfl (by repeat (first | exact KT.nil | refine KT.upd rfl (by first | rfl | exact hr | exact hr2 | (simp only [go_sem]; done)) ?_)) (KM.p (by repeat (first | exact KMp.nil | refine KMp.upd rfl (by first | rfl | (simp only [go_sem]; done)) ?_))), ⟨by simp only []; omega, z1, z2, z3, z4⟩, by simp only []; omega⟩
        · have hW : ¬ 0 < W2 := fun h => hgo (.inl h)
          have hv : ¬ 0 < v := fun h => hgo (.inr h)
          simp (maxSteps := 1000000) only [go_sem, hk, hR, hW, hv]
          have hW0 : W2 = 0 := by omega
          have hv0 : v = 0 := by omega
          exact ⟨(W2, o'), Kept.of rfl (by repeat (first | exact KT.nil | refine KT.upd rfl (by first | rfl | exact hr | exact hr2 | (simp only [go_sem]; done)) ?_)) (KM.p (by repeat (first | exact KMp.nil | refine KMp.upd rfl (by first | rfl | (simp only [go_sem]; done)) ?_))), ⟨s2, by simp only []; rw [s4, hW0, hv0, Nat.mul_zero, Nat.add_zero], fun e => s5 e hv0⟩, by simp only []; omega⟩
      · have hv0 : v = 0 := by
          rw [show 4 - k = 0 by omega] at s3; omega
        simp (maxSteps := 1000000) only [go_sem, hk]
        exact ⟨(W2, o'), Kept.of rfl (by repeat (first | exact KT.nil | refine KT.upd rfl (by first | rfl | exact hr | exact hr2 | (simp only [go_sem]; done)) ?_)) (KM.p (by repeat (first | exact KMp.nil | refine KMp.upd rfl (by first | rfl | (simp only [go_sem]; done)) ?_))), ⟨s2, by simp only []; rw [s4, hv0, show 4 - k = 0 by omega, Nat.pow_zero, Nat.one_mul, Nat.zero_add], fun e => s5 e hv0⟩, by simp only []; omega⟩
    · have hlw : ¬ 0 < (digs 65536 w).length := fun h => hw (rlen_pos.1 h)
      have hw0 : w = 0 := by omega
      rw [hw0, Nat.mul_zero, Nat.add_zero] at h2
      have hdl := text_end h1 h2 (h3 hw0) h0
      simp (maxSteps := 1000000) only [go_sem, hlw]
      unfold decS
      rw [hdl]; exact .refl _
def rTextS : List AV → Option (Prop × AV) := onR1 fun a => (blen a ≤ 68719476736, .str (decS a))
theorem rTextS_ok (hP : PrgOk P) (args p r) : rTextS args = some (p, r) → p → CSpec P 38 args r := onR1_ok (fun a h => by exact rText_spec hP a h) args p r
attribute [go_sem] rTextS
end Go.Proofs.Ytokoagkbfdkacaa.AM
/- The document's numbers: texts that are numbers. -/
namespace Go.Proofs.Ytokoagkbfdkacaa.AM
set_option linter.all false
set_option autoImplicit true
set_option relaxedAutoImplicit true
open Go Go.Proofs
set_option maxRecDepth 100000
set_option maxHeartbeats 8000000
set_option linter.unusedSimpArgs false
variable {P : Program}

instance okD_dec (l : List Nat) : Decidable (okD l) := by unfold okD; infer_instance
theorem rDigits_spec (hP : PrgOk P) (s : ByteArray) (hsz : (bl s).length ≤ 1099511627776) : CSpec P 49 [.str s] (.bool (decide (okD (bl s)))) := by
  have HE := Sn_ok hP
  refine CSpec_vc (E := ⟨T0, Sn⟩) (fn49 hP) HE hP.mix rfl (by first | rfl | (simp only [go_sem]; done)) (by first | rfl | (simp only [go_sem]; done)) (Nat.le_of_ble_eq_true rfl) ?_
  obtain ⟨l, hl⟩ : ∃ l, bl s = l := ⟨_, rfl⟩
  rw [hl] at hsz ⊢
  by_cases h1 : l = []
  · have h1' : (l.length == 0) = true := by rw [h1]; rfl
    have hno : decide (okD l) = false := decide_eq_false fun h => h.1 h1
    simp (maxSteps := 1000000) only [go_sem, size_bl, get_bl, hl, h1']
    rw [hno]; exact .refl _
  · have h1' : (l.length == 0) = false := beq_eq_false_iff_ne.2 fun h => h1 (List.length_eq_zero_iff.1 h)
    by_cases h2 : 1 < l.length
    · rcases (by cases (l.getD 0 0 == 48) <;> simp : (l.getD 0 0 == 48) = true ∨ (l.getD 0 0 == 48) = false) with h3 | h3
      · have hno : decide (okD l) = false := decide_eq_false fun h => h.2.1 ⟨h2, by simpa using h3⟩
        simp (maxSteps := 1000000) only [go_sem, size_bl, get_bl, hl, h1', h2, h3]
        rw [hno]
        exact ⟨by omega, .refl _⟩
      · have h0 : ¬ (1 < l.length ∧ l.getD 0 0 = 48) := fun h => by simp at h3; exact h3 (by simpa using h.2)
        simp (maxSteps := 1000000) only [go_sem, size_bl, get_bl, hl, h1', h2, h3]
        refine ⟨by omega, ?_⟩
        refine trX_loop HE hP.mix [] (fun k : Nat => ⟨upd (upd (fun _ => .junk) 0 (.str s)) 3 (.int .i64 (k : Int)), fun _ => .unused, 33⟩)
          (fun k => k ≤ l.length ∧ ∀ c ∈ l.take k, 48 ≤ c ∧ c ≤ 57) (fun k => l.length - k) 0 10
          (by repeat (first | exact Has.nil | refine Has.upd rfl ?_)) (Kept.of rfl (by repeat (first | exact KT.nil | refine KT.upd rfl (by first | rfl | exact hr | exact hr2 | (simp only [go_sem]; done)) ?_)) (KM.p (by repeat (first | exact KMp.nil | refine KMp.upd rfl (by first | rfl | (simp only [go_sem]; done)) ?_)))) ⟨Nat.zero_le _, by simp⟩ 33 (by kernel_rfl) ?_
        rintro k ⟨k1, k2⟩
        by_cases hk : k < l.length
        · have hw := wi_add1 k (by omega)
          have hb := bl_lt s
          rw [hl] at hb
          have hkb := hb _ (getD_mem hk)
          by_cases ha : l.getD k 0 < 48
          · have hno : decide (okD l) = false := decide_eq_false fun h => by have := h.2.2 _ (getD_mem hk); omega
            have ha' : decide (((l.getD k 0 : Nat) : Int) < 48) = true := decide_eq_true (by omega)
            simp (maxSteps := 1000000) only [go_sem, size_bl, get_bl, hl, hk, ha, ha', Int.toNat_natCast]
            rw [hno]; exact .refl _
          · have ha' : decide (((l.getD k 0 : Nat) : Int) < 48) = false := decide_eq_false (by omega)
            by_cases hc : 57 < l.getD k 0
            · have hno : decide (okD l) = false := decide_eq_false fun h => by have := h.2.2 _ (getD_mem hk); omega
              simp (maxSteps := 1000000) only [go_sem, size_bl, get_bl, hl, hk, ha, ha', Int.toNat_natCast, hc]
              rw [hno]; exact .refl _
            · simp (maxSteps := 1000000) only [go_sem, size_bl, get_bl, hl, hk, ha, ha', Int.toNat_natCast, hc, hw]
              exact ⟨k + 1, Kept.of rfl (by repeat (first | exact KT.nil | refine KT.upd rfl (by first | rfl | exact hr | exact hr2 | (simp only [go_sem]; done)) ?_)) (KM.p (by repeat (first | exact KMp.nil | refine KMp.upd rfl (by first | rfl | (simp only [go_sem]; done)) ?_))), ⟨by omega, fun c hcm => by
                rw [take_snoc hk] at hcm
                rcases List.mem_append.1 hcm with hcm | hcm
                · exact k2 c hcm
                · rw [List.mem_singleton.1 hcm]; omega⟩, by omega⟩
        · have hyes : decide (okD l) = true := decide_eq_true ⟨h1, h0, by rwa [List.take_of_length_le (by omega)] at k2⟩
          simp (maxSteps := 1000000) only [go_sem, size_bl, get_bl, hl, hk]
          rw [hyes]; exact .refl _
    · have h0 : ¬ (1 < l.length ∧ l.getD 0 0 = 48) := fun h => h2 h.1
      simp (maxSteps := 1000000) only [go_sem, size_bl, get_bl, hl, h1', h2]
      refine trX_loop HE hP.mix [] (fun k : Nat => ⟨upd (upd (fun _ => .junk) 0 (.str s)) 3 (.int .i64 (k : Int)), fun _ => .unused, 33⟩)
        (fun k => k ≤ l.length ∧ ∀ c ∈ l.take k, 48 ≤ c ∧ c ≤ 57) (fun k => l.length - k) 0 10
        (by repeat (first | exact Has.nil | refine Has.upd rfl ?_)) (Kept.of rfl (by repeat (first | exact KT.nil | refine KT.upd rfl (by first | rfl | exact hr | exact hr2 | (simp only [go_sem]; done)) ?_)) (KM.p (by repeat (first | exact KMp.nil | refine KMp.upd rfl (by first | rfl | (simp only [go_sem]; done)) ?_)))) ⟨Nat.zero_le _, by simp⟩ 33 (by kernel_rfl) ?_
      rintro k ⟨k1, k2⟩
      by_cases hk : k < l.length
      · have hw := wi_add1 k (by omega)
        have hb := bl_lt s
        rw [hl] at hb
        have hkb := hb _ (getD_mem hk)
        by_cases ha : l.getD k 0 < 48
        · have hno : decide (okD l) = false := decide_eq_false fun h => by have := h.2.2 _ (getD_mem hk); omega
          have ha' : decide (((l.getD k 0 : Nat) : Int) < 48) = true := decide_eq_true (by omega)
          simp (maxSteps := 1000000) only [go_sem, size_bl, get_bl, hl, hk, ha, ha', Int.toNat_natCast]
          rw [hno]; exact .refl _
        · have ha' : decide (((l.getD k 0 : Nat) : Int) < 48) = false := decide_eq_false (by omega)
          by_cases hc : 57 < l.getD k 0
          · have hno : decide (okD l) = false := decide_eq_false fun h => by have := h.2.2 _ (getD_mem hk); omega
            simp (maxSteps := 1000000) only [go_sem, size_bl, get_bl, hl, hk, ha, ha', Int.toNat_natCast, hc]
            rw [hno]; exact .refl _
          · simp (maxSteps := 1000000) only [go_sem, size_bl, get_bl, hl, hk, ha, ha', Int.toNat_natCast, hc, hw]
            exact ⟨k + 1, Kept.of rfl (by repeat (first | exact KT.nil | refine KT.upd rfl (by first | rfl | exact hr | exact hr2 | (simp only [go_sem]; done)) ?_)) (KM.p (by repeat (first | exact KMp.nil | refine KMp.upd rfl (by first | rfl | (simp only [go_sem]; done)) ?_))), ⟨by omega, fun c hcm => by
              rw [take_snoc hk] at hcm
              rcases List.mem_append.1 hcm with hcm | hcm
              · exact k2 c hcm
              · rw [List.mem_singleton.1 hcm]; omega⟩, by omega⟩
      · have hyes : decide (okD l) = true := decide_eq_true ⟨h1, h0, by rwa [List.take_of_length_le (by omega)] at k2⟩
        simp (maxSteps := 1000000) only [go_sem, size_bl, get_bl, hl, hk]
        rw [hyes]; exact .refl _
def DigitsS : List AV → Option (Prop × AV)
  | [.str s] => some ((bl s).length ≤ 1099511627776, .bool (decide (okD (bl s))))
  | _ => none
theorem DigitsS_ok (hP : PrgOk P) (args p r) (h : DigitsS args = some (p, r)) (hp : p) : CSpec P 49 args r := by
  unfold DigitsS at h
  split at h
  · simp only [Option.some.injEq, Prod.mk.injEq] at h
    obtain ⟨rfl, rfl⟩ := h
    exact rDigits_spec hP _ hp
  · simp at h
attribute [go_sem] DigitsS
noncomputable def So : Nat → List AV → Option (Prop × AV) := addS (addS (addS Sn 66 rGcdS) 38 rTextS) 49 DigitsS
theorem So_ok (hP : PrgOk P) : EnvOk P ⟨T0, So⟩ := (((Sn_ok hP).add (rGcdS_ok hP)).add (rTextS_ok hP)).add (DigitsS_ok hP)
attribute [go_sem] So

theorem valL_blen4 {l : List Nat} (h : ∀ c ∈ l, c ≤ 57) : blen (valL l) ≤ 4 * l.length := by
  have h1 := valL_lt (l := l) h
  have h4 : 10 ^ l.length ≤ 16 ^ l.length := Nat.pow_le_pow_left (by decide) _
  have h5 : (16 : Nat) ^ l.length = 2 ^ (4 * l.length) := by rw [show (16 : Nat) = 2 ^ 4 from rfl, ← Nat.pow_mul]
  rw [blen_le_iff, ← h5]; exact Nat.lt_of_lt_of_le h1 h4
theorem rParse_spec (hP : PrgOk P) (s : ByteArray) (hsz : (bl s).length ≤ 8589934592) (hd : ∀ c ∈ bl s, 48 ≤ c ∧ c ≤ 57) : CSpec P 50 [.str s] (.imm (digs 65536 (valL (bl s))).length (List.map (fun d : Nat => AV.int .u32 (d : Int)) (digs 65536 (valL (bl s))))) := by
  have HE := So_ok hP
  have h10 : blen 10 ≤ 68719476736 := by decide
  have h10i : (10 : Int).toNat = 10 := rfl
  refine CSpec_vc (E := ⟨T0, So⟩) (fn50 hP) HE hP.mix rfl (by first | rfl | (simp only [go_sem]; done)) (by first | rfl | (simp only [go_sem]; done)) (Nat.le_of_ble_eq_true rfl) ?_
  obtain ⟨l, hl⟩ : ∃ l, bl s = l := ⟨_, rfl⟩
  rw [hl] at hsz hd ⊢
  simp (maxSteps := 1000000) only [go_sem, size_bl, get_bl, hl]
  refine trX_loop HE hP.mix [] (fun k : Nat × Option Nat => ⟨upd (upd (upd (fun _ => .junk) 0 (.str s)) 3 (rv k.2)) 4 (.int .i64 (k.1 : Int)), fun _ => .unused, 22⟩)
    (fun k => k.1 ≤ l.length ∧ ru k.2 = valL (l.take k.1)) (fun k => l.length - k.1) (0, none) 10
    (by repeat (first | exact Has.nil | refine Has.upd rfl ?_)) (Kept.of rfl (by repeat (first | exact KT.nil | refine KT.upd rfl (by first | rfl | exact hr | exact hr2 | (simp only [go_sem]; done)) ?_)) (KM.p (by repeat (first | exact KMp.nil | refine KMp.upd rfl (by first | rfl | (simp only [go_sem]; done)) ?_)))) ⟨Nat.zero_le _, rfl⟩ 22 (by kernel_rfl) ?_
  rintro ⟨k, r⟩ ⟨k1, k2⟩
  simp only [] at k1 k2
  by_cases hk : k < l.length
  · have hw := wi_add1 k (by omega)
    have hkb := hd _ (getD_mem hk)
    have hvb : blen (valL (l.take k)) ≤ 34359738368 := by
      have := valL_blen4 (l := l.take k) (fun c hc => (hd c (List.mem_of_mem_take hc)).2)
      rw [List.length_take, Nat.min_eq_left k1] at this
      omega
    have hst := valL_take_succ hk
    obtain ⟨d, hdd⟩ : ∃ d, l.getD k 0 - 48 = d := ⟨_, rfl⟩
    have f1 : IntKind.u8.wrap (((l.getD k 0 : Nat) : Int) - 48) = (d : Int) := by rw [IntKind.wrap_u8]; omega
    have f2 : IntKind.u64.wrap (d : Int) = (d : Int) := by rw [IntKind.wrap_u64]; omega
    have f3 : ((0 : Int) ≤ (d : Int)) = True := eq_true (by omega)
    have f4 : ((d : Int) < 18446744073709551616) = True := eq_true (by omega)
    cases r with
    | none =>
      simp only [rv]
      simp (maxSteps := 1000000) only [go_sem, size_bl, get_bl, hl, hk, Int.toNat_natCast, f1, f2, f3, f4, h10, h10i, hw]
      have hdb : blen d ≤ 68719476736 := Nat.le_trans (blen_17 (by omega)) (by decide)
      refine ⟨by decide, by decide, ⟨by decide, hdb⟩, (k + 1, some (d)), Kept.of rfl (by repeat (first | exact KT.nil | refine KT.upd rfl (by first | rfl | exact hr | exact hr2 | (simp only [go_sem]; done)) ?_)) (KM.p (by repeat (first | exact KMp.nil | refine KMp.upd rfl (by first | rfl | (simp only [go_sem]; done)) ?_))), ⟨by simp only []; omega, ?_⟩, by simp only []; omega⟩
      simp only [ru] at k2 ⊢
      rw [hst, hdd, ← k2]; omega
    | some r =>
      have k2 : r = valL (l.take k) := k2
      have hvb : blen r ≤ 34359738368 := by rw [k2]; exact hvb
      simp only [rv]
      simp (maxSteps := 1000000) only [go_sem, size_bl, get_bl, hl, hk, Int.toNat_natCast, f1, f2, f3, f4, h10, h10i, hw]
      have hdb : blen d ≤ 68719476736 := Nat.le_trans (blen_17 (by omega)) (by decide)
      refine ⟨by decide, Nat.le_trans hvb (by decide), ⟨Nat.le_trans (blen_mul_le hvb (show blen 10 ≤ 4 by decide)) (by decide), hdb⟩, (k + 1, some (r * 10 + d)), Kept.of rfl (by repeat (first | exact KT.nil | refine KT.upd rfl (by first | rfl | exact hr | exact hr2 | (simp only [go_sem]; done)) ?_)) (KM.p (by repeat (first | exact KMp.nil | refine KMp.upd rfl (by first | rfl | (simp only [go_sem]; done)) ?_))), ⟨by simp only []; omega, ?_⟩, by simp only []; omega⟩
      simp only [ru] at k2 ⊢
      rw [hst, hdd, ← k2]; omega
  · have htk : l.take k = l := List.take_of_length_le (by omega)
    rw [htk] at k2
    cases r with
    | none =>
      simp only [rv]
      simp (maxSteps := 1000000) only [go_sem, size_bl, get_bl, hl, hk]
      rw [← k2]
      have e : digs 65536 0 = [] := digs_zero _
      simp only [ru, e]
      exact CvL.conv (.nilR .nil)
    | some r =>
      simp only [rv]
      simp (maxSteps := 1000000) only [go_sem, size_bl, get_bl, hl, hk]
      rw [← k2]
      exact .refl _
def rParseS : List AV → Option (Prop × AV)
  | [.str s] => some ((bl s).length ≤ 8589934592 ∧ ∀ c ∈ bl s, 48 ≤ c ∧ c ≤ 57, (.imm (digs 65536 (valL (bl s))).length (List.map (fun d : Nat => AV.int .u32 (d : Int)) (digs 65536 (valL (bl s))))))
  | _ => none
theorem rParseS_ok (hP : PrgOk P) (args p r) (h : rParseS args = some (p, r)) (hp : p) : CSpec P 50 args r := by
  unfold rParseS at h
  split at h
  · simp only [Option.some.injEq, Prod.mk.injEq] at h
    obtain ⟨rfl, rfl⟩ := h
    exact rParse_spec hP _ hp.1 hp.2
  · simp at h
attribute [go_sem] rParseS
noncomputable def Sp : Nat → List AV → Option (Prop × AV) := addS So 50 rParseS
theorem Sp_ok (hP : PrgOk P) : EnvOk P ⟨T0, Sp⟩ := (So_ok hP).add (rParseS_ok hP)
attribute [go_sem] Sp
end Go.Proofs.Ytokoagkbfdkacaa.AM
/- The document's numbers, told az one. -/
namespace Go.Proofs.Ytokoagkbfdkacaa.AM
set_option linter.all false
set_option autoImplicit true
set_option relaxedAutoImplicit true
open Go Go.Proofs
set_option maxRecDepth 100000
set_option maxHeartbeats 8000000
set_option linter.unusedSimpArgs false
variable {P : Program}

def rOfA : List AV → Option (Prop × AV)
  | [.int .u64 n] => some (0 ≤ n ∧ n < 18446744073709551616, (.opq (.rnat (n.toNat))))
  | _ => none
theorem rOfA_ok (hP : PrgOk P) (args p r) (h : rOfA args = some (p, r)) (hp : p) : CSpec P 32 args r := by
  unfold rOfA at h
  split at h
  · simp only [Option.some.injEq, Prod.mk.injEq] at h
    obtain ⟨rfl, rfl⟩ := h
    exact (rOfS_ok hP _ _ _ rfl hp).conv (.rnat _)
  · simp at h
def rAddA : List AV → Option (Prop × AV) := onR2 fun a b => (blen a ≤ 68719476736 ∧ blen b ≤ 68719476736, (.opq (.rnat (a + b))))
theorem rAddA_ok (hP : PrgOk P) (args p r) : rAddA args = some (p, r) → p → CSpec P 68 args r := onR2_ok (fun a b h => by exact (rAdd_spec hP a b h.1 h.2).conv (.rnat _)) args p r
def rSubA : List AV → Option (Prop × AV) := onR2 fun a b => (blen a ≤ 68719476736 ∧ b ≤ a, (.opq (.rnat (a - b))))
theorem rSubA_ok (hP : PrgOk P) (args p r) : rSubA args = some (p, r) → p → CSpec P 69 args r := onR2_ok (fun a b h => by exact (rSub_spec hP a b h.1 h.2).conv (.rnat _)) args p r
def rMulA : List AV → Option (Prop × AV) := onR2 fun a b => (blen a ≤ 68719476736 ∧ blen b ≤ 68719476736, (.opq (.rnat (a * b))))
theorem rMulA_ok (hP : PrgOk P) (args p r) : rMulA args = some (p, r) → p → CSpec P 70 args r := onR2_ok (fun a b h => by exact (rMul_spec hP a b h.1 h.2).conv (.rnat _)) args p r
theorem Conv.rnat2 (a b : Nat) : Conv (.tup [(.imm (digs 65536 (a)).length (List.map (fun d : Nat => AV.int .u32 (d : Int)) (digs 65536 (a)))), (.imm (digs 65536 (b)).length (List.map (fun d : Nat => AV.int .u32 (d : Int)) (digs 65536 (b))))]) (.tup [(.opq (.rnat (a))), (.opq (.rnat (b)))]) := CvL.conv (CvL.tup (fun W φ w l hl => by
  obtain ⟨v, vs, rfl, h1, h2⟩ := hl.uncons rfl
  obtain ⟨v', rfl, h2⟩ := h2.one
  exact (Conv.rnat a _ _ _ _ h1).app (Conv.rnat b _ _ _ _ h2)) .nil)
def rDivA : List AV → Option (Prop × AV) := onR2 fun a b => (blen a ≤ 68719476736 ∧ blen b ≤ 34359738368 ∧ 0 < b, .tup [(.opq (.rnat (a / b))), (.opq (.rnat (a % b)))])
theorem rDivA_ok (hP : PrgOk P) (args p r) : rDivA args = some (p, r) → p → CSpec P 56 args r := onR2_ok (fun a b h => by exact (rDiv_spec hP a b h.1 h.2.1 h.2.2).conv (.rnat2 _ _)) args p r
def rGcdA : List AV → Option (Prop × AV) := onR2 fun a b => (blen a ≤ 34359738368 ∧ blen b ≤ 34359738368, (.opq (.rnat (Nat.gcd a b))))
theorem rGcdA_ok (hP : PrgOk P) (args p r) : rGcdA args = some (p, r) → p → CSpec P 66 args r := onR2_ok (fun a b h => by exact (rGcd_spec hP a b h.1 h.2).conv (.rnat _)) args p r
def rParseA : List AV → Option (Prop × AV)
  | [.str s] => some ((bl s).length ≤ 8589934592 ∧ ∀ c ∈ bl s, 48 ≤ c ∧ c ≤ 57, (.opq (.rnat (valL (bl s)))))
  | _ => none
theorem rParseA_ok (hP : PrgOk P) (args p r) (h : rParseA args = some (p, r)) (hp : p) : CSpec P 50 args r := by
  unfold rParseA at h
  split at h
  · simp only [Option.some.injEq, Prod.mk.injEq] at h
    obtain ⟨rfl, rfl⟩ := h
    exact (rParse_spec hP _ hp.1 hp.2).conv (.rnat _)
  · simp at h
attribute [go_sem] rOfA rAddA rSubA rMulA rDivA rGcdA rParseA
noncomputable def Sr : Nat → List AV → Option (Prop × AV) := addS (addS (addS (addS (addS (addS (addS Sp 32 rOfA) 68 rAddA) 69 rSubA) 70 rMulA) 56 rDivA) 66 rGcdA) 50 rParseA
theorem Sr_all (hP : PrgOk P) (T) (hT : TyOk P T) : EnvOk P ⟨T, Sr⟩ := (((((((((Sp_ok hP).re hT).add (rOfA_ok hP)).add (rAddA_ok hP)).add (rSubA_ok hP)).add (rMulA_ok hP)).add (rDivA_ok hP)).add (rGcdA_ok hP)).add (rParseA_ok hP))
attribute [go_sem] Sr
end Go.Proofs.Ytokoagkbfdkacaa.AM
/- Whole numbers: their cells; made of a sign and a size. -/
namespace Go.Proofs.Ytokoagkbfdkacaa.AM
set_option linter.all false
set_option autoImplicit true
set_option relaxedAutoImplicit true
open Go Go.Proofs
set_option maxRecDepth 100000
set_option maxHeartbeats 8000000
set_option linter.unusedSimpArgs false
variable {P : Program}

/-- The cells of one. -/
def wC (z : Int) : List AV := [.bool (decide (z < 0)), .opq (.nat z.natAbs), .pad]
theorem CvL.wholeIn (z : Int) {xs bs} (h : CvL xs bs) : CvL ((.agg [.opq (.whole (z)), .pad, .pad]) :: xs) (.agg (wC z) :: bs) := .agg (by simpa [Pay.open, Pay.width, wC] using CvL.unfold (.whole z) []) h
theorem CvL.wholeOut (z : Int) {xs bs} (h : CvL xs bs) : CvL (.agg (wC z) :: xs) ((.agg [.opq (.whole (z)), .pad, .pad]) :: bs) := .agg (by simpa [Pay.open, Pay.width, wC] using CvL.fold (.whole z) [] rfl) h
theorem Conv.whole (z : Int) : Conv (.agg (wC z)) (.agg [.opq (.whole (z)), .pad, .pad]) := CvL.conv (.wholeOut z .nil)
/-- A size with a sign. -/
def sg (m : Bool) (a : Nat) : Int := if m then -(a : Int) else a
theorem sg_t (a : Nat) : sg true a = -(a : Int) := rfl
theorem sg_f (a : Nat) : sg false a = (a : Int) := rfl
theorem sg_abs (m a) : (sg m a).natAbs = a := by cases m <;> simp [sg]
theorem sg_neg (m a) : decide (sg m a < 0) = (m && decide (0 < a)) := by cases m <;> simp [sg] <;> omega
theorem sg_of (z : Int) : sg (decide (z < 0)) z.natAbs = z := by
  unfold sg; by_cases h : z < 0
  · rw [decide_eq_true h]; simp; omega
  · rw [decide_eq_false h]; simp; omega
def rawW : AV → Option (Prop × Int)
  | .agg [.opq (.whole z), .pad, .pad] => some (True, z)
  | .agg [.bool m, .opq (.nat a), .pad] => some (m = true → 0 < a, sg m a)
  | _ => none
theorem rawW_atom (z : Int) : rawW (.agg [.opq (.whole (z)), .pad, .pad]) = some (True, z) := rfl
theorem rawW_raw (m a) : rawW (.agg [.bool m, .opq (.nat a), .pad]) = some (m = true → 0 < a, sg m a) := rfl
theorem rawW_cv {v : AV} {p z} (h : rawW v = some (p, z)) (hp : p) {xs bs} (k : CvL xs bs) : CvL (v :: xs) ((.agg [.opq (.whole (z)), .pad, .pad]) :: bs) := by
  unfold rawW at h
  split at h
  · simp only [Option.some.injEq, Prod.mk.injEq] at h
    obtain ⟨rfl, rfl⟩ := h
    exact .agg (.refl _) k
  · simp only [Option.some.injEq, Prod.mk.injEq] at h
    obtain ⟨rfl, rfl⟩ := h
    rename_i m a
    have e : wC (sg m a) = [.bool m, .opq (.nat a), .pad] := by
      unfold wC; rw [sg_abs, sg_neg]
      cases m
      · rfl
      · rw [decide_eq_true (hp rfl)]; rfl
    rw [← e]; exact .wholeOut _ k
  · simp at h
def onW1 (f : Int → Prop × AV) : List AV → Option (Prop × AV)
  | [x] => (rawW x).map fun a => (a.1 ∧ (f a.2).1, (f a.2).2)
  | _ => none
def onW2 (f : Int → Int → Prop × AV) : List AV → Option (Prop × AV)
  | [x, y] => (rawW x).bind fun a => (rawW y).map fun b => (a.1 ∧ b.1 ∧ (f a.2 b.2).1, (f a.2 b.2).2)
  | _ => none
theorem onW1_ok {fi : Nat} {f : Int → Prop × AV} (h : ∀ a, (f a).1 → CSpec P fi [(.agg [.opq (.whole (a)), .pad, .pad])] (f a).2) (args p r) (he : onW1 f args = some (p, r)) (hp : p) : CSpec P fi args r := by
  unfold onW1 at he
  split at he
  · simp only [Option.map_eq_some_iff, Prod.exists, Prod.mk.injEq] at he
    obtain ⟨q, a, h1, rfl, rfl⟩ := he
    exact (h a hp.2).cv (rawW_cv h1 hp.1 .nil)
  · simp at he
theorem onW2_ok {fi : Nat} {f : Int → Int → Prop × AV} (h : ∀ a b, (f a b).1 → CSpec P fi [(.agg [.opq (.whole (a)), .pad, .pad]), (.agg [.opq (.whole (b)), .pad, .pad])] (f a b).2) (args p r) (he : onW2 f args = some (p, r)) (hp : p) : CSpec P fi args r := by
  unfold onW2 at he
  split at he
  · simp only [Option.bind_eq_some_iff, Option.map_eq_some_iff, Prod.exists, Prod.mk.injEq] at he
    obtain ⟨q, a, h1, q', b, h2, rfl, rfl⟩ := he
    exact (h a b hp.2.2).cv (rawW_cv h1 hp.1 (rawW_cv h2 hp.2.1 .nil))
  · simp at he
theorem onW1_eq (f x) : onW1 f [x] = (rawW x).map fun a => (a.1 ∧ (f a.2).1, (f a.2).2) := rfl
theorem onW2_eq (f x y) : onW2 f [x, y] = (rawW x).bind fun a => (rawW y).map fun b => (a.1 ∧ b.1 ∧ (f a.2 b.2).1, (f a.2 b.2).2) := rfl
attribute [go_sem] rawW_atom rawW_raw onW1_eq onW2_eq
/-- The bits of a size. -/
abbrev wl (z : Int) : Nat := blen z.natAbs

theorem wMake_spec (hP : PrgOk P) (m : Bool) (a : Nat) (ha : blen a ≤ 68719476736) : CSpec P 29 [.bool m, (.agg [.opq (.nat (a)), .pad])] (.agg [.opq (.whole (sg m a)), .pad, .pad]) := by
  have HE := Sr_all hP T1 hP.t1
  refine CSpec.conv (r := .agg (wC (sg m a))) ?_ (.whole _)
  unfold wC
  rw [sg_abs, sg_neg]
  refine CSpec_vc (E := ⟨T1, Sr⟩) (fn29 hP) HE hP.mix rfl (by first | rfl | (simp only [go_sem]; done)) (by first | rfl | (simp only [go_sem]; done)) (Nat.le_of_ble_eq_true rfl) ?_
  cases m
  · simp (maxSteps := 1000000) only [go_sem, ha]
    exact .refl _
  · rcases Nat.eq_zero_or_pos a with h | h
    · subst h
      have hb : blen 0 = 0 := by decide
      simp (maxSteps := 1000000) only [go_sem, ha, hb]
      exact .refl _
    · have hb : 0 < blen a := by
        have : blen a ≠ 0 := by rw [Ne, blen_zero_iff]; omega
        omega
      simp (maxSteps := 1000000) only [go_sem, ha, hb, h]
      exact .refl _
def wMakeS : List AV → Option (Prop × AV)
  | [.bool m, x] => (rawN x).map fun a => (a.1 ∧ blen a.2 ≤ 68719476736, (.agg [.opq (.whole (sg m a.2)), .pad, .pad]))
  | _ => none
theorem wMakeS_eq (m x) : wMakeS [.bool m, x] = (rawN x).map fun a => (a.1 ∧ blen a.2 ≤ 68719476736, (.agg [.opq (.whole (sg m a.2)), .pad, .pad])) := rfl
theorem wMakeS_ok (hP : PrgOk P) (args p r) (he : wMakeS args = some (p, r)) (hp : p) : CSpec P 29 args r := by
  unfold wMakeS at he
  split at he
  · simp only [Option.map_eq_some_iff, Prod.exists, Prod.mk.injEq] at he
    obtain ⟨q, a, h1, rfl, rfl⟩ := he
    exact (wMake_spec hP _ a hp.2).cv (.cons rfl (rawN_cv h1 hp.1 .nil))
  · simp at he
attribute [go_sem] wMakeS_eq
end Go.Proofs.Ytokoagkbfdkacaa.AM
/- Whole numbers: signs, order, sums. -/
namespace Go.Proofs.Ytokoagkbfdkacaa.AM
set_option linter.all false
set_option autoImplicit true
set_option relaxedAutoImplicit true
open Go Go.Proofs
set_option maxRecDepth 100000
set_option maxHeartbeats 8000000
set_option linter.unusedSimpArgs false
variable {P : Program}

noncomputable def Wt0 : Nat → List AV → Option (Prop × AV) := addS Sr 29 wMakeS
theorem Wt0_all (hP : PrgOk P) (T) (hT : TyOk P T) : EnvOk P ⟨T, Wt0⟩ := (Sr_all hP T hT).add (wMakeS_ok hP)
attribute [go_sem] Wt0

def sgnZ (z : Int) : Int := if z = 0 then 0 else if z < 0 then -1 else 1
def cmpZ (a b : Int) : Int := if a < b then -1 else if b < a then 1 else 0
theorem wl_zero {z : Int} : (wl z = 0) = (z = 0) := by
  unfold wl; rw [eq_iff_iff, blen_zero_iff]; omega
theorem wSign_spec (hP : PrgOk P) (z : Int) (h : wl z ≤ 68719476736) : CSpec P 21 [(.agg [.opq (.whole (z)), .pad, .pad])] (.int .i64 (sgnZ z)) := by
  have HE := Wt0_all hP T1 hP.t1
  refine CSpec.cv ?_ (.wholeIn z .nil)
  unfold wC
  refine CSpec_vc (E := ⟨T1, Wt0⟩) (fn21 hP) HE hP.mix rfl (by first | rfl | (simp only [go_sem]; done)) (by first | rfl | (simp only [go_sem]; done)) (Nat.le_of_ble_eq_true rfl) ?_
  unfold sgnZ
  unfold wl at h
  by_cases h0 : z = 0
  · have hb : (blen z.natAbs == 0) = true := beq_iff_eq.2 ((blen_zero_iff _).2 (by omega))
    rw [if_pos h0]
    simp (maxSteps := 1000000) only [go_sem, h, hb]
    exact .refl _
  · have hb : (blen z.natAbs == 0) = false := beq_eq_false_iff_ne.2 fun e => h0 (by have := (blen_zero_iff _).1 e; omega)
    rw [if_neg h0]
    by_cases h1 : z < 0
    · rw [if_pos h1]
      simp (maxSteps := 1000000) only [go_sem, h, hb, h1]
      exact .refl _
    · rw [if_neg h1]
      simp (maxSteps := 1000000) only [go_sem, h, hb, h1]
      exact .refl _
def wSignS : List AV → Option (Prop × AV) := onW1 fun a => (wl a ≤ 68719476736, .int .i64 (sgnZ a))
theorem wSignS_ok (hP : PrgOk P) (args p r) : wSignS args = some (p, r) → p → CSpec P 21 args r := onW1_ok (fun a h => by exact wSign_spec hP a h) args p r
attribute [go_sem] wSignS

theorem wAbs_spec (hP : PrgOk P) (z : Int) : CSpec P 36 [(.agg [.opq (.whole (z)), .pad, .pad])] (.agg [.opq (.nat (z.natAbs)), .pad]) := by
  have HE := Wt0_all hP T1 hP.t1
  refine CSpec.cv ?_ (.wholeIn z .nil)
  unfold wC
  refine CSpec_vc (E := ⟨T1, Wt0⟩) (fn36 hP) HE hP.mix rfl (by first | rfl | (simp only [go_sem]; done)) (by first | rfl | (simp only [go_sem]; done)) (Nat.le_of_ble_eq_true rfl) ?_
  simp (maxSteps := 1000000) only [go_sem]
  exact .refl _
def wAbsS : List AV → Option (Prop × AV) := onW1 fun a => (True, (.agg [.opq (.nat (a.natAbs)), .pad]))
theorem wAbsS_ok (hP : PrgOk P) (args p r) : wAbsS args = some (p, r) → p → CSpec P 36 args r := onW1_ok (fun a _ => by exact wAbs_spec hP a) args p r
attribute [go_sem] wAbsS

theorem wOf_spec (hP : PrgOk P) (n : Int) (h1 : -9223372036854775808 ≤ n) (h2 : n ≤ 9223372036854775807) : CSpec P 27 [.int .i64 n] (.agg [.opq (.whole (n)), .pad, .pad]) := by
  have HE := Wt0_all hP T1 hP.t1
  refine CSpec.conv (r := .agg (wC n)) ?_ (.whole _)
  unfold wC
  refine CSpec_vc (E := ⟨T1, Wt0⟩) (fn27 hP) HE hP.mix rfl (by first | rfl | (simp only [go_sem]; done)) (by first | rfl | (simp only [go_sem]; done)) (Nat.le_of_ble_eq_true rfl) ?_
  by_cases h : n < 0
  · have e1 : IntKind.u64.wrap n = n + 18446744073709551616 := by rw [IntKind.wrap_u64]; omega
    have e2 : IntKind.u64.wrap (0 - (n + 18446744073709551616)) = -n := by rw [IntKind.wrap_u64]; omega
    have e3 : ((0 : Int) ≤ -n) = True := eq_true (by omega)
    have e4 : (-n < 18446744073709551616) = True := eq_true (by omega)
    have e5 : (-n).toNat = n.natAbs := by omega
    simp (maxSteps := 1000000) only [go_sem, h, e1, e2, e3, e4, e5]
    exact .refl _
  · have e1 : IntKind.u64.wrap n = n := by rw [IntKind.wrap_u64]; omega
    have e3 : ((0 : Int) ≤ n) = True := eq_true (by omega)
    have e4 : (n < 18446744073709551616) = True := eq_true (by omega)
    have e5 : n.toNat = n.natAbs := by omega
    simp (maxSteps := 1000000) only [go_sem, h, e1, e3, e4, e5]
    exact .refl _
def wOfS : List AV → Option (Prop × AV)
  | [.int .i64 n] => some (-9223372036854775808 ≤ n ∧ n ≤ 9223372036854775807, (.agg [.opq (.whole (n)), .pad, .pad]))
  | _ => none
theorem wOfS_ok (hP : PrgOk P) (args p r) (h : wOfS args = some (p, r)) (hp : p) : CSpec P 27 args r := by
  unfold wOfS at h
  split at h
  · simp only [Option.some.injEq, Prod.mk.injEq] at h
    obtain ⟨rfl, rfl⟩ := h
    exact wOf_spec hP _ hp.1 hp.2
  · simp at h
attribute [go_sem] wOfS

theorem wCmp_spec (hP : PrgOk P) (a b : Int) (ha : wl a ≤ 68719476736) (hb : wl b ≤ 68719476736) : CSpec P 24 [(.agg [.opq (.whole (a)), .pad, .pad]), (.agg [.opq (.whole (b)), .pad, .pad])] (.int .i64 (cmpZ a b)) := by
  have HE := Wt0_all hP T1 hP.t1
  refine CSpec.cv ?_ (.wholeIn a (.wholeIn b .nil))
  unfold wC
  unfold wl at ha hb
  refine CSpec_vc (E := ⟨T1, Wt0⟩) (fn24 hP) HE hP.mix rfl (by first | rfl | (simp only [go_sem]; done)) (by first | rfl | (simp only [go_sem]; done)) (Nat.le_of_ble_eq_true rfl) ?_
  by_cases h1 : a < 0
  · by_cases h2 : b < 0
    · have e : cmpZ a b = cmpI b.natAbs a.natAbs := by
        unfold cmpZ cmpI; repeat' split
        all_goals omega
      simp (maxSteps := 1000000) only [go_sem, h1, h2, ha, hb]
      rw [e]; exact .refl _
    · have e : cmpZ a b = -1 := by unfold cmpZ; rw [if_pos (by omega)]
      simp (maxSteps := 1000000) only [go_sem, h1, h2, ha, hb]
      rw [e]; exact .refl _
  · by_cases h2 : b < 0
    · have e : cmpZ a b = 1 := by unfold cmpZ; rw [if_neg (by omega), if_pos (by omega)]
      simp (maxSteps := 1000000) only [go_sem, h1, h2, ha, hb]
      rw [e]; exact .refl _
    · have e : cmpZ a b = cmpI a.natAbs b.natAbs := by
        unfold cmpZ cmpI; repeat' split
        all_goals omega
      simp (maxSteps := 1000000) only [go_sem, h1, h2, ha, hb]
      rw [e]; exact .refl _
def wCmpS : List AV → Option (Prop × AV) := onW2 fun a b => (wl a ≤ 68719476736 ∧ wl b ≤ 68719476736, .int .i64 (cmpZ a b))
theorem wCmpS_ok (hP : PrgOk P) (args p r) : wCmpS args = some (p, r) → p → CSpec P 24 args r := onW2_ok (fun a b h => by exact wCmp_spec hP a b h.1 h.2) args p r
attribute [go_sem] wCmpS

theorem wNeg_spec (hP : PrgOk P) (a : Int) (ha : wl a ≤ 68719476736) : CSpec P 42 [(.agg [.opq (.whole (a)), .pad, .pad])] (.agg [.opq (.whole (-a)), .pad, .pad]) := by
  have HE := Wt0_all hP T1 hP.t1
  refine CSpec.cv ?_ (.wholeIn a .nil)
  unfold wC
  unfold wl at ha
  refine CSpec_vc (E := ⟨T1, Wt0⟩) (fn42 hP) HE hP.mix rfl (by first | rfl | (simp only [go_sem]; done)) (by first | rfl | (simp only [go_sem]; done)) (Nat.le_of_ble_eq_true rfl) ?_
  have e : sg (!decide (a < 0)) a.natAbs = -a := by
    by_cases h : a < 0
    · rw [decide_eq_true h]; simp [sg]; omega
    · rw [decide_eq_false h]; simp [sg]; omega
  simp (maxSteps := 1000000) only [go_sem, ha, e]
  exact .refl _
def wNegS : List AV → Option (Prop × AV) := onW1 fun a => (wl a ≤ 68719476736, (.agg [.opq (.whole (-a)), .pad, .pad]))
theorem wNegS_ok (hP : PrgOk P) (args p r) : wNegS args = some (p, r) → p → CSpec P 42 args r := onW1_ok (fun a h => by exact wNeg_spec hP a h) args p r
attribute [go_sem] wNegS

theorem wAdd_spec (hP : PrgOk P) (a b : Int) (ha : wl a ≤ 34359738368) (hb : wl b ≤ 34359738368) : CSpec P 25 [(.agg [.opq (.whole (a)), .pad, .pad]), (.agg [.opq (.whole (b)), .pad, .pad])] (.agg [.opq (.whole (a + b)), .pad, .pad]) := by
  have HE := Wt0_all hP T1 hP.t1
  refine CSpec.cv ?_ (.wholeIn a (.wholeIn b .nil))
  unfold wC
  unfold wl at ha hb
  have hs := Nat.le_trans (blen_add_le ha hb) (show _ ≤ 68719476736 by decide)
  have ha' := Nat.le_trans ha (show _ ≤ 68719476736 by decide)
  have hb' := Nat.le_trans hb (show _ ≤ 68719476736 by decide)
  refine CSpec_vc (E := ⟨T1, Wt0⟩) (fn25 hP) HE hP.mix rfl (by first | rfl | (simp only [go_sem]; done)) (by first | rfl | (simp only [go_sem]; done)) (Nat.le_of_ble_eq_true rfl) ?_
  by_cases h1 : a < 0
  · by_cases h2 : b < 0
    · have e : sg true (a.natAbs + b.natAbs) = a + b := by rw [sg_t]; omega
      simp (maxSteps := 1000000) only [go_sem, h1, h2, ha', hb', hs, e]
      exact .refl _
    · rcases Nat.lt_or_ge a.natAbs b.natAbs with h | h
      · have hc : cmpI a.natAbs b.natAbs = -1 := cmpI_lt h
        have hn : (b.natAbs < a.natAbs) = False := eq_false (by omega)
        have hd := Nat.le_trans (blen_mono (Nat.sub_le b.natAbs a.natAbs)) hb'
        have e : sg false (b.natAbs - a.natAbs) = a + b := by rw [sg_f]; omega
        simp (maxSteps := 1000000) only [go_sem, h1, h2, ha', hb', hc, hn, hd, e]
        exact .refl _
      · have hc : decide (cmpI a.natAbs b.natAbs < 0) = false := cmp_ge h
        have hn : (a.natAbs < b.natAbs) = False := eq_false (by omega)
        have hd := Nat.le_trans (blen_mono (Nat.sub_le a.natAbs b.natAbs)) ha'
        have e : sg true (a.natAbs - b.natAbs) = a + b := by rw [sg_t]; omega
        simp (maxSteps := 1000000) only [go_sem, h1, h2, ha', hb', hc, hn, hd, e]
        exact .refl _
  · by_cases h2 : b < 0
    · rcases Nat.lt_or_ge a.natAbs b.natAbs with h | h
      · have hc : cmpI a.natAbs b.natAbs = -1 := cmpI_lt h
        have hn : (b.natAbs < a.natAbs) = False := eq_false (by omega)
        have hd := Nat.le_trans (blen_mono (Nat.sub_le b.natAbs a.natAbs)) hb'
        have e : sg true (b.natAbs - a.natAbs) = a + b := by rw [sg_t]; omega
        simp (maxSteps := 1000000) only [go_sem, h1, h2, ha', hb', hc, hn, hd, e]
        exact .refl _
      · have hc : decide (cmpI a.natAbs b.natAbs < 0) = false := cmp_ge h
        have hn : (a.natAbs < b.natAbs) = False := eq_false (by omega)
        have hd := Nat.le_trans (blen_mono (Nat.sub_le a.natAbs b.natAbs)) ha'
        have e : sg false (a.natAbs - b.natAbs) = a + b := by rw [sg_f]; omega
        simp (maxSteps := 1000000) only [go_sem, h1, h2, ha', hb', hc, hn, hd, e]
        exact .refl _
    · have e : sg false (a.natAbs + b.natAbs) = a + b := by rw [sg_f]; omega
      simp (maxSteps := 1000000) only [go_sem, h1, h2, ha', hb', hs, e]
      exact .refl _
def wAddS : List AV → Option (Prop × AV) := onW2 fun a b => (wl a ≤ 34359738368 ∧ wl b ≤ 34359738368, (.agg [.opq (.whole (a + b)), .pad, .pad]))
theorem wAddS_ok (hP : PrgOk P) (args p r) : wAddS args = some (p, r) → p → CSpec P 25 args r := onW2_ok (fun a b h => by exact wAdd_spec hP a b h.1 h.2) args p r
attribute [go_sem] wAddS
noncomputable def Wt1 : Nat → List AV → Option (Prop × AV) := addS (addS (addS (addS (addS (addS Wt0 21 wSignS) 36 wAbsS) 27 wOfS) 24 wCmpS) 42 wNegS) 25 wAddS
theorem Wt1_all (hP : PrgOk P) (T) (hT : TyOk P T) : EnvOk P ⟨T, Wt1⟩ := ((((((Wt0_all hP T hT).add (wSignS_ok hP)).add (wAbsS_ok hP)).add (wOfS_ok hP)).add (wCmpS_ok hP)).add (wNegS_ok hP)).add (wAddS_ok hP)
attribute [go_sem] Wt1

theorem wl_neg (a : Int) : wl (-a) = wl a := by unfold wl; rw [Int.natAbs_neg]
theorem wSub_spec (hP : PrgOk P) (a b : Int) (ha : wl a ≤ 34359738368) (hb : wl b ≤ 34359738368) : CSpec P 26 [(.agg [.opq (.whole (a)), .pad, .pad]), (.agg [.opq (.whole (b)), .pad, .pad])] (.agg [.opq (.whole (a - b)), .pad, .pad]) := by
  have HE := Wt1_all hP T2 hP.t2
  have hb' := Nat.le_trans hb (show _ ≤ 68719476736 by decide)
  have e : a + -b = a - b := rfl
  unfold wl at ha hb hb'
  refine CSpec_vc (E := ⟨T2, Wt1⟩) (fn26 hP) HE hP.mix rfl (by first | rfl | (simp only [go_sem]; done)) (by first | rfl | (simp only [go_sem]; done)) (Nat.le_of_ble_eq_true rfl) ?_
  simp (maxSteps := 1000000) only [go_sem, ha, hb, hb', wl, Int.natAbs_neg, e]
  exact .refl _
def wSubS : List AV → Option (Prop × AV) := onW2 fun a b => (wl a ≤ 34359738368 ∧ wl b ≤ 34359738368, (.agg [.opq (.whole (a - b)), .pad, .pad]))
theorem wSubS_ok (hP : PrgOk P) (args p r) : wSubS args = some (p, r) → p → CSpec P 26 args r := onW2_ok (fun a b h => by exact wSub_spec hP a b h.1 h.2) args p r
attribute [go_sem] wSubS

theorem sg_mul (a b : Int) : sg (!(decide (a < 0) == decide (b < 0))) (a.natAbs * b.natAbs) = a * b := by
  rw [← Int.natAbs_mul]
  have ha := sg_of a
  have hb := sg_of b
  unfold sg at *
  by_cases h1 : a < 0 <;> by_cases h2 : b < 0
  · have := Int.mul_pos_of_neg_of_neg h1 h2; simp [h1, h2]; omega
  · have := Int.mul_nonpos_of_nonpos_of_nonneg (Int.le_of_lt h1) (Int.not_lt.1 h2); simp [h1, h2]; omega
  · have := Int.mul_nonpos_of_nonneg_of_nonpos (Int.not_lt.1 h1) (Int.le_of_lt h2); simp [h1, h2]; omega
  · have := Int.mul_nonneg (Int.not_lt.1 h1) (Int.not_lt.1 h2); simp [h1, h2]; omega
theorem wMul_spec (hP : PrgOk P) (a b : Int) (ha : wl a ≤ 34359738368) (hb : wl b ≤ 34359738368) : CSpec P 41 [(.agg [.opq (.whole (a)), .pad, .pad]), (.agg [.opq (.whole (b)), .pad, .pad])] (.agg [.opq (.whole (a * b)), .pad, .pad]) := by
  have HE := Wt1_all hP T1 hP.t1
  refine CSpec.cv ?_ (.wholeIn a (.wholeIn b .nil))
  unfold wC
  unfold wl at ha hb
  have hs := Nat.le_trans (blen_mul_le ha hb) (show _ ≤ 68719476736 by decide)
  have ha' := Nat.le_trans ha (show _ ≤ 68719476736 by decide)
  have hb' := Nat.le_trans hb (show _ ≤ 68719476736 by decide)
  refine CSpec_vc (E := ⟨T1, Wt1⟩) (fn41 hP) HE hP.mix rfl (by first | rfl | (simp only [go_sem]; done)) (by first | rfl | (simp only [go_sem]; done)) (Nat.le_of_ble_eq_true rfl) ?_
  simp (maxSteps := 1000000) only [go_sem, ha', hb', hs, sg_mul]
  exact .refl _
def wMulS : List AV → Option (Prop × AV) := onW2 fun a b => (wl a ≤ 34359738368 ∧ wl b ≤ 34359738368, (.agg [.opq (.whole (a * b)), .pad, .pad]))
theorem wMulS_ok (hP : PrgOk P) (args p r) : wMulS args = some (p, r) → p → CSpec P 41 args r := onW2_ok (fun a b h => by exact wMul_spec hP a b h.1 h.2) args p r
attribute [go_sem] wMulS
end Go.Proofs.Ytokoagkbfdkacaa.AM
/- Whole numbers: quotients, texts, machine's numbers. -/
namespace Go.Proofs.Ytokoagkbfdkacaa.AM
set_option linter.all false
set_option autoImplicit true
set_option relaxedAutoImplicit true
open Go Go.Proofs
set_option maxRecDepth 100000
set_option maxHeartbeats 8000000
set_option linter.unusedSimpArgs false
variable {P : Program}

noncomputable def Wt2 : Nat → List AV → Option (Prop × AV) := addS (addS Wt1 26 wSubS) 41 wMulS
theorem Wt2_all (hP : PrgOk P) (T) (hT : TyOk P T) : EnvOk P ⟨T, Wt2⟩ := ((Wt1_all hP T hT).add (wSubS_ok hP)).add (wMulS_ok hP)
attribute [go_sem] Wt2

/-- What is left, from 0 on; how often it goes. -/
def rZ (a b : Int) : Nat := if a < 0 ∧ 0 < a.natAbs % b.natAbs then b.natAbs - a.natAbs % b.natAbs else a.natAbs % b.natAbs
def qZ (a b : Int) : Int := sg (!(decide (a < 0) == decide (b < 0))) (if a < 0 ∧ 0 < a.natAbs % b.natAbs then a.natAbs / b.natAbs + 1 else a.natAbs / b.natAbs)
theorem wQuo_zero (hP : PrgOk P) (a : Int) (ha : wl a ≤ 68719476736) : CSpec P 19 [(.agg [.opq (.whole (a)), .pad, .pad]), (.agg [.opq (.whole (0)), .pad, .pad])] (.tup [(.agg [.opq (.whole (0)), .pad, .pad]), (.agg [.opq (.whole (0)), .pad, .pad]), .int .i64 11]) := by
  have HE := Wt2_all hP T2 hP.t2
  refine CSpec.cv ?_ (.wholeIn a (.wholeIn 0 .nil))
  unfold wC
  unfold wl at ha
  have hb : blen (Int.natAbs 0) ≤ 68719476736 := by decide
  have h0 : (Int.natAbs 0 = 0) = True := eq_true rfl
  refine CSpec_vc (E := ⟨T2, Wt2⟩) (fn19 hP) HE hP.mix rfl (by first | rfl | (simp only [go_sem]; done)) (by first | rfl | (simp only [go_sem]; done)) (Nat.le_of_ble_eq_true rfl) ?_
  simp (maxSteps := 1000000) only [go_sem, ha, hb, h0]
  exact .refl _
theorem wQuo_spec (hP : PrgOk P) (a b : Int) (ha : wl a ≤ 34359738368) (hb : wl b ≤ 34359738368) (h0 : b ≠ 0) : CSpec P 19 [(.agg [.opq (.whole (a)), .pad, .pad]), (.agg [.opq (.whole (b)), .pad, .pad])] (.tup [(.agg [.opq (.whole (qZ a b)), .pad, .pad]), (.agg [.opq (.whole ((rZ a b : Nat))), .pad, .pad]), .int .i64 0]) := by
  have HE := Wt2_all hP T2 hP.t2
  refine CSpec.cv ?_ (.wholeIn a (.wholeIn b .nil))
  unfold wC
  unfold wl at ha hb
  have ha' := Nat.le_trans ha (show _ ≤ 68719476736 by decide)
  have hb' := Nat.le_trans hb (show _ ≤ 68719476736 by decide)
  have hbz : (b.natAbs = 0) = False := eq_false (by omega)
  have hq0 := blen_le_of (Nat.div_le_self a.natAbs b.natAbs) ha
  have hq := Nat.le_trans hq0 (show _ ≤ 68719476736 by decide)
  have hm : blen (a.natAbs % b.natAbs) ≤ 68719476736 := blen_le_of (Nat.mod_le _ _) ha'
  have hml := Nat.mod_lt a.natAbs (show 0 < b.natAbs by omega)
  have e0 : ∀ n : Nat, sg false n = (n : Int) := fun _ => rfl
  unfold qZ rZ
  refine CSpec_vc (E := ⟨T2, Wt2⟩) (fn19 hP) HE hP.mix rfl (by first | rfl | (simp only [go_sem]; done)) (by first | rfl | (simp only [go_sem]; done)) (Nat.le_of_ble_eq_true rfl) ?_
  by_cases h1 : a < 0
  · by_cases h2 : 0 < a.natAbs % b.natAbs
    · have hbm : 0 < blen (a.natAbs % b.natAbs) := by
        have : blen (a.natAbs % b.natAbs) ≠ 0 := by rw [Ne, blen_zero_iff]; omega
        omega
      have h1' : blen 1 ≤ 68719476736 := by decide
      have hq1 := Nat.le_trans (blen_add_le hq0 (show blen 1 ≤ 34359738368 by decide)) (show _ ≤ 68719476736 by decide)
      have hlt : (b.natAbs < a.natAbs % b.natAbs) = False := eq_false (by omega)
      have hd := Nat.le_trans (blen_mono (Nat.sub_le b.natAbs (a.natAbs % b.natAbs))) hb'
      have i1 : (1 : Int).toNat = 1 := rfl
      have h12 : (a < 0 ∧ 0 < a.natAbs % b.natAbs) = True := eq_true ⟨h1, h2⟩
      simp (maxSteps := 1000000) only [go_sem, h1, h2, ha', hb', hbz, hq, hm, hbm, h1', hq1, hlt, hd, i1, e0, h12]
      (repeat' (first | exact Conv.refl _ | refine And.intro ?_ ?_)) <;> first | omega | decide
    · have hbm : ¬ 0 < blen (a.natAbs % b.natAbs) := by
        have : blen (a.natAbs % b.natAbs) = 0 := (blen_zero_iff _).2 (by omega)
        omega
      have h12 : (a < 0 ∧ 0 < a.natAbs % b.natAbs) = False := eq_false fun h => h2 h.2
      simp (maxSteps := 1000000) only [go_sem, h1, h2, ha', hb', hbz, hq, hm, hbm, e0, h12]
      exact .refl _
  · have h12 : (a < 0 ∧ 0 < a.natAbs % b.natAbs) = False := eq_false fun h => h1 h.1
    simp (maxSteps := 1000000) only [go_sem, h1, ha', hb', hbz, hq, hm, e0, h12]
    exact .refl _
def wQuoS : List AV → Option (Prop × AV) := onW2 fun a b => (wl a ≤ 34359738368 ∧ wl b ≤ 34359738368, if b = 0 then .tup [(.agg [.opq (.whole (0)), .pad, .pad]), (.agg [.opq (.whole (0)), .pad, .pad]), .int .i64 11] else .tup [(.agg [.opq (.whole (qZ a b)), .pad, .pad]), (.agg [.opq (.whole ((rZ a b : Nat))), .pad, .pad]), .int .i64 0])
theorem wQuoS_ok (hP : PrgOk P) (args p r) : wQuoS args = some (p, r) → p → CSpec P 19 args r := onW2_ok (fun a b h => by
  by_cases hb : b = 0
  · subst hb; simp only [if_pos]; exact wQuo_zero hP a (Nat.le_trans h.1 (by decide))
  · simp only [if_neg hb]; exact wQuo_spec hP a b h.1 h.2 hb) args p r
attribute [go_sem] wQuoS

/-- The text of a whole number. -/
def itS (z : Int) : ByteArray := if z < 0 then ⟨#[45]⟩ ++ decS z.natAbs else decS z.natAbs
theorem decS_size (a : Nat) : (decS a).size = (decL a).length := by unfold decS; rw [bytesS_size, List.length_map]
theorem wText_spec (hP : PrgOk P) (z : Int) (h : wl z ≤ 68719476736) : CSpec P 15 [(.agg [.opq (.whole (z)), .pad, .pad])] (.str (itS z)) := by
  have HE := Wt2_all hP T2 hP.t2
  refine CSpec.cv ?_ (.wholeIn z .nil)
  unfold wC
  unfold wl at h
  unfold itS
  have hl := decL_len z.natAbs
  have hs : (ByteArray.mk #[45]).size + (decS z.natAbs).size ≤ 9223372036854775807 := by
    rw [decS_size]; have : (ByteArray.mk #[45]).size = 1 := rfl
    omega
  refine CSpec_vc (E := ⟨T2, Wt2⟩) (fn15 hP) HE hP.mix rfl (by first | rfl | (simp only [go_sem]; done)) (by first | rfl | (simp only [go_sem]; done)) (Nat.le_of_ble_eq_true rfl) ?_
  by_cases h1 : z < 0
  · simp (maxSteps := 1000000) only [go_sem, h1, h]
    exact ⟨hs, .refl _⟩
  · simp (maxSteps := 1000000) only [go_sem, h1, h]
    exact .refl _
def wTextS : List AV → Option (Prop × AV) := onW1 fun a => (wl a ≤ 68719476736, .str (itS a))
theorem wTextS_ok (hP : PrgOk P) (args p r) : wTextS args = some (p, r) → p → CSpec P 15 args r := onW1_ok (fun a h => by exact wText_spec hP a h) args p r
attribute [go_sem] wTextS

/-- Does it fit into a machine's number? -/
def fitZ (z : Int) : Bool := decide (-9223372036854775808 ≤ z ∧ z ≤ 9223372036854775807)
theorem wInt64_spec (hP : PrgOk P) (z : Int) : CSpec P 33 [(.agg [.opq (.whole (z)), .pad, .pad])] (.tup [.int .i64 (if fitZ z = true then z else 0), .bool (fitZ z)]) := by
  have HE := Wt2_all hP T2 hP.t2
  refine CSpec.cv ?_ (.wholeIn z .nil)
  unfold wC
  unfold fitZ
  refine CSpec_vc (E := ⟨T2, Wt2⟩) (fn33 hP) HE hP.mix rfl (by first | rfl | (simp only [go_sem]; done)) (by first | rfl | (simp only [go_sem]; done)) (Nat.le_of_ble_eq_true rfl) ?_
  by_cases h1 : z.natAbs < 18446744073709551616
  · by_cases h2 : 9223372036854775808 < z.natAbs
    · have hf : decide (-9223372036854775808 ≤ z ∧ z ≤ 9223372036854775807) = false := decide_eq_false (by omega)
      simp (maxSteps := 1000000) only [go_sem, h1, h2, hf]
      exact .refl _
    · by_cases h3 : z < 0
      · have hf : decide (-9223372036854775808 ≤ z ∧ z ≤ 9223372036854775807) = true := decide_eq_true (by omega)
        have w1 : IntKind.i64.wrap (IntKind.u64.wrap (0 - (z.natAbs : Int))) = z := by rw [IntKind.wrap_u64, IntKind.wrap_i64]; omega
        rcases (by cases (z.natAbs == 9223372036854775808) <;> simp : (z.natAbs == 9223372036854775808) = true ∨ (z.natAbs == 9223372036854775808) = false) with h4 | h4
        · simp (maxSteps := 1000000) only [go_sem, h1, h2, h3, h4, hf, w1]
          exact .refl _
        · simp (maxSteps := 1000000) only [go_sem, h1, h2, h3, h4, hf, w1]
          exact .refl _
      · rcases (by cases (z.natAbs == 9223372036854775808) <;> simp : (z.natAbs == 9223372036854775808) = true ∨ (z.natAbs == 9223372036854775808) = false) with h4 | h4
        · have h5 : z.natAbs = 9223372036854775808 := eq_of_beq h4
          have hf : decide (-9223372036854775808 ≤ z ∧ z ≤ 9223372036854775807) = false := decide_eq_false (by omega)
          simp (maxSteps := 1000000) only [go_sem, h1, h2, h3, h4, hf]
          exact .refl _
        · have h5 : z.natAbs ≠ 9223372036854775808 := by simpa using h4
          have hf : decide (-9223372036854775808 ≤ z ∧ z ≤ 9223372036854775807) = true := decide_eq_true (by omega)
          have w1 : IntKind.i64.wrap (z.natAbs : Int) = z := by rw [IntKind.wrap_i64]; omega
          simp (maxSteps := 1000000) only [go_sem, h1, h2, h3, h4, hf, w1]
          exact .refl _
  · have hf : decide (-9223372036854775808 ≤ z ∧ z ≤ 9223372036854775807) = false := decide_eq_false (by omega)
    simp (maxSteps := 1000000) only [go_sem, h1, hf]
    exact .refl _
def wInt64S : List AV → Option (Prop × AV) := onW1 fun z => (True, .tup [.int .i64 (if fitZ z = true then z else 0), .bool (fitZ z)])
theorem wInt64S_ok (hP : PrgOk P) (args p r) : wInt64S args = some (p, r) → p → CSpec P 33 args r := onW1_ok (fun a _ => by exact wInt64_spec hP a) args p r
attribute [go_sem] wInt64S

/-- A text read: the number, and what is wrong with it. -/
noncomputable def prD (l : List Nat) : Nat × Int := if okD l then (if l.length ≤ 256 then (valL l, 0) else (0, 3)) else (0, 12)
theorem parseR_eq (l : List Nat) : parseR l = .tup [(.agg [.opq (.nat ((prD l).1)), .pad]), .int .i64 (prD l).2] := by
  unfold prD
  by_cases h : okD l
  · by_cases h2 : l.length ≤ 256
    · rw [parse_ok h h2, if_pos h, if_pos h2]
    · rw [parse_long h (by omega), if_pos h, if_neg h2]
  · rw [parse_bad h, if_neg h]
noncomputable def parW (l : List Nat) : Int × Int := if l = [45, 48] then (0, 12) else (sg (decide (l.getD 0 0 = 45)) (prD (if l.getD 0 0 = 45 then l.drop 1 else l)).1, (prD (if l.getD 0 0 = 45 then l.drop 1 else l)).2)
theorem bl_inj {s t : ByteArray} (h : bl s = bl t) : s = t := by rw [← bytesS_bl s, ← bytesS_bl t, h]
theorem prD_zero {l : List Nat} (h : (prD l).2 ≠ 0) : (prD l).1 = 0 := by
  unfold prD at *
  by_cases h1 : okD l
  · by_cases h2 : l.length ≤ 256
    · simp [h1, h2] at h
    · simp [h1, h2]
  · simp [h1]
theorem prD_blen (l : List Nat) : blen (prD l).1 ≤ 1024 := by
  unfold prD
  split
  · split
    · exact valL_blen ‹_› ‹_›
    · decide
  · decide
theorem sg_zero (m : Bool) : sg m 0 = 0 := by cases m <;> rfl
theorem wParse_spec (hP : PrgOk P) (s : ByteArray) (hs : (bl s).length ≤ 1099511627776) : CSpec P 13 [.str s] (.tup [(.agg [.opq (.whole ((parW (bl s)).1)), .pad, .pad]), .int .i64 (parW (bl s)).2]) := by
  have HE := Wt2_all hP T2 hP.t2
  have hsz := size_bl s
  have hg := get_bl s 0
  have hx : bl (s.extract 1 (bl s).length) = (bl s).drop 1 := by
    rw [bl_extract]; exact List.take_of_length_le (by rw [List.length_drop]; omega)
  have hxl : ((bl s).drop 1).length ≤ 1099511627776 := by rw [List.length_drop]; omega
  have hcmp : (s.toList == ByteArray.toList ⟨#[45, 48]⟩) = decide (bl s = [45, 48]) := by
    rw [str_same]
    exact decide_eq_decide.2 ⟨fun h => h ▸ rfl, fun h => bl_inj h⟩
  refine CSpec_vc (E := ⟨T2, Wt2⟩) (fn13 hP) HE hP.mix rfl (by first | rfl | (simp only [go_sem]; done)) (by first | rfl | (simp only [go_sem]; done)) (Nat.le_of_ble_eq_true rfl) ?_
  unfold parW
  obtain ⟨l, hbl⟩ : ∃ l, bl s = l := ⟨_, rfl⟩
  rw [hbl] at hs hsz hg hx hxl hcmp ⊢
  have pb := le_big (prD_blen (l.drop 1)) (show _ ≤ 68719476736 by decide)
  have pb2 := le_big (prD_blen l) (show _ ≤ 68719476736 by decide)
  by_cases h0 : 0 < l.length
  · rcases (by cases (l.getD 0 0 == 45) <;> simp : (l.getD 0 0 == 45) = true ∨ (l.getD 0 0 == 45) = false) with hm | hm
    · have hm' : l.getD 0 0 = 45 := eq_of_beq hm
      have dm : decide (l.getD 0 0 = 45) = true := decide_eq_true hm'
      by_cases h1 : l = [45, 48]
      · have h1' : decide (l = [45, 48]) = true := decide_eq_true h1
        rw [if_pos h1]
        simp (maxSteps := 1000000) only [go_sem, hbl, hsz, hg, h0, hm, hcmp, h1']
        (repeat' (first | exact Conv.refl _ | refine And.intro ?_ ?_)) <;> first | omega | decide
      · have h1' : decide (l = [45, 48]) = false := decide_eq_false h1
        rw [if_neg h1, if_pos hm', dm]
        by_cases he : (prD (l.drop 1)).2 = 0
        · have he' : ((prD (l.drop 1)).2 != 0) = false := by rw [he]; rfl
          simp (maxSteps := 1000000) only [go_sem, hbl, hsz, hg, h0, hm, hcmp, h1', hx, hxl, parseR_eq, he', pb]
          rw [he]
          (repeat' (first | exact Conv.refl _ | refine And.intro ?_ ?_)) <;> first | omega | decide
        · have he' : ((prD (l.drop 1)).2 != 0) = true := by simpa using he
          have hz := prD_zero he
          rw [hz, sg_zero]
          simp (maxSteps := 1000000) only [go_sem, hbl, hsz, hg, h0, hm, hcmp, h1', hx, hxl, parseR_eq, he']
          (repeat' (first | exact Conv.refl _ | refine And.intro ?_ ?_)) <;> first | omega | decide
    · have hm' : ¬ l.getD 0 0 = 45 := by simpa using hm
      have dm : decide (l.getD 0 0 = 45) = false := decide_eq_false hm'
      have h1 : ¬ l = [45, 48] := fun h => hm' (by rw [h]; rfl)
      have h1' : decide (l = [45, 48]) = false := decide_eq_false h1
      rw [if_neg h1, if_neg hm', dm]
      by_cases he : (prD l).2 = 0
      · have he' : ((prD l).2 != 0) = false := by rw [he]; rfl
        simp (maxSteps := 1000000) only [go_sem, hbl, hsz, hg, h0, hm, hcmp, h1', hs, parseR_eq, he', pb2]
        rw [he]
        (repeat' (first | exact Conv.refl _ | refine And.intro ?_ ?_)) <;> first | omega | decide
      · have he' : ((prD l).2 != 0) = true := by simpa using he
        have hz := prD_zero he
        rw [hz, sg_zero]
        simp (maxSteps := 1000000) only [go_sem, hbl, hsz, hg, h0, hm, hcmp, h1', hs, parseR_eq, he']
        (repeat' (first | exact Conv.refl _ | refine And.intro ?_ ?_)) <;> first | omega | decide
  · have hl0 : l = [] := List.length_eq_zero_iff.1 (by omega)
    have hm' : ¬ l.getD 0 0 = 45 := by rw [hl0]; decide
    have hm : (l.getD 0 0 == 45) = false := by rw [hl0]; rfl
    have dm : decide (l.getD 0 0 = 45) = false := decide_eq_false hm'
    have h1 : ¬ l = [45, 48] := fun h => hm' (by rw [h]; rfl)
    have h1' : decide (l = [45, 48]) = false := decide_eq_false h1
    rw [if_neg h1, if_neg hm', dm]
    by_cases he : (prD l).2 = 0
    · have he' : ((prD l).2 != 0) = false := by rw [he]; rfl
      simp (maxSteps := 1000000) only [go_sem, hbl, hsz, hg, h0, hm, hcmp, h1', hs, parseR_eq, he', pb2]
      rw [he]
      (repeat' (first | exact Conv.refl _ | refine And.intro ?_ ?_)) <;> first | omega | decide
    · have he' : ((prD l).2 != 0) = true := by simpa using he
      have hz := prD_zero he
      rw [hz, sg_zero]
      simp (maxSteps := 1000000) only [go_sem, hbl, hsz, hg, h0, hm, hcmp, h1', hs, parseR_eq, he']
      (repeat' (first | exact Conv.refl _ | refine And.intro ?_ ?_)) <;> first | omega | decide
noncomputable def wParseS : List AV → Option (Prop × AV)
  | [.str s] => some ((bl s).length ≤ 1099511627776, .tup [(.agg [.opq (.whole ((parW (bl s)).1)), .pad, .pad]), .int .i64 (parW (bl s)).2])
  | _ => none
theorem wParseS_ok (hP : PrgOk P) (args p r) (h : wParseS args = some (p, r)) (hp : p) : CSpec P 13 args r := by
  unfold wParseS at h
  split at h
  · simp only [Option.some.injEq, Prod.mk.injEq] at h
    obtain ⟨rfl, rfl⟩ := h
    exact wParse_spec hP _ hp
  · simp at h
attribute [go_sem] wParseS
noncomputable def Wt3 : Nat → List AV → Option (Prop × AV) := addS (addS (addS (addS Wt2 19 wQuoS) 15 wTextS) 33 wInt64S) 13 wParseS
theorem Wt3_all (hP : PrgOk P) (T) (hT : TyOk P T) : EnvOk P ⟨T, Wt3⟩ := ((((Wt2_all hP T hT).add (wQuoS_ok hP)).add (wTextS_ok hP)).add (wInt64S_ok hP)).add (wParseS_ok hP)
attribute [go_sem] Wt3
end Go.Proofs.Ytokoagkbfdkacaa.AM
/- The document's whole numbers. -/
namespace Go.Proofs.Ytokoagkbfdkacaa.AM
set_option linter.all false
set_option autoImplicit true
set_option relaxedAutoImplicit true
open Go Go.Proofs
set_option maxRecDepth 100000
set_option maxHeartbeats 8000000
set_option linter.unusedSimpArgs false
variable {P : Program}

def rC (z : Int) : List AV := [.bool (decide (z < 0)), .opq (.rnat z.natAbs)]
theorem CvL.rintIn (z : Int) {xs bs} (h : CvL xs bs) : CvL ((.agg [.opq (.rint (z)), .pad]) :: xs) (.agg (rC z) :: bs) := .agg (by simpa [Pay.open, Pay.width, rC] using CvL.unfold (.rint z) []) h
theorem CvL.rintOut (z : Int) {xs bs} (h : CvL xs bs) : CvL (.agg (rC z) :: xs) ((.agg [.opq (.rint (z)), .pad]) :: bs) := .agg (by simpa [Pay.open, Pay.width, rC] using CvL.fold (.rint z) [] rfl) h
theorem Conv.rint (z : Int) : Conv (.agg (rC z)) (.agg [.opq (.rint (z)), .pad]) := CvL.conv (.rintOut z .nil)
theorem rC_sg {m : Bool} {a : Nat} (h : m = true → 0 < a) : rC (sg m a) = [.bool m, .opq (.rnat a)] := by
  unfold rC; rw [sg_abs, sg_neg]
  cases m
  · rfl
  · rw [decide_eq_true (h rfl)]; rfl
def rawI : AV → Option (Prop × Int)
  | .agg [.opq (.rint z), .pad] => some (True, z)
  | .agg [.bool m, .opq (.rnat a)] => some (m = true → 0 < a, sg m a)
  | _ => none
theorem rawI_atom (z : Int) : rawI (.agg [.opq (.rint (z)), .pad]) = some (True, z) := rfl
theorem rawI_raw (m a) : rawI (.agg [.bool m, .opq (.rnat a)]) = some (m = true → 0 < a, sg m a) := rfl
theorem rawI_cv {v : AV} {p z} (h : rawI v = some (p, z)) (hp : p) {xs bs} (k : CvL xs bs) : CvL (v :: xs) ((.agg [.opq (.rint (z)), .pad]) :: bs) := by
  unfold rawI at h
  split at h
  · simp only [Option.some.injEq, Prod.mk.injEq] at h
    obtain ⟨rfl, rfl⟩ := h
    exact .agg (.refl _) k
  · simp only [Option.some.injEq, Prod.mk.injEq] at h
    obtain ⟨rfl, rfl⟩ := h
    rw [← rC_sg hp]; exact .rintOut _ k
  · simp at h
def onI1 (f : Int → Prop × AV) : List AV → Option (Prop × AV)
  | [x] => (rawI x).map fun a => (a.1 ∧ (f a.2).1, (f a.2).2)
  | _ => none
def onI2 (f : Int → Int → Prop × AV) : List AV → Option (Prop × AV)
  | [x, y] => (rawI x).bind fun a => (rawI y).map fun b => (a.1 ∧ b.1 ∧ (f a.2 b.2).1, (f a.2 b.2).2)
  | _ => none
theorem onI1_ok {fi : Nat} {f : Int → Prop × AV} (h : ∀ a, (f a).1 → CSpec P fi [(.agg [.opq (.rint (a)), .pad])] (f a).2) (args p r) (he : onI1 f args = some (p, r)) (hp : p) : CSpec P fi args r := by
  unfold onI1 at he
  split at he
  · simp only [Option.map_eq_some_iff, Prod.exists, Prod.mk.injEq] at he
    obtain ⟨q, a, h1, rfl, rfl⟩ := he
    exact (h a hp.2).cv (rawI_cv h1 hp.1 .nil)
  · simp at he
theorem onI2_ok {fi : Nat} {f : Int → Int → Prop × AV} (h : ∀ a b, (f a b).1 → CSpec P fi [(.agg [.opq (.rint (a)), .pad]), (.agg [.opq (.rint (b)), .pad])] (f a b).2) (args p r) (he : onI2 f args = some (p, r)) (hp : p) : CSpec P fi args r := by
  unfold onI2 at he
  split at he
  · simp only [Option.bind_eq_some_iff, Option.map_eq_some_iff, Prod.exists, Prod.mk.injEq] at he
    obtain ⟨q, a, h1, q', b, h2, rfl, rfl⟩ := he
    exact (h a b hp.2.2).cv (rawI_cv h1 hp.1 (rawI_cv h2 hp.2.1 .nil))
  · simp at he
theorem onI1_eq (f x) : onI1 f [x] = (rawI x).map fun a => (a.1 ∧ (f a.2).1, (f a.2).2) := rfl
theorem onI2_eq (f x y) : onI2 f [x, y] = (rawI x).bind fun a => (rawI y).map fun b => (a.1 ∧ b.1 ∧ (f a.2 b.2).1, (f a.2 b.2).2) := rfl
attribute [go_sem] rawI_atom rawI_raw onI1_eq onI2_eq

theorem CvL.conv1 {a b : AV} (h : Conv a b) : CvL [a] [b] := fun X φ w l hl => by
  obtain ⟨v, rfl⟩ : ∃ v, l = [v] := by
    have := hl.length
    match l, this with
    | [v], _ => exact ⟨v, rfl⟩
  exact h X φ w v hl
theorem cmp_ge' {a b : Nat} (h : b ≤ a) : decide (0 ≤ cmpI a b) = true := by
  rcases Nat.lt_or_eq_of_le h with h | h
  · rw [cmpI_gt h]; rfl
  · rw [h, cmpI_eq]; rfl
theorem blen_pos_iff {a : Nat} : 0 < blen a ↔ 0 < a := by
  have := blen_zero_iff a; omega
theorem iMake_spec (hP : PrgOk P) (m : Bool) (a : Nat) (ha : blen a ≤ 68719476736) : CSpec P 31 [.bool m, (.opq (.rnat (a)))] (.agg [.opq (.rint (sg m a)), .pad]) := by
  have HE := Sr_all hP T2 hP.t2
  rcases Nat.eq_zero_or_pos a with h | h
  · subst h
    have hb : (blen 0 == 0) = true := rfl
    rw [sg_zero]
    refine CSpec_vc (E := ⟨T2, Sr⟩) (fn31 hP) HE hP.mix rfl (by first | rfl | (simp only [go_sem]; done)) (by first | rfl | (simp only [go_sem]; done)) (Nat.le_of_ble_eq_true rfl) ?_
    simp (maxSteps := 1000000) only [go_sem, ha, hb]
    exact .refl _
  · have hb : (blen a == 0) = false := beq_eq_false_iff_ne.2 (by have := blen_pos_iff.2 h; omega)
    refine CSpec.conv (r := .agg (rC (sg m a))) ?_ (.rint _)
    rw [rC_sg (fun _ => h)]
    have HE := Sr_all hP T1 hP.t1
    refine CSpec_vc (E := ⟨T1, Sr⟩) (fn31 hP) HE hP.mix rfl (by first | rfl | (simp only [go_sem]; done)) (by first | rfl | (simp only [go_sem]; done)) (Nat.le_of_ble_eq_true rfl) ?_
    simp (maxSteps := 1000000) only [go_sem, ha, hb]
    exact .refl _
def iMakeS : List AV → Option (Prop × AV)
  | [.bool m, x] => (rawR x).map fun a => (a.1 ∧ blen a.2 ≤ 68719476736, (.agg [.opq (.rint (sg m a.2)), .pad]))
  | _ => none
theorem iMakeS_eq (m x) : iMakeS [.bool m, x] = (rawR x).map fun a => (a.1 ∧ blen a.2 ≤ 68719476736, (.agg [.opq (.rint (sg m a.2)), .pad])) := rfl
theorem iMakeS_ok (hP : PrgOk P) (args p r) (he : iMakeS args = some (p, r)) (hp : p) : CSpec P 31 args r := by
  unfold iMakeS at he
  split at he
  · simp only [Option.map_eq_some_iff, Prod.exists, Prod.mk.injEq] at he
    obtain ⟨q, a, h1, rfl, rfl⟩ := he
    exact (iMake_spec hP _ a hp.2).cv (.cons rfl (.trans (rawR_cv h1 hp.1 .nil) (by simpa using CvL.conv1 (.rnat a))))
  · simp at he
attribute [go_sem] iMakeS_eq

theorem iSign_spec (hP : PrgOk P) (z : Int) (h : wl z ≤ 68719476736) : CSpec P 20 [(.agg [.opq (.rint (z)), .pad])] (.int .i64 (sgnZ z)) := by
  have HE := Sr_all hP T2 hP.t2
  refine CSpec.cv ?_ (.rintIn z .nil)
  unfold rC
  refine CSpec_vc (E := ⟨T2, Sr⟩) (fn20 hP) HE hP.mix rfl (by first | rfl | (simp only [go_sem]; done)) (by first | rfl | (simp only [go_sem]; done)) (Nat.le_of_ble_eq_true rfl) ?_
  unfold sgnZ
  unfold wl at h
  by_cases h0 : z = 0
  · have hb : (blen z.natAbs == 0) = true := beq_iff_eq.2 ((blen_zero_iff _).2 (by omega))
    rw [if_pos h0]
    simp (maxSteps := 1000000) only [go_sem, h, hb]
    exact .refl _
  · have hb : (blen z.natAbs == 0) = false := beq_eq_false_iff_ne.2 fun e => h0 (by have := (blen_zero_iff _).1 e; omega)
    rw [if_neg h0]
    by_cases h1 : z < 0
    · rw [if_pos h1]
      simp (maxSteps := 1000000) only [go_sem, h, hb, h1]
      exact .refl _
    · rw [if_neg h1]
      simp (maxSteps := 1000000) only [go_sem, h, hb, h1]
      exact .refl _
def iSignS : List AV → Option (Prop × AV) := onI1 fun a => (wl a ≤ 68719476736, .int .i64 (sgnZ a))
theorem iSignS_ok (hP : PrgOk P) (args p r) : iSignS args = some (p, r) → p → CSpec P 20 args r := onI1_ok (fun a h => by exact iSign_spec hP a h) args p r
attribute [go_sem] iSignS
noncomputable def It0 : Nat → List AV → Option (Prop × AV) := addS (addS Sr 31 iMakeS) 20 iSignS
theorem It0_all (hP : PrgOk P) (T) (hT : TyOk P T) : EnvOk P ⟨T, It0⟩ := ((Sr_all hP T hT).add (iMakeS_ok hP)).add (iSignS_ok hP)
attribute [go_sem] It0

theorem iOf_spec (hP : PrgOk P) (n : Int) (h1 : -9223372036854775808 ≤ n) (h2 : n ≤ 9223372036854775807) : CSpec P 28 [.int .i64 n] (.agg [.opq (.rint (n)), .pad]) := by
  have HE := It0_all hP T2 hP.t2
  have hb : blen n.natAbs ≤ 68719476736 := le_big ((blen_le_iff _ 64).2 (by omega)) (by decide)
  refine CSpec_vc (E := ⟨T2, It0⟩) (fn28 hP) HE hP.mix rfl (by first | rfl | (simp only [go_sem]; done)) (by first | rfl | (simp only [go_sem]; done)) (Nat.le_of_ble_eq_true rfl) ?_
  by_cases h : n < 0
  · have e1 : IntKind.u64.wrap n = n + 18446744073709551616 := by rw [IntKind.wrap_u64]; omega
    have e2 : IntKind.u64.wrap (0 - (n + 18446744073709551616)) = -n := by rw [IntKind.wrap_u64]; omega
    have e3 : ((0 : Int) ≤ -n) = True := eq_true (by omega)
    have e4 : (-n < 18446744073709551616) = True := eq_true (by omega)
    have e5 : (-n).toNat = n.natAbs := by omega
    have e6 : sg true n.natAbs = n := by rw [sg_t]; omega
    simp (maxSteps := 1000000) only [go_sem, h, e1, e2, e3, e4, e5, hb, e6]
    exact .refl _
  · have e1 : IntKind.u64.wrap n = n := by rw [IntKind.wrap_u64]; omega
    have e3 : ((0 : Int) ≤ n) = True := eq_true (by omega)
    have e4 : (n < 18446744073709551616) = True := eq_true (by omega)
    have e5 : n.toNat = n.natAbs := by omega
    have e6 : sg false n.natAbs = n := by rw [sg_f]; omega
    simp (maxSteps := 1000000) only [go_sem, h, e1, e3, e4, e5, hb, e6]
    exact .refl _
def iOfS : List AV → Option (Prop × AV)
  | [.int .i64 n] => some (-9223372036854775808 ≤ n ∧ n ≤ 9223372036854775807, (.agg [.opq (.rint (n)), .pad]))
  | _ => none
theorem iOfS_ok (hP : PrgOk P) (args p r) (h : iOfS args = some (p, r)) (hp : p) : CSpec P 28 args r := by
  unfold iOfS at h
  split at h
  · simp only [Option.some.injEq, Prod.mk.injEq] at h
    obtain ⟨rfl, rfl⟩ := h
    exact iOf_spec hP _ hp.1 hp.2
  · simp at h
attribute [go_sem] iOfS

theorem iText_spec (hP : PrgOk P) (z : Int) (h : wl z ≤ 68719476736) : CSpec P 16 [(.agg [.opq (.rint (z)), .pad])] (.str (itS z)) := by
  have HE := It0_all hP T2 hP.t2
  refine CSpec.cv ?_ (.rintIn z .nil)
  have h' := h
  unfold wl at h'
  unfold itS
  have hl := decL_len z.natAbs
  have hs : (ByteArray.mk #[45]).size + (decS z.natAbs).size ≤ 9223372036854775807 := by
    rw [decS_size]; have : (ByteArray.mk #[45]).size = 1 := rfl
    omega
  have hr : (decide (z < 0) = true → 0 < z.natAbs) = True := eq_true fun e => by have := of_decide_eq_true e; omega
  have hz := sg_of z
  unfold rC
  obtain ⟨m, hm⟩ : ∃ m, decide (z < 0) = m := ⟨_, rfl⟩
  rw [hm] at hr hz
  rw [hm]
  refine CSpec_vc (E := ⟨T2, It0⟩) (fn16 hP) HE hP.mix rfl (by first | rfl | (simp only [go_sem]; done)) (by first | rfl | (simp only [go_sem]; done)) (Nat.le_of_ble_eq_true rfl) ?_
  by_cases h1 : z < 0
  · have e : decide (sgnZ z < 0) = true := by unfold sgnZ; rw [if_neg (by omega), if_pos h1]; rfl
    rw [if_pos h1]
    simp (maxSteps := 1000000) only [go_sem, h', h, hr, hz, e]
    exact ⟨hs, .refl _⟩
  · have e : decide (sgnZ z < 0) = false := by
      unfold sgnZ; rw [if_neg h1]; split <;> rfl
    rw [if_neg h1]
    simp (maxSteps := 1000000) only [go_sem, h', h, hr, hz, e]
    exact .refl _
def iTextS : List AV → Option (Prop × AV) := onI1 fun a => (wl a ≤ 68719476736, .str (itS a))
theorem iTextS_ok (hP : PrgOk P) (args p r) : iTextS args = some (p, r) → p → CSpec P 16 args r := onI1_ok (fun a h => by exact iText_spec hP a h) args p r
attribute [go_sem] iTextS

theorem iInt64_spec (hP : PrgOk P) (z : Int) (h : wl z ≤ 68719476736) : CSpec P 34 [(.agg [.opq (.rint (z)), .pad])] (.tup [.int .i64 (if fitZ z = true then z else 0), .bool (fitZ z)]) := by
  have HE := It0_all hP T2 hP.t2
  refine CSpec.cv ?_ (.rintIn z .nil)
  unfold rC
  unfold fitZ
  have hl : (digs 65536 z.natAbs).length ≤ 1099511627776 := by have := rlen_blen z.natAbs; unfold wl at h; omega
  refine CSpec_vc (E := ⟨T2, It0⟩) (fn34 hP) HE hP.mix rfl (by first | rfl | (simp only [go_sem]; done)) (by first | rfl | (simp only [go_sem]; done)) (Nat.le_of_ble_eq_true rfl) ?_
  by_cases h1 : z.natAbs < 18446744073709551616
  · by_cases h2 : 9223372036854775808 < z.natAbs
    · have hf : decide (-9223372036854775808 ≤ z ∧ z ≤ 9223372036854775807) = false := decide_eq_false (by omega)
      simp (maxSteps := 1000000) only [go_sem, hl, h1, h2, hf]
      exact .refl _
    · by_cases h3 : z < 0
      · have hf : decide (-9223372036854775808 ≤ z ∧ z ≤ 9223372036854775807) = true := decide_eq_true (by omega)
        have w1 : IntKind.i64.wrap (IntKind.u64.wrap (0 - (z.natAbs : Int))) = z := by rw [IntKind.wrap_u64, IntKind.wrap_i64]; omega
        rcases (by cases (z.natAbs == 9223372036854775808) <;> simp : (z.natAbs == 9223372036854775808) = true ∨ (z.natAbs == 9223372036854775808) = false) with h4 | h4
        · simp (maxSteps := 1000000) only [go_sem, hl, h1, h2, h3, h4, hf, w1]
          exact .refl _
        · simp (maxSteps := 1000000) only [go_sem, hl, h1, h2, h3, h4, hf, w1]
          exact .refl _
      · rcases (by cases (z.natAbs == 9223372036854775808) <;> simp : (z.natAbs == 9223372036854775808) = true ∨ (z.natAbs == 9223372036854775808) = false) with h4 | h4
        · have h5 : z.natAbs = 9223372036854775808 := eq_of_beq h4
          have hf : decide (-9223372036854775808 ≤ z ∧ z ≤ 9223372036854775807) = false := decide_eq_false (by omega)
          simp (maxSteps := 1000000) only [go_sem, hl, h1, h2, h3, h4, hf]
          exact .refl _
        · have h5 : z.natAbs ≠ 9223372036854775808 := by simpa using h4
          have hf : decide (-9223372036854775808 ≤ z ∧ z ≤ 9223372036854775807) = true := decide_eq_true (by omega)
          have w1 : IntKind.i64.wrap (z.natAbs : Int) = z := by rw [IntKind.wrap_i64]; omega
          simp (maxSteps := 1000000) only [go_sem, hl, h1, h2, h3, h4, hf, w1]
          exact .refl _
  · have hf : decide (-9223372036854775808 ≤ z ∧ z ≤ 9223372036854775807) = false := decide_eq_false (by omega)
    simp (maxSteps := 1000000) only [go_sem, hl, h1, hf]
    exact .refl _
def iInt64S : List AV → Option (Prop × AV) := onI1 fun z => (wl z ≤ 68719476736, .tup [.int .i64 (if fitZ z = true then z else 0), .bool (fitZ z)])
theorem iInt64S_ok (hP : PrgOk P) (args p r) : iInt64S args = some (p, r) → p → CSpec P 34 args r := onI1_ok (fun a h => by exact iInt64_spec hP a h) args p r
attribute [go_sem] iInt64S

theorem iNeg_spec (hP : PrgOk P) (a : Int) (ha : wl a ≤ 68719476736) : CSpec P 46 [(.agg [.opq (.rint (a)), .pad])] (.agg [.opq (.rint (-a)), .pad]) := by
  have HE := It0_all hP T2 hP.t2
  refine CSpec.cv ?_ (.rintIn a .nil)
  unfold rC
  unfold wl at ha
  refine CSpec_vc (E := ⟨T2, It0⟩) (fn46 hP) HE hP.mix rfl (by first | rfl | (simp only [go_sem]; done)) (by first | rfl | (simp only [go_sem]; done)) (Nat.le_of_ble_eq_true rfl) ?_
  have e : sg (!decide (a < 0)) a.natAbs = -a := by
    by_cases h : a < 0
    · rw [decide_eq_true h]; simp [sg]; omega
    · rw [decide_eq_false h]; simp [sg]; omega
  simp (maxSteps := 1000000) only [go_sem, ha, e]
  exact .refl _
def iNegS : List AV → Option (Prop × AV) := onI1 fun a => (wl a ≤ 68719476736, (.agg [.opq (.rint (-a)), .pad]))
theorem iNegS_ok (hP : PrgOk P) (args p r) : iNegS args = some (p, r) → p → CSpec P 46 args r := onI1_ok (fun a h => by exact iNeg_spec hP a h) args p r
attribute [go_sem] iNegS

theorem iMul_spec (hP : PrgOk P) (a b : Int) (ha : wl a ≤ 34359738368) (hb : wl b ≤ 34359738368) : CSpec P 45 [(.agg [.opq (.rint (a)), .pad]), (.agg [.opq (.rint (b)), .pad])] (.agg [.opq (.rint (a * b)), .pad]) := by
  have HE := It0_all hP T2 hP.t2
  refine CSpec.cv ?_ (.rintIn a (.rintIn b .nil))
  unfold rC
  unfold wl at ha hb
  have hs := Nat.le_trans (blen_mul_le ha hb) (show _ ≤ 68719476736 by decide)
  have ha' := Nat.le_trans ha (show _ ≤ 68719476736 by decide)
  have hb' := Nat.le_trans hb (show _ ≤ 68719476736 by decide)
  refine CSpec_vc (E := ⟨T2, It0⟩) (fn45 hP) HE hP.mix rfl (by first | rfl | (simp only [go_sem]; done)) (by first | rfl | (simp only [go_sem]; done)) (Nat.le_of_ble_eq_true rfl) ?_
  simp (maxSteps := 1000000) only [go_sem, ha', hb', hs, sg_mul]
  exact .refl _
def iMulS : List AV → Option (Prop × AV) := onI2 fun a b => (wl a ≤ 34359738368 ∧ wl b ≤ 34359738368, (.agg [.opq (.rint (a * b)), .pad]))
theorem iMulS_ok (hP : PrgOk P) (args p r) : iMulS args = some (p, r) → p → CSpec P 45 args r := onI2_ok (fun a b h => by exact iMul_spec hP a b h.1 h.2) args p r
attribute [go_sem] iMulS

theorem iAdd_spec (hP : PrgOk P) (a b : Int) (ha : wl a ≤ 34359738368) (hb : wl b ≤ 34359738368) : CSpec P 43 [(.agg [.opq (.rint (a)), .pad]), (.agg [.opq (.rint (b)), .pad])] (.agg [.opq (.rint (a + b)), .pad]) := by
  have HE := It0_all hP T2 hP.t2
  refine CSpec.cv ?_ (.rintIn a (.rintIn b .nil))
  unfold rC
  unfold wl at ha hb
  have hs := Nat.le_trans (blen_add_le ha hb) (show _ ≤ 68719476736 by decide)
  have ha' := Nat.le_trans ha (show _ ≤ 68719476736 by decide)
  have hb' := Nat.le_trans hb (show _ ≤ 68719476736 by decide)
  refine CSpec_vc (E := ⟨T2, It0⟩) (fn43 hP) HE hP.mix rfl (by first | rfl | (simp only [go_sem]; done)) (by first | rfl | (simp only [go_sem]; done)) (Nat.le_of_ble_eq_true rfl) ?_
  by_cases h1 : a < 0
  · by_cases h2 : b < 0
    · have e : sg true (a.natAbs + b.natAbs) = a + b := by rw [sg_t]; omega
      simp (maxSteps := 1000000) only [go_sem, h1, h2, ha', hb', hs, e]
      exact .refl _
    · rcases Nat.lt_or_ge a.natAbs b.natAbs with h | h
      · have hc : decide (0 ≤ cmpI a.natAbs b.natAbs) = false := by rw [cmpI_lt h]; rfl
        have hn : a.natAbs ≤ b.natAbs := by omega
        have hd := Nat.le_trans (blen_mono (Nat.sub_le b.natAbs a.natAbs)) hb'
        have e : sg false (b.natAbs - a.natAbs) = a + b := by rw [sg_f]; omega
        simp (maxSteps := 1000000) only [go_sem, h1, h2, ha', hb', hc, hn, hd, e]
        exact .refl _
      · have hc : decide (0 ≤ cmpI a.natAbs b.natAbs) = true := cmp_ge' h
        have hd := Nat.le_trans (blen_mono (Nat.sub_le a.natAbs b.natAbs)) ha'
        have e : sg true (a.natAbs - b.natAbs) = a + b := by rw [sg_t]; omega
        simp (maxSteps := 1000000) only [go_sem, h1, h2, ha', hb', hc, h, hd, e]
        exact .refl _
  · by_cases h2 : b < 0
    · rcases Nat.lt_or_ge a.natAbs b.natAbs with h | h
      · have hc : decide (0 ≤ cmpI a.natAbs b.natAbs) = false := by rw [cmpI_lt h]; rfl
        have hn : a.natAbs ≤ b.natAbs := by omega
        have hd := Nat.le_trans (blen_mono (Nat.sub_le b.natAbs a.natAbs)) hb'
        have e : sg true (b.natAbs - a.natAbs) = a + b := by rw [sg_t]; omega
        simp (maxSteps := 1000000) only [go_sem, h1, h2, ha', hb', hc, hn, hd, e]
        exact .refl _
      · have hc : decide (0 ≤ cmpI a.natAbs b.natAbs) = true := cmp_ge' h
        have hd := Nat.le_trans (blen_mono (Nat.sub_le a.natAbs b.natAbs)) ha'
        have e : sg false (a.natAbs - b.natAbs) = a + b := by rw [sg_f]; omega
        simp (maxSteps := 1000000) only [go_sem, h1, h2, ha', hb', hc, h, hd, e]
        exact .refl _
    · have e : sg false (a.natAbs + b.natAbs) = a + b := by rw [sg_f]; omega
      simp (maxSteps := 1000000) only [go_sem, h1, h2, ha', hb', hs, e]
      exact .refl _
def iAddS : List AV → Option (Prop × AV) := onI2 fun a b => (wl a ≤ 34359738368 ∧ wl b ≤ 34359738368, (.agg [.opq (.rint (a + b)), .pad]))
theorem iAddS_ok (hP : PrgOk P) (args p r) : iAddS args = some (p, r) → p → CSpec P 43 args r := onI2_ok (fun a b h => by exact iAdd_spec hP a b h.1 h.2) args p r
attribute [go_sem] iAddS
noncomputable def It1 : Nat → List AV → Option (Prop × AV) := addS (addS (addS (addS (addS (addS It0 28 iOfS) 16 iTextS) 34 iInt64S) 46 iNegS) 45 iMulS) 43 iAddS
theorem It1_all (hP : PrgOk P) (T) (hT : TyOk P T) : EnvOk P ⟨T, It1⟩ := ((((((It0_all hP T hT).add (iOfS_ok hP)).add (iTextS_ok hP)).add (iInt64S_ok hP)).add (iNegS_ok hP)).add (iMulS_ok hP)).add (iAddS_ok hP)
attribute [go_sem] It1
end Go.Proofs.Ytokoagkbfdkacaa.AM
/- The document's whole numbers: order, quotients, texts. -/
namespace Go.Proofs.Ytokoagkbfdkacaa.AM
set_option linter.all false
set_option autoImplicit true
set_option relaxedAutoImplicit true
open Go Go.Proofs
set_option maxRecDepth 100000
set_option maxHeartbeats 8000000
set_option linter.unusedSimpArgs false
variable {P : Program}

theorem sgnZ_neg {z : Int} (h : z < 0) : sgnZ z = -1 := by unfold sgnZ; rw [if_neg (by omega), if_pos h]
theorem sgnZ_pos {z : Int} (h : 0 < z) : sgnZ z = 1 := by unfold sgnZ; rw [if_neg (by omega), if_neg (by omega)]
theorem sgnZ_zero : sgnZ 0 = 0 := rfl
theorem cmpZ_nn {a b : Int} (h1 : 0 ≤ a) (h2 : 0 ≤ b) : cmpZ a b = cmpI a.natAbs b.natAbs := by
  unfold cmpZ cmpI; repeat' split
  all_goals omega
theorem cmpZ_neg {a b : Int} (h1 : a < 0) (h2 : b < 0) : cmpZ a b = cmpI b.natAbs a.natAbs := by
  unfold cmpZ cmpI; repeat' split
  all_goals omega
theorem cmpZ_lt {a b : Int} (h : a < b) : cmpZ a b = -1 := by unfold cmpZ; rw [if_pos h]
theorem cmpZ_gt {a b : Int} (h : b < a) : cmpZ a b = 1 := by unfold cmpZ; rw [if_neg (by omega), if_pos h]
theorem cmpZ_eq (a : Int) : cmpZ a a = 0 := by unfold cmpZ; rw [if_neg (by omega), if_neg (by omega)]
theorem ri_ok (z : Int) : (decide (z < 0) = true → 0 < z.natAbs) = True := eq_true fun e => by have := of_decide_eq_true e; omega
theorem iCmp_spec (hP : PrgOk P) (a b : Int) (ha : wl a ≤ 68719476736) (hb : wl b ≤ 68719476736) : CSpec P 35 [(.agg [.opq (.rint (a)), .pad]), (.agg [.opq (.rint (b)), .pad])] (.int .i64 (cmpZ a b)) := by
  have HE := It1_all hP T2 hP.t2
  refine CSpec.cv ?_ (.rintIn a (.rintIn b .nil))
  have hra := ri_ok a
  have hrb := ri_ok b
  have hza := sg_of a
  have hzb := sg_of b
  have ha' : blen a.natAbs ≤ 68719476736 := ha
  have hb' : blen b.natAbs ≤ 68719476736 := hb
  unfold rC
  obtain ⟨ma, hma⟩ : ∃ m, decide (a < 0) = m := ⟨_, rfl⟩
  obtain ⟨mb, hmb⟩ : ∃ m, decide (b < 0) = m := ⟨_, rfl⟩
  rw [hma] at hra hza
  rw [hmb] at hrb hzb
  rw [hma, hmb]
  refine CSpec_vc (E := ⟨T2, It1⟩) (fn35 hP) HE hP.mix rfl (by first | rfl | (simp only [go_sem]; done)) (by first | rfl | (simp only [go_sem]; done)) (Nat.le_of_ble_eq_true rfl) ?_
  rcases Int.lt_trichotomy a 0 with h1 | h1 | h1
  · have sa := sgnZ_neg h1
    rcases Int.lt_trichotomy b 0 with h2 | h2 | h2
    · have sb := sgnZ_neg h2
      rw [cmpZ_neg h1 h2]
      simp (maxSteps := 1000000) only [go_sem, hra, hrb, hza, hzb, ha', hb', sa, sb]
      exact .refl _
    · have sb : sgnZ b = 0 := by rw [h2]; rfl
      rw [cmpZ_lt (by omega)]
      simp (maxSteps := 1000000) only [go_sem, hra, hrb, hza, hzb, ha', hb', sa, sb]
      exact .refl _
    · have sb := sgnZ_pos h2
      rw [cmpZ_lt (by omega)]
      simp (maxSteps := 1000000) only [go_sem, hra, hrb, hza, hzb, ha', hb', sa, sb]
      exact .refl _
  · have sa : sgnZ a = 0 := by rw [h1]; rfl
    rcases Int.lt_trichotomy b 0 with h2 | h2 | h2
    · have sb := sgnZ_neg h2
      rw [cmpZ_gt (by omega)]
      simp (maxSteps := 1000000) only [go_sem, hra, hrb, hza, hzb, ha', hb', sa, sb]
      exact .refl _
    · have sb : sgnZ b = 0 := by rw [h2]; rfl
      rw [cmpZ_nn (by omega) (by omega)]
      simp (maxSteps := 1000000) only [go_sem, hra, hrb, hza, hzb, ha', hb', sa, sb]
      exact .refl _
    · have sb := sgnZ_pos h2
      rw [cmpZ_lt (by omega)]
      simp (maxSteps := 1000000) only [go_sem, hra, hrb, hza, hzb, ha', hb', sa, sb]
      exact .refl _
  · have sa := sgnZ_pos h1
    rcases Int.lt_trichotomy b 0 with h2 | h2 | h2
    · have sb := sgnZ_neg h2
      rw [cmpZ_gt (by omega)]
      simp (maxSteps := 1000000) only [go_sem, hra, hrb, hza, hzb, ha', hb', sa, sb]
      exact .refl _
    · have sb : sgnZ b = 0 := by rw [h2]; rfl
      rw [cmpZ_gt (by omega)]
      simp (maxSteps := 1000000) only [go_sem, hra, hrb, hza, hzb, ha', hb', sa, sb]
      exact .refl _
    · have sb := sgnZ_pos h2
      rw [cmpZ_nn (by omega) (by omega)]
      simp (maxSteps := 1000000) only [go_sem, hra, hrb, hza, hzb, ha', hb', sa, sb]
      exact .refl _
def iCmpS : List AV → Option (Prop × AV) := onI2 fun a b => (wl a ≤ 68719476736 ∧ wl b ≤ 68719476736, .int .i64 (cmpZ a b))
theorem iCmpS_ok (hP : PrgOk P) (args p r) : iCmpS args = some (p, r) → p → CSpec P 35 args r := onI2_ok (fun a b h => by exact iCmp_spec hP a b h.1 h.2) args p r
attribute [go_sem] iCmpS

theorem iSub_spec (hP : PrgOk P) (a b : Int) (ha : wl a ≤ 34359738368) (hb : wl b ≤ 34359738368) : CSpec P 44 [(.agg [.opq (.rint (a)), .pad]), (.agg [.opq (.rint (b)), .pad])] (.agg [.opq (.rint (a - b)), .pad]) := by
  have HE := It1_all hP T2 hP.t2
  have hb' := Nat.le_trans hb (show _ ≤ 68719476736 by decide)
  have e : a + -b = a - b := rfl
  unfold wl at ha hb hb'
  refine CSpec_vc (E := ⟨T2, It1⟩) (fn44 hP) HE hP.mix rfl (by first | rfl | (simp only [go_sem]; done)) (by first | rfl | (simp only [go_sem]; done)) (Nat.le_of_ble_eq_true rfl) ?_
  simp (maxSteps := 1000000) only [go_sem, ha, hb, hb', wl, Int.natAbs_neg, e]
  exact .refl _
def iSubS : List AV → Option (Prop × AV) := onI2 fun a b => (wl a ≤ 34359738368 ∧ wl b ≤ 34359738368, (.agg [.opq (.rint (a - b)), .pad]))
theorem iSubS_ok (hP : PrgOk P) (args p r) : iSubS args = some (p, r) → p → CSpec P 44 args r := onI2_ok (fun a b h => by exact iSub_spec hP a b h.1 h.2) args p r
attribute [go_sem] iSubS
noncomputable def It2 : Nat → List AV → Option (Prop × AV) := addS (addS It1 35 iCmpS) 44 iSubS
theorem It2_all (hP : PrgOk P) (T) (hT : TyOk P T) : EnvOk P ⟨T, It2⟩ := ((It1_all hP T hT).add (iCmpS_ok hP)).add (iSubS_ok hP)
attribute [go_sem] It2

theorem iQuo_spec (hP : PrgOk P) (a b : Int) (ha : wl a ≤ 17179869184) (hb : wl b ≤ 17179869184) (h0 : b ≠ 0) : CSpec P 22 [(.agg [.opq (.rint (a)), .pad]), (.agg [.opq (.rint (b)), .pad])] (.tup [(.agg [.opq (.rint (qZ a b)), .pad]), (.agg [.opq (.rint ((rZ a b : Nat))), .pad])]) := by
  have HE := It2_all hP T2 hP.t2
  refine CSpec.cv ?_ (.rintIn a (.rintIn b .nil))
  unfold rC
  unfold wl at ha hb
  have ha' := Nat.le_trans ha (show _ ≤ 68719476736 by decide)
  have hb' := Nat.le_trans hb (show _ ≤ 34359738368 by decide)
  have hb'' := Nat.le_trans hb (show _ ≤ 68719476736 by decide)
  have hbz : 0 < b.natAbs := by omega
  have hq0 := blen_le_of (Nat.div_le_self a.natAbs b.natAbs) ha
  have hq := Nat.le_trans hq0 (show _ ≤ 68719476736 by decide)
  have hq' := Nat.le_trans hq0 (show _ ≤ 34359738368 by decide)
  have hm0 : blen (a.natAbs % b.natAbs) ≤ 17179869184 := blen_le_of (Nat.mod_le _ _) ha
  have hm := Nat.le_trans hm0 (show _ ≤ 68719476736 by decide)
  have hm' := Nat.le_trans hm0 (show _ ≤ 34359738368 by decide)
  have hml := Nat.mod_lt a.natAbs hbz
  have e0 : ∀ n : Nat, sg false n = (n : Int) := fun _ => rfl
  unfold qZ rZ
  refine CSpec_vc (E := ⟨T2, It2⟩) (fn22 hP) HE hP.mix rfl (by first | rfl | (simp only [go_sem]; done)) (by first | rfl | (simp only [go_sem]; done)) (Nat.le_of_ble_eq_true rfl) ?_
  by_cases h1 : a < 0
  · by_cases h2 : 0 < a.natAbs % b.natAbs
    · have h12 : (a < 0 ∧ 0 < a.natAbs % b.natAbs) = True := eq_true ⟨h1, h2⟩
      have sy : sgnZ (sg true (a.natAbs % b.natAbs)) = -1 := sgnZ_neg (by simp only [sg_t]; omega)
      have ey : sg true (a.natAbs % b.natAbs) + ((b.natAbs : Nat) : Int) = ((b.natAbs - a.natAbs % b.natAbs : Nat) : Int) := by simp only [sg_t]; omega
      have n1 : blen (Int.natAbs 1) ≤ 34359738368 := by decide
      by_cases h3 : b < 0
      · have ex : ((a.natAbs / b.natAbs : Nat) : Int) + 1 = ((a.natAbs / b.natAbs + 1 : Nat) : Int) := rfl
        simp (maxSteps := 1000000) only [go_sem, h1, h2, h3, ha', hb', hb'', hbz, hq, hq', hm, hm', e0, h12, sy, ey, ex, wl, sg_abs, n1, Int.natAbs_natCast]
        (repeat' (first | exact Conv.refl _ | refine And.intro ?_ ?_)) <;> first | omega | decide
      · have ex : sg true (a.natAbs / b.natAbs) - 1 = sg true (a.natAbs / b.natAbs + 1) := by simp only [sg_t]; omega
        simp (maxSteps := 1000000) only [go_sem, h1, h2, h3, ha', hb', hb'', hbz, hq, hq', hm, hm', e0, h12, sy, ey, ex, wl, sg_abs, n1, Int.natAbs_natCast]
        (repeat' (first | exact Conv.refl _ | refine And.intro ?_ ?_)) <;> first | omega | decide
    · have h12 : (a < 0 ∧ 0 < a.natAbs % b.natAbs) = False := eq_false fun h => h2 h.2
      have hmz : a.natAbs % b.natAbs = 0 := by omega
      have sy : sgnZ 0 = 0 := rfl
      have n0 : blen 0 ≤ 68719476736 := by decide
      have n0' : blen (Int.natAbs 0) ≤ 68719476736 := by decide
      simp (maxSteps := 1000000) only [go_sem, h1, ha', hb', hb'', hbz, hq, h12, hmz, sg_zero, sy, wl, sg_abs, n0, n0']
      exact .refl _
  · have h12 : (a < 0 ∧ 0 < a.natAbs % b.natAbs) = False := eq_false fun h => h1 h.1
    have sy : decide (sgnZ ((a.natAbs % b.natAbs : Nat) : Int) < 0) = false := by
      rcases Nat.eq_zero_or_pos (a.natAbs % b.natAbs) with h | h
      · rw [h]; rfl
      · rw [sgnZ_pos (by omega)]; rfl
    simp (maxSteps := 1000000) only [go_sem, h1, ha', hb', hb'', hbz, hq, hm, e0, h12, sy, wl, Int.natAbs_natCast]
    exact .refl _
def iQuoS : List AV → Option (Prop × AV) := onI2 fun a b => (wl a ≤ 17179869184 ∧ wl b ≤ 17179869184 ∧ b ≠ 0, .tup [(.agg [.opq (.rint (qZ a b)), .pad]), (.agg [.opq (.rint ((rZ a b : Nat))), .pad])])
theorem iQuoS_ok (hP : PrgOk P) (args p r) : iQuoS args = some (p, r) → p → CSpec P 22 args r := onI2_ok (fun a b h => by exact iQuo_spec hP a b h.1 h.2.1 h.2.2) args p r
attribute [go_sem] iQuoS

theorem iParse_spec (hP : PrgOk P) (s : ByteArray) (hs : (bl s).length ≤ 8589934592) : CSpec P 14 [.str s] (.tup [(.agg [.opq (.rint ((parW (bl s)).1)), .pad]), .int .i64 (parW (bl s)).2]) := by
  have HE := It2_all hP T2 hP.t2
  have hsz := size_bl s
  have hg := get_bl s 0
  have hx : bl (s.extract 1 (bl s).length) = (bl s).drop 1 := by
    rw [bl_extract]; exact List.take_of_length_le (by rw [List.length_drop]; omega)
  have hxs : (s.extract 1 (bl s).length).size = ((bl s).drop 1).length := by rw [size_bl, hx]
  have hxl : ((bl s).drop 1).length ≤ 8589934592 := by rw [List.length_drop]; omega
  have hxl2 : ((bl s).drop 1).length ≤ 1099511627776 := by rw [List.length_drop]; omega
  have hs2 : (bl s).length ≤ 1099511627776 := by omega
  have hcmp : ((s.extract 1 (bl s).length).toList == ByteArray.toList ⟨#[48]⟩) = decide ((bl s).drop 1 = [48]) := by
    rw [str_same, ← hx]
    exact decide_eq_decide.2 ⟨fun h => h ▸ rfl, fun h => bl_inj h⟩
  refine CSpec_vc (E := ⟨T2, It2⟩) (fn14 hP) HE hP.mix rfl (by first | rfl | (simp only [go_sem]; done)) (by first | rfl | (simp only [go_sem]; done)) (Nat.le_of_ble_eq_true rfl) ?_
  unfold parW
  obtain ⟨l, hbl⟩ : ∃ l, bl s = l := ⟨_, rfl⟩
  rw [hbl] at hs hsz hg hx hxs hxl hxl2 hs2 hcmp ⊢
  rw [List.length_drop] at hxl hxl2
  rcases (by
    by_cases h : l = []
    · left; subst h; rfl
    · cases l with
      | nil => exact absurd rfl h
      | cons c t =>
        by_cases hc : c = 45
        · right; exact ⟨by simp, by simpa using hc⟩
        · left; simpa using hc : (l.getD 0 0 == 45) = false ∨ (0 < l.length ∧ l.getD 0 0 = 45)) with hm | ⟨h0, hm'⟩
  · have hm' : ¬ l.getD 0 0 = 45 := by simpa using hm
    have dm : decide (l.getD 0 0 = 45) = false := decide_eq_false hm'
    have h1 : ¬ l = [45, 48] := fun h => hm' (by rw [h]; rfl)
    have hll : ¬ l.length < l.length := Nat.lt_irrefl _
    rw [if_neg h1, if_neg hm', dm]
    unfold prD
    by_cases h0 : 0 < l.length
    ·
      by_cases hok : okD l
      · have k1 : decide (okD l) = true := decide_eq_true hok
        have k3 : (∀ c ∈ l, 48 ≤ c ∧ c ≤ 57) = True := eq_true hok.2.2
        rw [if_pos hok]
        by_cases hl : (l).length ≤ 256
        · have k2 : ¬ 256 < (l).length := by omega
          try rw [List.length_drop] at k2
          have k4 := le_big (valL_blen hok hl) (show _ ≤ 68719476736 by decide)
          rw [if_pos hl]
          simp (maxSteps := 1000000) only [go_sem, h0, hm, hll, hbl, hsz, hg, k1, k2, k3, k4, hs, hs2]
          first
            | exact .refl _
            | exact ⟨by omega, .refl _⟩
        · have k2 : 256 < (l).length := by omega
          try rw [List.length_drop] at k2
          rw [if_neg hl, sg_zero]
          simp (maxSteps := 1000000) only [go_sem, h0, hm, hll, hbl, hsz, hg, k1, k2, hs2]
          first
            | exact .refl _
            | exact ⟨by omega, .refl _⟩
      · have k1 : decide (okD l) = false := decide_eq_false hok
        rw [if_neg hok, sg_zero]
        simp (maxSteps := 1000000) only [go_sem, h0, hm, hll, hbl, hsz, hg, k1, hs2]
        (repeat' (first | exact Conv.refl _ | refine And.intro ?_ ?_)) <;> first | omega | decide
    ·
      by_cases hok : okD l
      · have k1 : decide (okD l) = true := decide_eq_true hok
        have k3 : (∀ c ∈ l, 48 ≤ c ∧ c ≤ 57) = True := eq_true hok.2.2
        rw [if_pos hok]
        by_cases hl : (l).length ≤ 256
        · have k2 : ¬ 256 < (l).length := by omega
          try rw [List.length_drop] at k2
          have k4 := le_big (valL_blen hok hl) (show _ ≤ 68719476736 by decide)
          rw [if_pos hl]
          simp (maxSteps := 1000000) only [go_sem, h0, hm, hll, hbl, hsz, hg, k1, k2, k3, k4, hs, hs2]
          first
            | exact .refl _
            | exact ⟨by omega, .refl _⟩
        · have k2 : 256 < (l).length := by omega
          try rw [List.length_drop] at k2
          rw [if_neg hl, sg_zero]
          simp (maxSteps := 1000000) only [go_sem, h0, hm, hll, hbl, hsz, hg, k1, k2, hs2]
          first
            | exact .refl _
            | exact ⟨by omega, .refl _⟩
      · have k1 : decide (okD l) = false := decide_eq_false hok
        rw [if_neg hok, sg_zero]
        simp (maxSteps := 1000000) only [go_sem, h0, hm, hll, hbl, hsz, hg, k1, hs2]
        (repeat' (first | exact Conv.refl _ | refine And.intro ?_ ?_)) <;> first | omega | decide
  · have hm : (l.getD 0 0 == 45) = true := beq_iff_eq.2 hm'
    have dm : decide (l.getD 0 0 = 45) = true := decide_eq_true hm'
    by_cases h1 : l = [45, 48]
    · have h2 : decide (l.drop 1 = [48]) = true := decide_eq_true (by rw [h1]; rfl)
      rw [if_pos h1]
      simp (maxSteps := 1000000) only [go_sem, hbl, hsz, hg, h0, hm, hcmp, h2]
      (repeat' (first | exact Conv.refl _ | refine And.intro ?_ ?_)) <;> first | omega | decide
    · have h2 : decide (l.drop 1 = [48]) = false := decide_eq_false fun h => h1 (by
        cases l with
        | nil => simp at h0
        | cons c t =>
          have e1 : c = 45 := by simpa using hm'
          have e2 : t = [48] := by simpa using h
          rw [e1, e2])
      have hll : decide (l.length - 1 < l.length) = true := decide_eq_true (by omega)
      rw [if_neg h1, if_pos hm', dm]
      unfold prD
      by_cases hok : okD (l.drop 1)
      · have k1 : decide (okD (l.drop 1)) = true := decide_eq_true hok
        have k3 : (∀ c ∈ (l.drop 1), 48 ≤ c ∧ c ≤ 57) = True := eq_true hok.2.2
        rw [if_pos hok]
        by_cases hl : ((l.drop 1)).length ≤ 256
        · have k2 : ¬ 256 < ((l.drop 1)).length := by omega
          try rw [List.length_drop] at k2
          have k4 := le_big (valL_blen hok hl) (show _ ≤ 68719476736 by decide)
          rw [if_pos hl]
          simp (maxSteps := 1000000) only [go_sem, h0, hm, hll, hbl, hsz, hg, hcmp, h2, hx, hxs, k1, k2, k3, k4, hxl, hxl2]
          first
            | exact .refl _
            | exact ⟨by omega, .refl _⟩
        · have k2 : 256 < ((l.drop 1)).length := by omega
          try rw [List.length_drop] at k2
          rw [if_neg hl, sg_zero]
          simp (maxSteps := 1000000) only [go_sem, h0, hm, hll, hbl, hsz, hg, hcmp, h2, hx, hxs, k1, k2, hxl2]
          first
            | exact .refl _
            | exact ⟨by omega, .refl _⟩
      · have k1 : decide (okD (l.drop 1)) = false := decide_eq_false hok
        rw [if_neg hok, sg_zero]
        simp (maxSteps := 1000000) only [go_sem, h0, hm, hll, hbl, hsz, hg, hcmp, h2, hx, hxs, k1, hxl2]
        (repeat' (first | exact Conv.refl _ | refine And.intro ?_ ?_)) <;> first | omega | decide
noncomputable def iParseS : List AV → Option (Prop × AV)
  | [.str s] => some ((bl s).length ≤ 8589934592, .tup [(.agg [.opq (.rint ((parW (bl s)).1)), .pad]), .int .i64 (parW (bl s)).2])
  | _ => none
theorem iParseS_ok (hP : PrgOk P) (args p r) (h : iParseS args = some (p, r)) (hp : p) : CSpec P 14 args r := by
  unfold iParseS at h
  split at h
  · simp only [Option.some.injEq, Prod.mk.injEq] at h
    obtain ⟨rfl, rfl⟩ := h
    exact iParse_spec hP _ hp
  · simp at h
attribute [go_sem] iParseS
/-- All of layer 2, without Primitive. -/
noncomputable def Wt4 : Nat → List AV → Option (Prop × AV) := addS (addS (addS (addS (addS (addS (addS (addS (addS (addS (addS (addS Wt3 31 iMakeS) 20 iSignS) 28 iOfS) 16 iTextS) 34 iInt64S) 46 iNegS) 45 iMulS) 43 iAddS) 35 iCmpS) 44 iSubS) 22 iQuoS) 14 iParseS
theorem Wt4_all (hP : PrgOk P) (T) (hT : TyOk P T) : EnvOk P ⟨T, Wt4⟩ := ((((((((((((Wt3_all hP T hT).add (iMakeS_ok hP)).add (iSignS_ok hP)).add (iOfS_ok hP)).add (iTextS_ok hP)).add (iInt64S_ok hP)).add (iNegS_ok hP)).add (iMulS_ok hP)).add (iAddS_ok hP)).add (iCmpS_ok hP)).add (iSubS_ok hP)).add (iQuoS_ok hP)).add (iParseS_ok hP)
attribute [go_sem] Wt4
end Go.Proofs.Ytokoagkbfdkacaa.AM
/- Lists of numbers in cells. -/
namespace Go.Proofs.Ytokoagkbfdkacaa.AM
set_option linter.all false
set_option autoImplicit true
set_option relaxedAutoImplicit true
open Go Go.Proofs
theorem nq_l (q k : Nat) : (q + (k + 1) == q) = false := by simp
theorem nq_r (q k : Nat) : (q == q + (k + 1)) = false := by simp
attribute [go_sem] nq_l nq_r true_or or_true ne_eq not_false_eq_true not_true_eq_false imp_self
/-- Data of some cells each. -/
class Wd {α : Type} (f : α → List AV) (k : outParam Nat) : Prop where
  len : ∀ a, (f a).length = k
  pos : 0 < k
  head : ∀ a, AV.head (f a) = true
  ck : ∀ a, (f a).all AV.ck = true
  only : ∀ g a, onlyL g (f a) = true
  fv : ∀ m j a, (f a).map (fzV m j) = f a
  fc : ∀ m j a, ∀ x ∈ f a, fzC m j x
/-- The cells of a list. -/
def cl {α : Type} (f : α → List AV) (l : List α) : List AV := l.flatMap f
section
variable {α : Type} {f : α → List AV} {k : Nat} {l : List α} {a : α} {i : Nat}
theorem cl_nil : cl f [] = [] := rfl
theorem cl_cons : cl f (a :: l) = f a ++ cl f l := rfl
theorem cl_app (l') : cl f l ++ cl f l' = cl f (l ++ l') := by simp [cl]
theorem cl_snoc : cl f l ++ f a = cl f (l ++ [a]) := by simp [cl]
variable [h : Wd f k]
theorem cl_len : (cl f l).length = l.length * k := by
  induction l with
  | nil => simp [cl]
  | cons a l ih => rw [cl_cons, List.length_append, h.len, ih, List.length_cons, Nat.succ_mul, Nat.add_comm]
theorem cl_drop : (cl f l).drop (i * k) = cl f (l.drop i) := by
  induction i generalizing l with
  | zero => simp
  | succ i ih =>
    cases l with
    | nil => simp [cl]
    | cons a l =>
      rw [cl_cons, Nat.succ_mul, Nat.add_comm, ← List.drop_drop, ← h.len a, List.drop_left, List.drop_succ_cons, h.len a]; exact ih
theorem cl_take : (cl f l).take (i * k) = cl f (l.take i) := by
  induction i generalizing l with
  | zero => simp [cl]
  | succ i ih =>
    cases l with
    | nil => simp [cl]
    | cons a l =>
      rw [cl_cons, Nat.succ_mul, Nat.add_comm, List.take_append, h.len, List.take_of_length_le (by rw [h.len]; omega), Nat.add_sub_cancel_left, List.take_succ_cons, ih]; rfl
theorem cl_head {α : Type} {f : α → List AV} {k : Nat} {l : List α} [h : Wd f k] : AV.head (cl f l) = true := by
  cases l with
  | nil => rfl
  | cons a l =>
    have h1 := h.head a
    have h2 := h.len a
    have h3 := h.pos
    rw [cl_cons]
    cases hf : f a with
    | nil => rw [hf] at h2; simp at h2; omega
    | cons x t => rw [hf] at h1; cases x <;> first | rfl | exact h1
theorem cl_ck {α : Type} {f : α → List AV} {k : Nat} {l : List α} [h : Wd f k] : (cl f l).all AV.ck = true := by
  induction l with
  | nil => rfl
  | cons a l ih => rw [cl_cons, List.all_append, h.ck, ih]; rfl
theorem cl_only {α : Type} {f : α → List AV} {k : Nat} {l : List α} [h : Wd f k] (g) : onlyL g (cl f l) = true := by
  induction l with
  | nil => rfl
  | cons a l ih => rw [cl_cons, onlyL_append, h.only, ih]; rfl
theorem cl_fv {α : Type} {f : α → List AV} {k : Nat} {l : List α} [h : Wd f k] (m j) : (cl f l).map (fzV m j) = cl f l := by
  induction l with
  | nil => rfl
  | cons a l ih => rw [cl_cons, List.map_append, h.fv, ih]
theorem cl_fc {α : Type} {f : α → List AV} {k : Nat} {l : List α} [h : Wd f k] (m j) : (∀ x ∈ cl f l, fzC m j x) = True := eq_true fun x hx => by
  obtain ⟨a, _, hx⟩ := List.mem_flatMap.1 hx
  exact h.fc m j a x hx
theorem cl_all {α : Type} {f : α → List AV} {k : Nat} {l : List α} [h : Wd f k] {n : Nat} (hn : n = l.length * k) : (cl f l).take n = cl f l := List.take_of_length_le (by rw [cl_len]; omega)
theorem cl_repl {α : Type} {f : α → List AV} (n : Nat) (a : α) : (List.replicate n (f a)).flatten = cl f (List.replicate n a) := by
  induction n with
  | zero => rfl
  | succ n ih => rw [List.replicate_succ, List.flatten_cons, ih, List.replicate_succ, cl_cons]
theorem cl_one (hi : i < l.length) : (cl f (l.drop i)).take k = f l[i] := by
  rw [List.drop_eq_getElem_cons hi, cl_cons, ← h.len l[i], List.take_left]
theorem cl_next : (cl f (l.drop i)).drop k = cl f (l.drop (i + 1)) := by
  have := cl_drop (f := f) (l := l.drop i) (i := 1)
  rw [Nat.one_mul, List.drop_drop] at this; exact this
theorem cl_set (hi : i < l.length) : (cl f l).take (i * k) ++ f a ++ (cl f l).drop (i * k + k) = cl f (l.set i a) := by
  rw [cl_take, show i * k + k = (i + 1) * k by rw [Nat.succ_mul], cl_drop, cl_snoc, cl_app]
  congr 1
  rw [List.set_eq_take_append_cons_drop, if_pos hi]; simp
end
theorem CvL.imm {n : Nat} {cs cs' xs bs : List AV} (h : CvL cs cs') (h' : CvL xs bs) : CvL (.imm n cs :: xs) (.imm n cs' :: bs) := fun X φ w l hl => by
  generalize e : (AV.imm n cs :: xs) = t at hl
  cases hl with
  | imm0 a c h1 =>
    obtain ⟨e1, e2⟩ := List.cons.inj e
    simp only [AV.imm.injEq] at e1
    obtain ⟨rfl, rfl⟩ := e1
    obtain rfl := e2
    have h2 := h X φ w [] .nil
    have : cs' = [] := by have := h2.length; simpa using this.symm
    subst this
    exact .imm0 _ _ (h' _ _ _ _ h1)
  | imm z h1 h2 h3 h4 =>
    obtain ⟨e1, e2⟩ := List.cons.inj e
    simp only [AV.imm.injEq] at e1
    obtain ⟨rfl, rfl⟩ := e1
    obtain rfl := e2
    exact .imm z h1 h2 (h _ _ _ _ h3) (h' _ _ _ _ h4)
  | _ => cases e
theorem RL.app_inv {W φ w} {us bs : List AV} {l : List Value} (h : RL W φ w l (us ++ bs)) (hh : AV.head bs = true) : RL W φ w (l.take us.length) us ∧ RL W φ w (l.drop us.length) bs := by
  have := h.split us.length (by simp) (by simpa using hh)
  simpa using this
theorem CvL.app {a b c d : List AV} (h : CvL a b) (h' : CvL c d) (hc : AV.head c = true) : CvL (a ++ c) (b ++ d) := fun X φ w l hl => by
  obtain ⟨h1, h2⟩ := RL.app_inv hl hc
  have := (h _ _ _ _ h1).app (h' _ _ _ _ h2)
  rwa [List.take_append_drop] at this
theorem CvL.cl {α : Type} {f g : α → List AV} {k : Nat} [Wd f k] (h : ∀ a, CvL (f a) (g a)) (l : List α) : CvL (AM.cl f l) (AM.cl g l) := by
  induction l with
  | nil => exact .refl _
  | cons a l ih => rw [cl_cons, cl_cons]; exact CvL.app (h a) ih cl_head

theorem CvL.clm {α β : Type} {f : α → List AV} {g : β → List AV} {k : Nat} [Wd f k] {h : α → β} (hh : ∀ a, CvL (f a) (g (h a))) (l : List α) : CvL (AM.cl f l) (AM.cl g (l.map h)) := by
  induction l with
  | nil => exact .refl _
  | cons a l ih => rw [cl_cons, List.map_cons, cl_cons]; exact CvL.app (hh a) ih cl_head
/-- The cells of a whole number in a list. -/
def wG (z : Int) : List AV := [.opq (.whole z), .pad, .pad]
theorem fz_flat {l : List AV} (h : ∀ x ∈ l, ∀ m j, fzC m j x ∧ fzV m j x = x) : (∀ m j, l.map (fzV m j) = l) ∧ ∀ m j, ∀ x ∈ l, fzC m j x := by
  refine ⟨fun m j => ?_, fun m j x hx => (h x hx m j).1⟩
  conv => rhs; rw [← List.map_id l]
  exact List.map_congr_left fun x hx => (h x hx m j).2
theorem fz_wC (z : Int) : ∀ x ∈ wC z, ∀ m j, fzC m j x ∧ fzV m j x = x := by
  intro x hx m j
  simp only [wC, List.mem_cons, List.not_mem_nil, or_false] at hx
  rcases hx with rfl | rfl | rfl <;> cases j <;> exact ⟨trivial, rfl⟩
theorem fz_wG (z : Int) : ∀ x ∈ wG z, ∀ m j, fzC m j x ∧ fzV m j x = x := by
  intro x hx m j
  simp only [wG, List.mem_cons, List.not_mem_nil, or_false] at hx
  rcases hx with rfl | rfl | rfl <;> cases j <;> exact ⟨trivial, rfl⟩
instance : Wd wC 3 := ⟨fun _ => rfl, by decide, fun _ => rfl, fun _ => rfl, fun _ _ => rfl, fun m j z => (fz_flat (fz_wC z)).1 m j, fun m j z => (fz_flat (fz_wC z)).2 m j⟩
instance : Wd wG 3 := ⟨fun _ => rfl, by decide, fun _ => rfl, fun _ => rfl, fun _ _ => rfl, fun m j z => (fz_flat (fz_wG z)).1 m j, fun m j z => (fz_flat (fz_wG z)).2 m j⟩
theorem CvL.GC (z : Int) : CvL (wG z) (wC z) := by simpa [Pay.open, Pay.width, wC, wG] using CvL.unfold (.whole z) []
theorem CvL.CG (z : Int) : CvL (wC z) (wG z) := by simpa [Pay.open, Pay.width, wC, wG] using CvL.fold (.whole z) [] rfl
/-- Cells that are whole numbers, one way or the other. -/
def okW : List AV → Prop
  | .opq (.whole _) :: .pad :: .pad :: t => okW t
  | .bool m :: .opq (.nat a) :: .pad :: t => (m = true → 0 < a) ∧ okW t
  | [] => True
  | _ => False
def unW : List AV → List Int
  | .opq (.whole z) :: .pad :: .pad :: t => z :: unW t
  | .bool m :: .opq (.nat a) :: .pad :: t => sg m a :: unW t
  | _ => []
theorem okW_cons (z t) : okW (.opq (.whole z) :: .pad :: .pad :: t) = okW t := rfl
theorem okW_cons' (m a t) : okW (.bool m :: .opq (.nat a) :: .pad :: t) = ((m = true → 0 < a) ∧ okW t) := rfl
theorem okW_nil : okW [] = True := rfl
theorem unW_cons (z t) : unW (.opq (.whole z) :: .pad :: .pad :: t) = z :: unW t := rfl
theorem unW_cons' (m a t) : unW (.bool m :: .opq (.nat a) :: .pad :: t) = sg m a :: unW t := rfl
theorem unW_nil : unW [] = [] := rfl
theorem okW_cl (l : List Int) : okW (cl wG l) = True := by
  induction l with
  | nil => rfl
  | cons a l ih => rw [cl_cons]; exact ih
theorem unW_cl (l : List Int) : unW (cl wG l) = l := by
  induction l with
  | nil => rfl
  | cons a l ih => rw [cl_cons]; show a :: unW (cl wG l) = _; rw [ih]
theorem wC_sg {m : Bool} {a : Nat} (h : m = true → 0 < a) : wC (sg m a) = [.bool m, .opq (.nat a), .pad] := by
  unfold wC; rw [sg_abs, sg_neg]
  cases m
  · rfl
  · rw [decide_eq_true (h rfl)]; rfl
theorem okW_cv : ∀ cs : List AV, okW cs → CvL cs (cl wG (unW cs)) ∧ AV.head cs = true := by
  intro cs
  induction cs using unW.induct with
  | case1 z t ih => intro h; obtain ⟨i1, i2⟩ := ih h; exact ⟨CvL.app (a := wG z) (b := wG z) (.refl _) i1 i2, rfl⟩
  | case2 m a t ih =>
    intro h
    obtain ⟨h1, h2⟩ := h
    obtain ⟨i1, i2⟩ := ih h2
    refine ⟨?_, rfl⟩
    have := CvL.app (CvL.CG (sg m a)) i1 i2
    rw [wC_sg h1] at this
    exact this
  | case3 cs h1 h2 =>
    intro h
    have : cs = [] := by
      unfold okW at h
      split at h
      · exact absurd rfl (h1 _ _)
      · exact absurd rfl (h2 _ _ _)
      · rfl
      · exact h.elim
    subst this
    exact ⟨.refl _, rfl⟩
def rawL : AV → Option (Prop × List Int)
  | .nils => some (True, [])
  | .imm n cs => some (okW cs ∧ n = (unW cs).length, unW cs)
  | _ => none
theorem rawL_nils : rawL .nils = some (True, []) := rfl
theorem rawL_imm (n cs) : rawL (.imm n cs) = some (okW cs ∧ n = (unW cs).length, unW cs) := rfl
theorem rawL_cv {v : AV} {p l} (h : rawL v = some (p, l)) (hp : p) {xs bs} (k : CvL xs bs) : CvL (v :: xs) (.imm l.length (cl wG l) :: bs) := by
  unfold rawL at h
  split at h
  · simp only [Option.some.injEq, Prod.mk.injEq] at h
    obtain ⟨rfl, rfl⟩ := h
    exact .nilR k
  · simp only [Option.some.injEq, Prod.mk.injEq] at h
    obtain ⟨rfl, rfl⟩ := h
    rw [hp.2]
    exact .imm (okW_cv _ hp.1).1 k
  · simp at h
attribute [go_sem] okW_cons okW_cons' okW_nil unW_cons unW_cons' unW_nil okW_cl unW_cl rawL_nils rawL_imm
end Go.Proofs.Ytokoagkbfdkacaa.AM
/- Whole numbers without what divides them all. -/
namespace Go.Proofs.Ytokoagkbfdkacaa.AM
set_option linter.all false
set_option autoImplicit true
set_option relaxedAutoImplicit true
open Go Go.Proofs
set_option maxRecDepth 100000
set_option maxHeartbeats 8000000
set_option linter.unusedSimpArgs false
variable {P : Program}

/-- The greatest divisor of all. -/
def gcdL (l : List Int) : Nat := l.foldl (fun g z => Nat.gcd g z.natAbs) 0
theorem gcdL_snoc (l : List Int) (z : Int) : gcdL (l ++ [z]) = Nat.gcd (gcdL l) z.natAbs := by simp [gcdL]
theorem gcdF_blen {n : Nat} : ∀ (l : List Int) (g : Nat), blen g ≤ n → (∀ z ∈ l, wl z ≤ n) → blen (l.foldl (fun g z => Nat.gcd g z.natAbs) g) ≤ n
  | [], _, hg, _ => hg
  | z :: l, g, hg, h => gcdF_blen l _ (gcd_blen hg (h z (by simp))) fun y hy => h y (by simp [hy])
theorem gcdL_blen {n : Nat} (l : List Int) (h : ∀ z ∈ l, wl z ≤ n) : blen (gcdL l) ≤ n := gcdF_blen l 0 (Nat.le_trans (Nat.le_of_eq (show blen 0 = 0 by decide)) (Nat.zero_le _)) h
/-- Divided by it. -/
def primZ (g : Nat) (z : Int) : Int := if g = 0 then z else sg (decide (z < 0)) (z.natAbs / g)
def primL (l : List Int) : List Int := l.map (primZ (gcdL l))
theorem getI {l : List Int} {i : Nat} (h : i < l.length) : ∃ z, l[i]? = some z ∧ z ∈ l ∧ l[i] = z := ⟨l[i], List.getElem?_eq_getElem h, List.getElem_mem h, rfl⟩

theorem prim2_ic (hP : PrgOk P) {l : List Int} {i g : Nat} {z : Int} {K : Nat → AV → (Nat → AObj) → Prop} (hi : i < l.length) (hz : l[i] = z) (hzb : wl z ≤ 34359738368) (hg : blen g ≤ 34359738368)
    (k : ∀ nx m', KM [2, 0] m' (upd (upd (fun _ => .unused) 0 (.live [.imm l.length (cl wC l)])) 2 (.live [.opq (.nat (Nat.gcd g z.natAbs)), .pad])) → K nx (.tup []) m') :
    icX (ICall P) 64 [.int .i64 (i : Int), .ref 2 0, .ref 0 0] (upd (upd (fun _ => .unused) 0 (.live [.imm l.length (cl wC l)])) 2 (.live [.opq (.nat g), .pad])) (K := ⟨K⟩) := by
  have HE := Wt4_all hP T1 hP.t1
  refine icX_vc (E := ⟨T1, Wt4⟩) (fn64 hP) HE hP.mix rfl rfl (Nat.le_of_ble_eq_true rfl) 0 ?_
  have h3 : i * 3 ≤ l.length * 3 := by omega
  have hd : (cl wC l).drop (i * 3) = .bool (decide (z < 0)) :: .opq (.nat z.natAbs) :: .pad :: cl wC (l.drop (i + 1)) := by
    rw [cl_drop, List.drop_eq_getElem_cons hi, cl_cons, hz]; rfl
  have hlen : (cl wC (l.drop (i + 1))).length = (l.length - (i + 1)) * 3 := by rw [cl_len, List.length_drop]
  have hh : AV.head (cl wC (l.drop (i + 1))) = true := cl_head
  have hzb' := Nat.le_trans hzb (show _ ≤ 68719476736 by decide)
  have hg' := Nat.le_trans hg (show _ ≤ 68719476736 by decide)
  unfold wl at hzb'
  simp (maxSteps := 1000000) only [go_sem, hi, cl_len, h3, hd, hzb', hg', hlen, hh, upd_upd]
  have ho : objOnly [2, 0] (.live [.imm l.length (cl wC l)]) = true := by simp only [objOnly, onlyL, AV.only, cl_only, Bool.and_true]
  exact k _ _ (KM.p (.upd rfl rfl (.upd rfl ho .nil)))

theorem each_ic (hP : PrgOk P) {n fd : Nat} {dcs cs0 : List AV} {M : Nat → Nat → AObj} {L : List Nat} {K : Nat → AV → (Nat → AObj) → Prop} (hn : n ≤ 1099511627776)
    (h0 : ∀ i, M i 0 = .live [.imm n cs0]) (hM : ∀ i, GenM L (M i)) (hd : onlyL (fun r => L.contains r) dcs = true) (h0L : L.contains 0 = true)
    (step : ∀ i, i < n → ∀ K' : Nat → AV → (Nat → AObj) → Prop, (∀ nx m', KM L m' (M (i + 1)) → K' nx (.tup []) m') → icX (ICall P) fd (.int .i64 (i : Int) :: dcs) (M i) (K := ⟨K'⟩))
    (k : ∀ nx, K nx (.tup []) (M n)) :
    icX (ICall P) 63 [.fn fd [] dcs, .ref 0 0] (M 0) (K := ⟨K⟩) := by
  have HE := EnvOk.no hP.t1
  refine icX_vc (E := ⟨T1, noS⟩) (fn63 hP) HE hP.mix rfl rfl (Nat.le_of_ble_eq_true rfl) 0 ?_
  have h00 := h0 0
  have hdo : (AV.fn fd [] dcs).only (fun r => L.contains r) = true := by simp only [AV.only, onlyL, Bool.true_and]; exact hd
  have hro : (AV.ref 0 0).only (fun r => L.contains r) = true := by simp only [AV.only]; exact h0L
  simp (maxSteps := 1000000) only [go_sem, h00]
  refine trX_loop HE hP.mix L (fun i : Nat => ⟨upd (upd (upd (upd (fun _ => .junk) 0 (.fn fd [] dcs)) 1 (.ref 0 0)) 5 (.int .i64 (n : Int))) 6 (.int .i64 (i : Int)), M i, 13⟩)
    (fun i => i ≤ n) (fun i => n - i) 0 0 (hM 0).1 (Kept.of rfl (by repeat (first | exact KT.nil | refine KT.upd rfl (by first | rfl | exact hdo | exact hro) ?_)) (KM.gen (hM 0))) (Nat.zero_le _) 13 (by kernel_rfl) ?_
  intro i hi
  by_cases h : i < n
  · have hwi := wi_add1 i (by omega)
    simp (maxSteps := 1000000) only [go_sem, h, h0 i]
    refine step i h _ fun nx m' hm' => ?_
    simp (maxSteps := 1000000) only [go_sem, hwi]
    exact ⟨i + 1, Kept.of rfl (by repeat (first | exact KT.nil | refine KT.upd rfl (by first | rfl | exact hdo | exact hro) ?_)) hm', by omega, by omega⟩
  · obtain rfl : i = n := by omega
    simp (maxSteps := 1000000) only [go_sem, h]
    exact k _

/-- A place of the list that is made: told az it was, or anew. -/
def wX (p : Bool × Int) : List AV := if p.1 then wG p.2 else wC p.2
theorem fz_wX (p : Bool × Int) : ∀ x ∈ wX p, ∀ m j, fzC m j x ∧ fzV m j x = x := by
  obtain ⟨b, z⟩ := p
  cases b
  · exact fz_wC z
  · exact fz_wG z
instance : Wd wX 3 := ⟨fun ⟨b, _⟩ => by cases b <;> rfl, by decide, fun ⟨b, _⟩ => by cases b <;> rfl, fun ⟨b, _⟩ => by cases b <;> rfl, fun _ ⟨b, _⟩ => by cases b <;> rfl, fun m j z => (fz_flat (fz_wX z)).1 m j, fun m j z => (fz_flat (fz_wX z)).2 m j⟩
theorem CvL.XG (p : Bool × Int) : CvL (wX p) (wG p.2) := by
  obtain ⟨b, z⟩ := p
  cases b
  · exact .CG z
  · exact .refl _
def stP (g : Nat) (z : Int) : Bool × Int := if g = 0 then (false, z) else (true, primZ g z)
theorem stP_snd (g z) : (stP g z).2 = primZ g z := by unfold stP primZ; split <;> rfl
abbrev M3 (l : List Int) (g : Nat) (o : List (Bool × Int)) : Nat → AObj := upd (upd (upd (upd (fun _ => .unused) 0 (.live [.imm l.length (cl wC l)])) 2 (.live [.opq (.nat g), .pad])) 10 (.live (cl wX o))) 11 (.live [.sl 10 0 l.length 3])
theorem prim3_ic (hP : PrgOk P) {l : List Int} {i g : Nat} {z : Int} {o : List (Bool × Int)} {K : Nat → AV → (Nat → AObj) → Prop} (hi : i < l.length) (ho : o.length = l.length) (hz : l[i] = z) (hzb : wl z ≤ 34359738368) (hg : blen g ≤ 34359738368)
    (k : ∀ nx m', KM [11, 10, 2, 0] m' (M3 l g (o.set i (stP g z))) → K nx (.tup []) m') :
    icX (ICall P) 65 [.int .i64 (i : Int), .ref 0 0, .ref 11 0, .ref 2 0] (M3 l g o) (K := ⟨K⟩) := by
  have HE := Wt4_all hP T1 hP.t1
  refine icX_any 0 (icX_vc (E := ⟨T1, Wt4⟩) (fn65 hP) HE hP.mix rfl rfl (Nat.le_of_ble_eq_true rfl) 20 ?_)
  have hio : i < o.length := by omega
  have h3 : i * 3 ≤ l.length * 3 := by omega
  have h4 : i * 3 + 3 ≤ o.length * 3 := by omega
  have h5 : i * 3 + 3 ≤ l.length * 3 := by omega
  have h6 : i * 3 + 3 = (i + 1) * 3 := by omega
  have hd : (cl wC l).drop (i * 3) = .bool (decide (z < 0)) :: .opq (.nat z.natAbs) :: .pad :: cl wC (l.drop (i + 1)) := by
    rw [cl_drop, List.drop_eq_getElem_cons hi, cl_cons, hz]; rfl
  have hlen : (cl wC (l.drop (i + 1))).length = (l.length - (i + 1)) * 3 := by rw [cl_len, List.length_drop]
  have hh : AV.head (cl wC (l.drop (i + 1))) = true := cl_head
  have o1 : AV.head ((cl wX o).drop (i * 3)) = true := by rw [cl_drop]; exact cl_head
  have o2 : AV.head ((cl wX o).drop (i * 3 + 3)) = true := by rw [h6, cl_drop]; exact cl_head
  have s1 : (cl wX o).take (i * 3) ++ [.bool (decide (z < 0)), .opq (.nat z.natAbs), .pad] ++ (cl wX o).drop (i * 3 + 3) = cl wX (o.set i (false, z)) := cl_set (f := wX) (a := (false, z)) hio
  have hzb' := Nat.le_trans hzb (show _ ≤ 68719476736 by decide)
  have hg' := Nat.le_trans hg (show _ ≤ 68719476736 by decide)
  unfold wl at hzb'
  have ho0 : objOnly [11, 10, 2, 0] (.live [.imm l.length (cl wC l)]) = true := by simp only [objOnly, onlyL, AV.only, cl_only, Bool.and_true]
  have hoX : ∀ o : List (Bool × Int), objOnly [11, 10, 2, 0] (.live (cl wX o)) = true := fun o => by simp only [objOnly, cl_only]
  by_cases h0 : g = 0
  · have hs : stP g z = (false, z) := by unfold stP; rw [if_pos h0]
    rw [hs] at k
    subst h0
    have b0 : blen 0 ≤ 68719476736 := by decide
    simp (maxSteps := 1000000) only [go_sem, hi, hio, cl_len, ho, h3, h4, h5, hd, hzb', hg', hlen, hh, upd_upd, o1, o2, s1, b0]
    exact k _ _ (KM.p (.upd rfl rfl (.upd rfl (hoX _) (.upd rfl rfl (.upd rfl ho0 .nil)))))
  · have hs : stP g z = (true, primZ g z) := by unfold stP; rw [if_neg h0]
    rw [hs] at k
    have h0' : (g = 0) = False := eq_false h0
    have hq := Nat.le_trans (blen_le_of (Nat.div_le_self z.natAbs g) hzb) (show _ ≤ 68719476736 by decide)
    have hpz : sg (decide (z < 0)) (z.natAbs / g) = primZ g z := by unfold primZ; rw [if_neg h0]
    have o3 : (o.set i (false, z)).length = l.length := by rw [List.length_set, ho]
    have o4 : AV.head ((cl wX (o.set i (false, z))).drop (i * 3)) = true := by rw [cl_drop]; exact cl_head
    have o5 : AV.head ((cl wX (o.set i (false, z))).drop (i * 3 + 3)) = true := by rw [h6, cl_drop]; exact cl_head
    have s2 : (cl wX (o.set i (false, z))).take (i * 3) ++ [.opq (.whole (primZ g z)), .pad, .pad] ++ (cl wX (o.set i (false, z))).drop (i * 3 + 3) = cl wX (o.set i (true, primZ g z)) := by
      have := cl_set (f := wX) (l := o.set i (false, z)) (a := (true, primZ g z)) (i := i) (by omega)
      rw [List.set_set] at this; exact this
    simp (maxSteps := 1000000) only [go_sem, hi, hio, cl_len, ho, h3, h4, h5, hd, hzb', hg', hlen, hh, upd_upd, o1, o2, s1, h0', hq, hpz, o3, o4, o5, s2]
    exact k _ _ (KM.p (.upd rfl rfl (.upd rfl (hoX _) (.upd rfl rfl (.upd rfl ho0 .nil)))))

end Go.Proofs.Ytokoagkbfdkacaa.AM
/- Whole numbers without what divides them all (2). -/
namespace Go.Proofs.Ytokoagkbfdkacaa.AM
set_option linter.all false
set_option autoImplicit true
set_option relaxedAutoImplicit true
open Go Go.Proofs
set_option maxRecDepth 100000
set_option maxHeartbeats 8000000
set_option linter.unusedSimpArgs false
variable {P : Program}

theorem primL_len (l) : (primL l).length = l.length := by unfold primL; rw [List.length_map]
theorem wPrim_spec (hP : PrgOk P) (l : List Int) (hl : l.length ≤ 1099511627776) (hb : ∀ z ∈ l, wl z ≤ 34359738368) : CSpec P 39 [.imm l.length (cl wG l)] (.imm l.length (cl wG (primL l))) := by
  have HE := Wt4_all hP T1 hP.t1
  refine CSpec.cv ?_ (.imm (.cl .GC l) .nil)
  have hgo : groundL [.imm l.length (cl wC l)] = true := by simp only [groundL, onlyL, AV.only, cl_only, Bool.and_true]
  refine CSpec_vc (E := ⟨T1, Wt4⟩) (fn39 hP) HE hP.mix rfl hgo rfl (Nat.le_of_ble_eq_true rfl) ?_
  have hg := gcdL_blen l hb
  have ho1 : ∀ L, objOnly L (.live [.imm l.length (cl wC l)]) = true := fun L => by simp only [objOnly, onlyL, AV.only, cl_only, Bool.and_true]
  have hoX : ∀ L, ∀ o : List (Bool × Int), objOnly L (.live (cl wX o)) = true := fun L o => by simp only [objOnly, cl_only]
  simp (maxSteps := 1000000) only [go_sem]
  refine icX_any 8 (each_ic hP (M := fun i => upd (upd (fun _ => .unused) 0 (.live [.imm l.length (cl wC l)])) 2 (.live [.opq (.nat (gcdL (l.take i))), .pad])) (L := [2, 0]) hl (fun _ => rfl) (fun i => ((GenM.nil.upd rfl (ho1 _)).upd rfl rfl)) rfl rfl (fun i hi K' k' => ?_) fun nx => ?_)
  · refine prim2_ic hP hi rfl (hb _ (List.getElem_mem hi)) (gcdL_blen _ fun z hz => hb z (List.mem_of_mem_take hz)) fun nx m' hm => k' nx m' ?_
    have e : gcdL (l.take (i + 1)) = Nat.gcd (gcdL (l.take i)) l[i].natAbs := by
      rw [List.take_add_one, List.getElem?_eq_getElem hi]; exact gcdL_snoc _ _
    simp only [e]; exact hm
  have hta : l.take l.length = l := List.take_length
  have hz : (List.replicate l.length [AV.bool false, .opq (.nat 0), .pad]).flatten = cl wX (List.replicate l.length (false, 0)) := cl_repl (f := wX) l.length (false, 0)
  have hck : (cl wX (List.replicate l.length (false, (0 : Int)))).all AV.ck = true := cl_ck
  simp (maxSteps := 1000000) only [go_sem, hta, hl, hz, hck, upd_upd]
  have key : ∀ i, i ≤ l.length → ((l.take i).map (stP (gcdL l)) ++ List.replicate (l.length - i) (false, 0)).length = l.length := fun i hi => by
    rw [List.length_append, List.length_map, List.length_take, List.length_replicate]; omega
  refine icX_any 100 (each_ic hP (M := fun i => M3 l (gcdL l) ((l.take i).map (stP (gcdL l)) ++ List.replicate (l.length - i) (false, 0))) (L := [11, 10, 2, 0]) hl (fun _ => rfl) (fun i => ((((GenM.nil.upd rfl (ho1 _)).upd rfl rfl).upd rfl (hoX _ _)).upd rfl rfl)) rfl rfl (fun i hi K' k' => ?_) fun nx => ?_)
  · refine prim3_ic hP hi (key i (by omega)) rfl (hb _ (List.getElem_mem hi)) hg fun nx m' hm => k' nx m' ?_
    have e : ((l.take i).map (stP (gcdL l)) ++ List.replicate (l.length - i) (false, 0)).set i (stP (gcdL l) l[i]) = (l.take (i + 1)).map (stP (gcdL l)) ++ List.replicate (l.length - (i + 1)) (false, 0) := by
      have h1 : ((l.take i).map (stP (gcdL l))).length = i := by rw [List.length_map, List.length_take]; omega
      rw [List.set_append_right _ _ (by omega), h1, Nat.sub_self, List.take_add_one, List.getElem?_eq_getElem hi, Option.toList_some, List.map_append, List.append_assoc, show l.length - i = (l.length - (i + 1)) + 1 by omega, List.replicate_succ]
      rfl
    rw [← e]; exact hm
  simp only [hta, Nat.sub_self, List.replicate_zero, List.append_nil]
  have hlx : (cl wX (l.map (stP (gcdL l)))).length = l.length * 3 := by rw [cl_len, List.length_map]
  have htk : (cl wX (l.map (stP (gcdL l)))).take (l.length * 3) = cl wX (l.map (stP (gcdL l))) := cl_all (by rw [List.length_map])
  have hhd : AV.head (cl wX (l.map (stP (gcdL l)))) = true := cl_head
  have hdd : (cl wX (l.map (stP (gcdL l)))).drop (l.length * 3) = [] := List.drop_of_length_le (by omega)
  have hon : onlyL (fun _ => false) (cl wX (l.map (stP (gcdL l)))) = true := cl_only _
  simp (maxSteps := 1000000) only [go_sem, hlx, htk, hhd, hdd, cl_fc, cl_fv, hon, Nat.le_refl]
  have e : primL l = (l.map (stP (gcdL l))).map Prod.snd := by
    unfold primL; rw [List.map_map]; exact List.map_congr_left fun z _ => (stP_snd _ _).symm
  rw [e]; exact CvL.conv (.imm (CvL.clm .XG _) .nil)
def wPrimS : List AV → Option (Prop × AV)
  | [x] => (rawL x).map fun a => (a.1 ∧ a.2.length ≤ 1099511627776 ∧ ∀ z ∈ a.2, wl z ≤ 34359738368, .imm a.2.length (cl wG (primL a.2)))
  | _ => none
theorem wPrimS_eq (x) : wPrimS [x] = (rawL x).map fun a => (a.1 ∧ a.2.length ≤ 1099511627776 ∧ ∀ z ∈ a.2, wl z ≤ 34359738368, .imm a.2.length (cl wG (primL a.2))) := rfl
theorem wPrimS_ok (hP : PrgOk P) (args p r) (he : wPrimS args = some (p, r)) (hp : p) : CSpec P 39 args r := by
  unfold wPrimS at he
  split at he
  · simp only [Option.map_eq_some_iff, Prod.exists, Prod.mk.injEq] at he
    obtain ⟨q, l, h1, rfl, rfl⟩ := he
    exact (wPrim_spec hP l hp.2.1 hp.2.2).cv (rawL_cv h1 hp.1 .nil)
  · simp at he
attribute [go_sem] wPrimS_eq
end Go.Proofs.Ytokoagkbfdkacaa.AM
