/- math/bits.Div64. -/
import Derived.Test.YtlgimmafejbmgaaNe
namespace Go.Proofs.Ytlgimmafejbmgaa.AM
set_option linter.all false
set_option autoImplicit true
set_option relaxedAutoImplicit true
open Go Go.Proofs
set_option maxRecDepth 100000
set_option maxHeartbeats 8000000
set_option linter.unusedSimpArgs false
variable {P : Program}

theorem w3 (U u Q V R : Nat) (h : Q * V + R = U * 4294967296 + u) (hR : R < 18446744073709551616) : ∃ A1 A2 A3 : Nat, IntKind.u64.wrap ((U : Int) * 4294967296) = (A1 : Int) ∧ IntKind.u64.wrap ((A1 : Int) + (u : Int)) = (A2 : Int) ∧ IntKind.u64.wrap ((Q : Int) * (V : Int)) = (A3 : Int) ∧ IntKind.u64.wrap ((A2 : Int) - (A3 : Int)) = (R : Int) := by
  refine ⟨U * 4294967296 % 18446744073709551616, (U * 4294967296 % 18446744073709551616 + u) % 18446744073709551616, Q * V % 18446744073709551616, ?_, ?_, wu_mul Q V, ?_⟩
  · rw [IntKind.wrap_u64]; omega
  · rw [wu_add]
  · rw [IntKind.wrap_u64]; generalize Q * V = c at *; omega
theorem half_dec {Vh Vl U u q r : Nat} (hq : q * Vh + r = U) (hU : U < Vh * 4294967296 + Vl) (hu : u < 4294967296) (h : 4294967296 ≤ q ∨ 4294967296 * r + u < q * Vl) : U * 4294967296 + u < q * (Vh * 4294967296 + Vl) := by
  rcases h with h | h
  · have h1 : (U + 1) * 4294967296 ≤ (Vh * 4294967296 + Vl) * 4294967296 := Nat.mul_le_mul_right _ hU
    have h2 : 4294967296 * (Vh * 4294967296 + Vl) ≤ q * (Vh * 4294967296 + Vl) := Nat.mul_le_mul_right _ h
    rw [Nat.mul_comm 4294967296] at h2
    omega
  · rw [Nat.mul_add, ← Nat.mul_assoc, ← hq]; omega
theorem half_done {Vh Vl U u q r : Nat} (hq : q * Vh + r = U) (hl : U * 4294967296 + u < (q + 1) * (Vh * 4294967296 + Vl)) (h : q * Vl ≤ 4294967296 * r + u) : q = (U * 4294967296 + u) / (Vh * 4294967296 + Vl) := by
  refine (Nat.div_eq_of_lt_le ?_ hl).symm
  rw [Nat.mul_add, ← Nat.mul_assoc, ← hq]; omega
theorem half_done2 {Vl u q r : Nat} (hr : 4294967296 ≤ r) (hq : q ≤ 4294967296) (hVl : Vl < 4294967296) : q * Vl ≤ 4294967296 * r + u := by
  have h1 : q * Vl ≤ 4294967296 * Vl := Nat.mul_le_mul_right _ hq
  have h2 : 4294967296 * Vl ≤ 4294967296 * r := Nat.mul_le_mul_left _ (by omega)
  omega
theorem half_init {Vh Vl U u : Nat} (hVh : 2147483648 ≤ Vh) (hVl : Vl < 4294967296) (hu : u < 4294967296) (hU : U < Vh * 4294967296 + Vl) : U / Vh * Vh + U % Vh = U ∧ U % Vh < Vh ∧ U * 4294967296 + u < (U / Vh + 1) * (Vh * 4294967296 + Vl) ∧ U / Vh ≤ 4294967297 := by
  have h1 := Nat.div_add_mod U Vh
  rw [Nat.mul_comm] at h1
  have h2 : U % Vh < Vh := Nat.mod_lt _ (by omega)
  refine ⟨h1, h2, ?_, ?_⟩
  · rw [Nat.mul_add, ← Nat.mul_assoc, Nat.add_mul, Nat.one_mul]; omega
  · have : U / Vh < 4294967298 := (Nat.div_lt_iff_lt_mul (by omega)).2 (by omega)
    omega
theorem half_lt {V U u : Nat} (hU : U < V) (hu : u < 4294967296) : (U * 4294967296 + u) / V < 4294967296 := by
  rw [Nat.div_lt_iff_lt_mul (by omega)]
  have : (U + 1) * 4294967296 ≤ V * 4294967296 := Nat.mul_le_mul_right _ hU
  omega
theorem mulW (a : Nat) (h : a < 4294967296) : IntKind.u64.wrap ((a : Int) * 4294967296) = ((a * 4294967296 : Nat) : Int) := by rw [IntKind.wrap_u64]; omega
theorem succ_of {a q b : Nat} (h : a < q * b) : ∃ Q, q = Q + 1 := by
  cases q with
  | zero => simp at h
  | succ n => exact ⟨n, rfl⟩
theorem div64_aux {c R1 U u1 u0 : Nat} (h : c + R1 = U * 4294967296 + u1) : c * 4294967296 + (R1 * 4294967296 + u0) = U * 18446744073709551616 + (u1 * 4294967296 + u0) := by
  rw [← Nat.add_assoc, ← Nat.add_mul, h, Nat.add_mul, Nat.mul_assoc, Nat.add_assoc]
theorem div64_final {x y v s U u1 u0 Q1 R1 Q0 R0 V : Nat} (hv : 0 < v) (hV : V = v * 2 ^ s) (hU : U * 18446744073709551616 + (u1 * 4294967296 + u0) = (x * 18446744073709551616 + y) * 2 ^ s) (h1 : Q1 * V + R1 = U * 4294967296 + u1) (h0 : Q0 * V + R0 = R1 * 4294967296 + u0) (hR : R0 < V) : Q1 * 4294967296 + Q0 = divq x y v ∧ R0 / 2 ^ s = divr x y v := by
  have e1 : (Q1 * 4294967296 + Q0) * V + R0 = (x * 18446744073709551616 + y) * 2 ^ s := by
    rw [← hU, Nat.add_mul, Nat.add_assoc, h0, Nat.mul_right_comm]
    clear hU hR hv h0 hV
    exact div64_aux h1
  have e2 : divq x y v * V + divr x y v * 2 ^ s = (x * 18446744073709551616 + y) * 2 ^ s := by
    rw [hV, ← Nat.mul_assoc, ← Nat.add_mul, div_all]
  have h2 : divr x y v * 2 ^ s < V := by rw [hV]; exact Nat.mul_lt_mul_of_pos_right (divr_lt x y hv) (Nat.two_pow_pos s)
  have hVp : 0 < V := by omega
  have a1 : ((Q1 * 4294967296 + Q0) * V + R0) / V = Q1 * 4294967296 + Q0 := by rw [Nat.mul_comm, Nat.mul_add_div hVp, Nat.div_eq_of_lt hR, Nat.add_zero]
  have a2 : (divq x y v * V + divr x y v * 2 ^ s) / V = divq x y v := by rw [Nat.mul_comm, Nat.mul_add_div hVp, Nat.div_eq_of_lt h2, Nat.add_zero]
  rw [e1] at a1; rw [e2] at a2
  have a3 := a1.symm.trans a2
  refine ⟨a3, ?_⟩
  rw [a3] at e1
  have : R0 = divr x y v * 2 ^ s := by omega
  rw [this, Nat.mul_div_cancel _ (Nat.two_pow_pos s)]
theorem fd_pow (a k : Nat) : ((a : Int)).fdiv (2 ^ k) = ((a / 2 ^ k : Nat) : Int) := by
  rw [show (2 : Int) ^ k = ((2 ^ k : Nat) : Int) by simp, Int.fdiv_eq_ediv_of_nonneg _ (Int.natCast_nonneg _)]; exact (Int.natCast_ediv _ _).symm
theorem and_fix (a b : BitVec 64) : @HAnd.hAnd (BitVec 64) (BitVec 64) (BitVec 64) (@instHAndOfAndOp (BitVec IntKind.u64.bits) (@BitVec.instAndOp IntKind.u64.bits)) a b = a &&& b := rfl
theorem or_fix (a b : BitVec 64) : @HOr.hOr (BitVec 64) (BitVec 64) (BitVec 64) (@instHOrOfOrOp (BitVec IntKind.u64.bits) (@BitVec.instOrOp IntKind.u64.bits)) a b = a ||| b := rfl
theorem m32 : (2 : Nat) ^ min 32 64 = 4294967296 := by decide
theorem bv_nat (a : Nat) (h : a < 18446744073709551616) : (BitVec.ofInt 64 (a : Int)).toNat = a := by
  rw [BitVec.ofInt_natCast, BitVec.toNat_ofNat]; exact Nat.mod_eq_of_lt h
theorem u_nat (a : Nat) (h : a < 18446744073709551616) : IntKind.u64.wrap (a : Int) = (a : Int) := by rw [IntKind.wrap_u64]; omega
theorem and32 (a : Nat) (h : a < 18446744073709551616) : IntKind.u64.wrap (((BitVec.ofInt 64 (a : Int) &&& BitVec.ofInt 64 4294967295).toNat : Nat) : Int) = ((a % 4294967296 : Nat) : Int) := by
  rw [BitVec.toNat_and, bv_nat a h, show (BitVec.ofInt 64 4294967295).toNat = 2 ^ 32 - 1 from rfl, Nat.and_two_pow_sub_one_eq_mod]
  exact u_nat _ (by omega)
theorem or64 (a b s : Nat) (ha : a * 2 ^ s < 18446744073709551616) (hb : b < 2 ^ s) (hs : s ≤ 64) : IntKind.u64.wrap (((BitVec.ofInt 64 ((a * 2 ^ s : Nat) : Int) ||| BitVec.ofInt 64 (b : Int)).toNat : Nat) : Int) = ((a * 2 ^ s + b : Nat) : Int) := by
  have e : a * 2 ^ s ||| b = a * 2 ^ s + b := by rw [Nat.mul_comm]; exact (Nat.two_pow_add_eq_or_of_lt hb a).symm
  have h2 : (2 : Nat) ^ s ∣ 18446744073709551616 := by rw [show 18446744073709551616 = 2 ^ 64 from rfl]; exact Nat.pow_dvd_pow 2 hs
  have h3 : a * 2 ^ s + b < 18446744073709551616 := by
    obtain ⟨c, hc⟩ := h2
    rw [hc] at ha ⊢
    have : a < c := by rw [Nat.mul_comm] at ha; exact Nat.lt_of_mul_lt_mul_left ha
    have h4 : (a + 1) * 2 ^ s ≤ c * 2 ^ s := Nat.mul_le_mul_right _ this
    rw [Nat.mul_comm c] at h4
    rw [Nat.add_mul, Nat.one_mul] at h4; omega
  rw [BitVec.toNat_or, bv_nat _ ha, bv_nat b (by omega), e]
  exact u_nat _ h3
theorem low64 (V : Nat) (h : V < 18446744073709551616) : V / 4294967296 * 4294967296 + V % 4294967296 = V ∧ V / 4294967296 < 4294967296 ∧ V % 4294967296 < 4294967296 := by omega
/-- The numbers shifted. -/
theorem div64_setup {x y v : Nat} (hv0 : 0 < v) (hv : v < 18446744073709551616) (hx : x < v) (hy : y < 18446744073709551616) : ∃ s V Vh Vl xs ys U L u1 u0 : Nat, s ≤ 63 ∧ 64 - blen v = s ∧ V = v * 2 ^ s ∧ V < 18446744073709551616 ∧ V = Vh * 4294967296 + Vl ∧ 2147483648 ≤ Vh ∧ Vh < 4294967296 ∧ Vl < 4294967296 ∧ U < V ∧ u1 < 4294967296 ∧ u0 < 4294967296 ∧ L < 18446744073709551616 ∧
    U * 18446744073709551616 + (u1 * 4294967296 + u0) = (x * 18446744073709551616 + y) * 2 ^ s ∧ IntKind.u64.wrap ((v : Int) * 2 ^ s) = (V : Int) ∧ V / 4294967296 = Vh ∧ V % 4294967296 = Vl ∧ IntKind.u64.wrap ((x : Int) * 2 ^ s) = (xs : Int) ∧ y / 2 ^ (64 - s) = ys ∧
    IntKind.u64.wrap (((BitVec.ofInt 64 (xs : Int) ||| BitVec.ofInt 64 (ys : Int)).toNat : Nat) : Int) = (U : Int) ∧ IntKind.u64.wrap ((y : Int) * 2 ^ s) = (L : Int) ∧ L / 4294967296 = u1 ∧ L % 4294967296 = u0 := by
  have b1 := blen_lt v
  have b2 : blen v ≤ 64 := (blen_le_iff v 64).2 hv
  have b3 : ¬ blen v ≤ 0 := by rw [Nat.le_zero, blen_zero_iff]; omega
  have b4 : ¬ blen v ≤ blen v - 1 := by omega
  rw [blen_le_iff] at b4
  obtain ⟨s, hs⟩ : ∃ s, 64 - blen v = s := ⟨_, rfl⟩
  have hs1 : blen v = 64 - s := by omega
  rw [hs1] at b1 b4
  have hss : s ≤ 63 := by omega
  have p1 : (2 : Nat) ^ (64 - s) * 2 ^ s = 18446744073709551616 := by rw [← Nat.pow_add, show 64 - s + s = 64 by omega]
  have p2 : (2 : Nat) ^ (64 - s - 1) * 2 ^ s = 9223372036854775808 := by rw [← Nat.pow_add, show 64 - s - 1 + s = 63 by omega]
  have hpos := Nat.two_pow_pos s
  have hpos2 := Nat.two_pow_pos (64 - s)
  have hV : v * 2 ^ s < 18446744073709551616 := by rw [← p1]; exact Nat.mul_lt_mul_of_pos_right b1 hpos
  have hV2 : 9223372036854775808 ≤ v * 2 ^ s := by rw [← p2]; exact Nat.mul_le_mul_right _ (by omega)
  have hxs : x * 2 ^ s < 18446744073709551616 := Nat.lt_trans (Nat.mul_lt_mul_of_pos_right hx hpos) hV
  have hys : y / 2 ^ (64 - s) < 2 ^ s := by rw [Nat.div_lt_iff_lt_mul hpos2, Nat.mul_comm, p1]; exact hy
  have hU : x * 2 ^ s + y / 2 ^ (64 - s) < v * 2 ^ s := by
    have : (x + 1) * 2 ^ s ≤ v * 2 ^ s := Nat.mul_le_mul_right _ hx
    rw [Nat.add_mul, Nat.one_mul] at this; omega
  have hL : y * 2 ^ s % 18446744073709551616 = y % 2 ^ (64 - s) * 2 ^ s := by
    rw [← p1, Nat.mul_mod_mul_right]
  have hy2 := Nat.div_add_mod y (2 ^ (64 - s))
  have c1 := low64 (v * 2 ^ s) hV
  have c2 := low64 (y * 2 ^ s % 18446744073709551616) (Nat.mod_lt _ (by decide))
  have cast : ∀ z : Nat, (z : Int) * 2 ^ s = ((z * 2 ^ s : Nat) : Int) := fun z => by simp
  refine ⟨s, v * 2 ^ s, v * 2 ^ s / 4294967296, v * 2 ^ s % 4294967296, x * 2 ^ s, y / 2 ^ (64 - s), x * 2 ^ s + y / 2 ^ (64 - s), y * 2 ^ s % 18446744073709551616, y * 2 ^ s % 18446744073709551616 / 4294967296, y * 2 ^ s % 18446744073709551616 % 4294967296, hss, hs, rfl, hV, c1.1.symm, by omega, c1.2.1, c1.2.2, hU, c2.2.1, c2.2.2, Nat.mod_lt _ (by decide), ?_, ?_, rfl, rfl, ?_, rfl, or64 _ _ _ hxs hys (by omega), ?_, rfl, rfl⟩
  · rw [c2.1, hL, Nat.add_mul, Nat.add_mul, Nat.mul_right_comm x, Nat.add_assoc]
    congr 1
    conv => rhs; rw [← hy2]
    rw [Nat.add_mul]
    congr 1
    rw [← p1, Nat.mul_comm (2 ^ (64 - s)) (y / _), Nat.mul_assoc]
  · rw [cast]; exact u_nat _ hV
  · rw [cast]; exact u_nat _ hxs
  · rw [cast, IntKind.wrap_u64]; omega
theorem Div64_low (hP : PrgOk P) (y v : Nat) (hy : y < 18446744073709551616) (hv : v < 18446744073709551616) (h : 0 < v) : CSpec P 55 [.int .u64 0, .int .u64 (y : Int), .int .u64 (v : Int)] (.tup [.int .u64 ((y / v : Nat) : Int), .int .u64 ((y % v : Nat) : Int)]) := by
  have HE := Sb_ok hP
  refine CSpec_vc (E := ⟨T0, Sb⟩) (fn55 hP) HE hP.mix rfl (by first | rfl | (simp only [go_sem]; done)) (by first | rfl | (simp only [go_sem]; done)) (Nat.le_of_ble_eq_true rfl) ?_
  have h0 : (v == 0) = false := by simp; omega
  have h1 : ¬ v ≤ 0 := by omega
  have h2 := wu_div y v hy
  have h3 := u_mod y v
  simp (maxSteps := 1000000) only [go_sem, Nat.reduceBEq, Nat.reduceAdd, Nat.reduceLT, Nat.reduceMul, Nat.reduceSub, Nat.reduceLeDiff, Nat.reduceEqDiff, Int.reduceToNat, Nat.reduceBeqDiff, Nat.reduceBneDiff, decide_false, and_self, List.reduceReplicate, List.flatten_cons, List.flatten_nil, true_and, and_true, eq_self, decide_true, reduceIte, reduceCtorEq, List.any_toArray, Region.binds, Int.reduceBEq, Int.reduceBNe, Int.reduceLT, h0, h1, h2, h3]
  exact ⟨by omega, by omega, .refl _⟩
theorem Div64_high (hP : PrgOk P) (x y v : Nat) (hy : y < 18446744073709551616) (hv : v < 18446744073709551616) (h : x < v) (hx : 0 < x) : CSpec P 55 [.int .u64 (x : Int), .int .u64 (y : Int), .int .u64 (v : Int)] (.tup [.int .u64 ((divq x y v : Nat) : Int), .int .u64 ((divr x y v : Nat) : Int)]) := by
  have HE := Sb_ok hP
  refine CSpec_vc (E := ⟨T0, Sb⟩) (fn55 hP) HE hP.mix rfl (by first | rfl | (simp only [go_sem]; done)) (by first | rfl | (simp only [go_sem]; done)) (Nat.le_of_ble_eq_true rfl) ?_
  have h0 : (v == 0) = false := by simp; omega
  have h1 : ¬ v ≤ x := by omega
  have h2 : (x == 0) = false := by simp; omega
  obtain ⟨s, V, Vh, Vl, xs, ys, U, L, u1, u0, s1, s2, s3, s4, s5, s6, s7, s8, s9, s10, s11, s12, s13, w1, w2, w3', w4, w5, w6, w7, w8, w9⟩ := div64_setup (by omega) hv h hy
  have n1 := u_nat s (by omega)
  have n2 : min s 64 = s := by omega
  have n3 : IntKind.u64.wrap (64 - (s : Int)) = ((64 - s : Nat) : Int) := by rw [IntKind.wrap_u64]; omega
  have n4 : min (64 - s) 64 = 64 - s := by omega
  have n5 := and32 V s4
  have n6 := and32 L s12
  rw [w3'] at n5; rw [w9] at n6
  obtain ⟨i1, i2, i3, i4⟩ := half_init (U := U) (u := u1) s6 s8 s10 (by omega)
  have d1 := wu_div U Vh (by omega)
  have d2 : IntKind.u64.wrap (((U / Vh : Nat) : Int) * (Vh : Int)) = ((U / Vh * Vh : Nat) : Int) := by rw [wu_mul, Nat.mod_eq_of_lt (by omega)]
  have d3 : IntKind.u64.wrap ((U : Int) - ((U / Vh * Vh : Nat) : Int)) = ((U % Vh : Nat) : Int) := by rw [wu_sub _ _ (Nat.div_mul_le_self _ _) (Nat.lt_trans s9 s4)]; congr 1; exact Nat.sub_eq_of_eq_add (i1.symm.trans (Nat.add_comm _ _))
  simp (maxSteps := 1000000) only [go_sem, Nat.reduceBEq, Nat.reduceAdd, Nat.reduceLT, Nat.reduceMul, Nat.reduceSub, Nat.reduceLeDiff, Nat.reduceEqDiff, Int.reduceToNat, Nat.reduceBeqDiff, Nat.reduceBneDiff, decide_false, and_self, List.reduceReplicate, List.flatten_cons, List.flatten_nil, true_and, and_true, eq_self, decide_true, reduceIte, reduceCtorEq, List.any_toArray, Region.binds, Int.reduceBEq, Int.reduceBNe, Int.reduceLT, h0, h1, h2, hv, s2, n1, n2, w1, and_fix, or_fix, fd_pow, m32, w2, n5, w4, n3, n4, w5, w6, w7, w8, n6, d1, d2, d3]
  refine ⟨by omega, by omega, by omega, ?_⟩
  generalize U / Vh = q0 at *
  generalize U % Vh = r0 at *
  refine trX_loop HE hP.mix [] (fun p : Nat × Nat => ⟨upd (upd (upd (upd (upd (upd (upd (upd (upd (upd (upd (fun _ => .junk) 2 (.int .u64 (V : Int))) 6 (.int .u64 0)) 7 (.int .u64 0)) 8 (.int .u64 (s : Int))) 9 (.int .u64 (Vh : Int))) 10 (.int .u64 (Vl : Int))) 11 (.int .u64 (U : Int))) 13 (.int .u64 (u1 : Int))) 14 (.int .u64 (u0 : Int))) 15 (.int .u64 (p.1 : Int))) 16 (.int .u64 (p.2 : Int)), fun _ => .unused, 135⟩)
    (fun p => p.1 * Vh + p.2 = U ∧ p.2 < 4294967296 ∧ U * 4294967296 + u1 < (p.1 + 1) * (Vh * 4294967296 + Vl) ∧ p.1 ≤ 4294967297) (fun p => p.1) (q0, r0) 0
    (by repeat (first | exact Has.nil | refine Has.upd rfl ?_)) (Kept.of rfl (by repeat (first | exact KT.nil | refine KT.upd rfl (by first | rfl | exact hr | exact hr2 | (simp only [go_sem]; done)) ?_)) (KM.p (by repeat (first | exact KMp.nil | refine KMp.upd rfl (by first | rfl | (simp only [go_sem]; done)) ?_)))) ⟨i1, by omega, i3, i4⟩ 135 (by kernel_rfl) ?_
  rintro ⟨q, r⟩ ⟨j1, j2, j3, j4⟩
  simp only [] at j1 j2 j3 j4
  clear i1 i2 i3 i4 d1 d2 d3 w1 w2 w3' w4 w5 w6 w7 w8 w9 n1 n3 n4 n5 n6
  by_cases hg : 4294967296 ≤ q
  · have lt := half_dec (Vl := Vl) j1 (by omega) s10 (.inl hg)
    obtain ⟨Q1, hQ1⟩ : ∃ Q, q = Q + 1 := succ_of lt
    subst hQ1
    have m1 := u_nat Q1 (by omega)
    have m2 := wu_add' r Vh (by omega)
    have j1 : Q1 * Vh + (r + Vh) = U := by rw [← j1, Nat.succ_mul]; omega
    simp (maxSteps := 1000000) only [go_sem, Nat.reduceBEq, Nat.reduceAdd, Nat.reduceLT, Nat.reduceMul, Nat.reduceSub, Nat.reduceLeDiff, Nat.reduceEqDiff, Int.reduceToNat, Nat.reduceBeqDiff, Nat.reduceBneDiff, decide_false, and_self, List.reduceReplicate, List.flatten_cons, List.flatten_nil, true_and, and_true, eq_self, decide_true, reduceIte, reduceCtorEq, List.any_toArray, Region.binds, Int.reduceBEq, Int.reduceBNe, Int.reduceLT, hg, m1, m2]
    refine if_split (fun hb => ?_) (fun hb => ?_)
    · have hQ0 := half_done j1 lt (half_done2 (of_decide_eq_true hb) (by omega) s8)
      clear j1 j2 j3 j4 m1 m2 hb hg lt
      obtain ⟨R1, k1, k2⟩ : ∃ R1, Q1 * V + R1 = U * 4294967296 + u1 ∧ R1 < V := ⟨(U * 4294967296 + u1) % V, by rw [hQ0, ← s5, Nat.mul_comm]; exact Nat.div_add_mod _ _, Nat.mod_lt _ (by omega)⟩
      have hQW := half_lt s9 s10
      rw [s5, ← hQ0] at hQW
      obtain ⟨A1, A2, A3, a1, a2, a3, a4⟩ := w3 U u1 Q1 V R1 k1 (by omega)
      obtain ⟨i1, i2, i3, i4⟩ := half_init (U := R1) (u := u0) s6 s8 s11 (by omega)
      have d1 := wu_div R1 Vh (by omega)
      have d2 : IntKind.u64.wrap (((R1 / Vh : Nat) : Int) * (Vh : Int)) = ((R1 / Vh * Vh : Nat) : Int) := by rw [wu_mul, Nat.mod_eq_of_lt (by omega)]
      have d3 : IntKind.u64.wrap ((R1 : Int) - ((R1 / Vh * Vh : Nat) : Int)) = ((R1 % Vh : Nat) : Int) := by rw [wu_sub _ _ (Nat.div_mul_le_self _ _) (Nat.lt_trans k2 s4)]; congr 1; exact Nat.sub_eq_of_eq_add (i1.symm.trans (Nat.add_comm _ _))
      simp (maxSteps := 1000000) only [go_sem, Nat.reduceBEq, Nat.reduceAdd, Nat.reduceLT, Nat.reduceMul, Nat.reduceSub, Nat.reduceLeDiff, Nat.reduceEqDiff, Int.reduceToNat, Nat.reduceBeqDiff, Nat.reduceBneDiff, decide_false, and_self, List.reduceReplicate, List.flatten_cons, List.flatten_nil, true_and, and_true, eq_self, decide_true, reduceIte, reduceCtorEq, List.any_toArray, Region.binds, Int.reduceBEq, Int.reduceBNe, Int.reduceLT, a1, a2, a3, a4, d1, d2, d3]
      refine ⟨by omega, ?_⟩
      generalize R1 / Vh = q0 at *
      generalize R1 % Vh = r0 at *
      clear d1 d2 d3
      refine trX_loop HE hP.mix [] (fun p : Nat × Nat => ⟨upd (upd (upd (upd (upd (upd (upd (upd (upd (upd (upd (fun _ => .junk) 2 (.int .u64 (V : Int))) 6 (.int .u64 0)) 7 (.int .u64 0)) 8 (.int .u64 (s : Int))) 9 (.int .u64 (Vh : Int))) 10 (.int .u64 (Vl : Int))) 17 (.int .u64 (R1 : Int))) 15 (.int .u64 (Q1 : Int))) 14 (.int .u64 (u0 : Int))) 18 (.int .u64 (p.1 : Int))) 16 (.int .u64 (p.2 : Int)), fun _ => .unused, 135⟩)
        (fun p => p.1 * Vh + p.2 = R1 ∧ p.2 < 4294967296 ∧ R1 * 4294967296 + u0 < (p.1 + 1) * (Vh * 4294967296 + Vl) ∧ p.1 ≤ 4294967297) (fun p => p.1) (q0, r0) 0
        (by repeat (first | exact Has.nil | refine Has.upd rfl ?_)) (Kept.of rfl (by repeat (first | exact KT.nil | refine KT.upd rfl (by first | rfl | exact hr | exact hr2 | (simp only [go_sem]; done)) ?_)) (KM.p (by repeat (first | exact KMp.nil | refine KMp.upd rfl (by first | rfl | (simp only [go_sem]; done)) ?_)))) ⟨i1, by omega, i3, i4⟩ 135 (by kernel_rfl) ?_
      clear i1 i2 i3 i4
      rintro ⟨q', r'⟩ ⟨g1, g2, g3, g4⟩
      simp only [] at g1 g2 g3 g4
      by_cases hg' : 4294967296 ≤ q'
      · have lt' := half_dec (Vl := Vl) g1 (by omega) s11 (.inl hg')
        obtain ⟨Q2, hQ2⟩ : ∃ Q, q' = Q + 1 := succ_of lt'
        subst hQ2
        have m1 := u_nat Q2 (by omega)
        have m2 := wu_add' r' Vh (by omega)
        have g1 : Q2 * Vh + (r' + Vh) = R1 := by rw [← g1, Nat.succ_mul]; omega
        simp (maxSteps := 1000000) only [go_sem, Nat.reduceBEq, Nat.reduceAdd, Nat.reduceLT, Nat.reduceMul, Nat.reduceSub, Nat.reduceLeDiff, Nat.reduceEqDiff, Int.reduceToNat, Nat.reduceBeqDiff, Nat.reduceBneDiff, decide_false, and_self, List.reduceReplicate, List.flatten_cons, List.flatten_nil, true_and, and_true, eq_self, decide_true, reduceIte, reduceCtorEq, List.any_toArray, Region.binds, Int.reduceBEq, Int.reduceBNe, Int.reduceLT, hg', m1, m2]
        refine if_split (fun hb => ?_) (fun hb => ?_)
        · have hQ0 := half_done g1 lt' (half_done2 (of_decide_eq_true hb) (by omega) s8)
          obtain ⟨R0, k3, k4⟩ : ∃ R0, Q2 * V + R0 = R1 * 4294967296 + u0 ∧ R0 < V := ⟨(R1 * 4294967296 + u0) % V, by rw [hQ0, ← s5, Nat.mul_comm]; exact Nat.div_add_mod _ _, Nat.mod_lt _ (by omega)⟩
          obtain ⟨B1, B2, B3, b1, b2, b3, b4⟩ := w3 R1 u0 Q2 V R0 k3 (by omega)
          obtain ⟨z1, z2⟩ := div64_final (by omega) s3 s13 k1 k3 k4
          have z3 := divq_lt h hy
          have y1 := mulW Q1 (by omega)
          have y2 : IntKind.u64.wrap (((Q1 * 4294967296 : Nat) : Int) + (Q2 : Int)) = ((divq x y v : Nat) : Int) := by rw [wu_add' _ _ (by rw [z1]; exact z3), z1]
          simp (maxSteps := 1000000) only [go_sem, Nat.reduceBEq, Nat.reduceAdd, Nat.reduceLT, Nat.reduceMul, Nat.reduceSub, Nat.reduceLeDiff, Nat.reduceEqDiff, Int.reduceToNat, Nat.reduceBeqDiff, Nat.reduceBneDiff, decide_false, and_self, List.reduceReplicate, List.flatten_cons, List.flatten_nil, true_and, and_true, eq_self, decide_true, reduceIte, reduceCtorEq, List.any_toArray, Region.binds, Int.reduceBEq, Int.reduceBNe, Int.reduceLT, b1, b2, b3, b4, y1, y2, n2, fd_pow, z2]
          exact .refl _
        · have hb := of_decide_eq_false hb
          simp (maxSteps := 1000000) only [go_sem, Nat.reduceBEq, Nat.reduceAdd, Nat.reduceLT, Nat.reduceMul, Nat.reduceSub, Nat.reduceLeDiff, Nat.reduceEqDiff, Int.reduceToNat, Nat.reduceBeqDiff, Nat.reduceBneDiff, decide_false, and_self, List.reduceReplicate, List.flatten_cons, List.flatten_nil, true_and, and_true, eq_self, decide_true, reduceIte, reduceCtorEq, List.any_toArray, Region.binds, Int.reduceBEq, Int.reduceBNe, Int.reduceLT]
          exact ⟨(Q2, r' + Vh), Kept.of rfl (by repeat (first | exact KT.nil | refine KT.upd rfl (by first | rfl | exact hr | exact hr2 | (simp only [go_sem]; done)) ?_)) (KM.p (by repeat (first | exact KMp.nil | refine KMp.upd rfl (by first | rfl | (simp only [go_sem]; done)) ?_))), ⟨g1, by simp only []; omega, lt', by simp only []; omega⟩, by simp only []; omega⟩
      · have e1 : IntKind.u64.wrap ((q' : Int) * (Vl : Int)) = ((q' * Vl : Nat) : Int) := by
          rw [wu_mul, Nat.mod_eq_of_lt]
          have := Nat.mul_le_mul (show q' ≤ 4294967295 by omega) (show Vl ≤ 4294967295 by omega)
          omega
        have e2 : IntKind.u64.wrap (4294967296 * (r' : Int)) = ((4294967296 * r' : Nat) : Int) := by rw [IntKind.wrap_u64]; omega
        have e3 := wu_add' (4294967296 * r') u0 (by omega)
        simp (maxSteps := 1000000) only [go_sem, Nat.reduceBEq, Nat.reduceAdd, Nat.reduceLT, Nat.reduceMul, Nat.reduceSub, Nat.reduceLeDiff, Nat.reduceEqDiff, Int.reduceToNat, Nat.reduceBeqDiff, Nat.reduceBneDiff, decide_false, and_self, List.reduceReplicate, List.flatten_cons, List.flatten_nil, true_and, and_true, eq_self, decide_true, reduceIte, reduceCtorEq, List.any_toArray, Region.binds, Int.reduceBEq, Int.reduceBNe, Int.reduceLT, hg', e1, e2, e3]
        refine if_split (fun hc => ?_) (fun hc => ?_)
        · have lt' := half_dec (Vl := Vl) g1 (by omega) s11 (.inr (of_decide_eq_true hc))
          obtain ⟨Q2, hQ2⟩ : ∃ Q, q' = Q + 1 := succ_of lt'
          subst hQ2
          have m1 := u_nat Q2 (by omega)
          have m2 := wu_add' r' Vh (by omega)
          have g1 : Q2 * Vh + (r' + Vh) = R1 := by rw [← g1, Nat.succ_mul]; omega
          simp (maxSteps := 1000000) only [go_sem, Nat.reduceBEq, Nat.reduceAdd, Nat.reduceLT, Nat.reduceMul, Nat.reduceSub, Nat.reduceLeDiff, Nat.reduceEqDiff, Int.reduceToNat, Nat.reduceBeqDiff, Nat.reduceBneDiff, decide_false, and_self, List.reduceReplicate, List.flatten_cons, List.flatten_nil, true_and, and_true, eq_self, decide_true, reduceIte, reduceCtorEq, List.any_toArray, Region.binds, Int.reduceBEq, Int.reduceBNe, Int.reduceLT, hg', m1, m2]
          refine if_split (fun hb => ?_) (fun hb => ?_)
          · have hQ0 := half_done g1 lt' (half_done2 (of_decide_eq_true hb) (by omega) s8)
            obtain ⟨R0, k3, k4⟩ : ∃ R0, Q2 * V + R0 = R1 * 4294967296 + u0 ∧ R0 < V := ⟨(R1 * 4294967296 + u0) % V, by rw [hQ0, ← s5, Nat.mul_comm]; exact Nat.div_add_mod _ _, Nat.mod_lt _ (by omega)⟩
            obtain ⟨B1, B2, B3, b1, b2, b3, b4⟩ := w3 R1 u0 Q2 V R0 k3 (by omega)
            obtain ⟨z1, z2⟩ := div64_final (by omega) s3 s13 k1 k3 k4
            have z3 := divq_lt h hy
            have y1 := mulW Q1 (by omega)
            have y2 : IntKind.u64.wrap (((Q1 * 4294967296 : Nat) : Int) + (Q2 : Int)) = ((divq x y v : Nat) : Int) := by rw [wu_add' _ _ (by rw [z1]; exact z3), z1]
            simp (maxSteps := 1000000) only [go_sem, Nat.reduceBEq, Nat.reduceAdd, Nat.reduceLT, Nat.reduceMul, Nat.reduceSub, Nat.reduceLeDiff, Nat.reduceEqDiff, Int.reduceToNat, Nat.reduceBeqDiff, Nat.reduceBneDiff, decide_false, and_self, List.reduceReplicate, List.flatten_cons, List.flatten_nil, true_and, and_true, eq_self, decide_true, reduceIte, reduceCtorEq, List.any_toArray, Region.binds, Int.reduceBEq, Int.reduceBNe, Int.reduceLT, b1, b2, b3, b4, y1, y2, n2, fd_pow, z2]
            exact .refl _
          · have hb := of_decide_eq_false hb
            simp (maxSteps := 1000000) only [go_sem, Nat.reduceBEq, Nat.reduceAdd, Nat.reduceLT, Nat.reduceMul, Nat.reduceSub, Nat.reduceLeDiff, Nat.reduceEqDiff, Int.reduceToNat, Nat.reduceBeqDiff, Nat.reduceBneDiff, decide_false, and_self, List.reduceReplicate, List.flatten_cons, List.flatten_nil, true_and, and_true, eq_self, decide_true, reduceIte, reduceCtorEq, List.any_toArray, Region.binds, Int.reduceBEq, Int.reduceBNe, Int.reduceLT]
            exact ⟨(Q2, r' + Vh), Kept.of rfl (by repeat (first | exact KT.nil | refine KT.upd rfl (by first | rfl | exact hr | exact hr2 | (simp only [go_sem]; done)) ?_)) (KM.p (by repeat (first | exact KMp.nil | refine KMp.upd rfl (by first | rfl | (simp only [go_sem]; done)) ?_))), ⟨g1, by simp only []; omega, lt', by simp only []; omega⟩, by simp only []; omega⟩
        · have hQ0 := half_done g1 g3 (Nat.le_of_not_lt (of_decide_eq_false hc))
          obtain ⟨R0, k3, k4⟩ : ∃ R0, q' * V + R0 = R1 * 4294967296 + u0 ∧ R0 < V := ⟨(R1 * 4294967296 + u0) % V, by rw [hQ0, ← s5, Nat.mul_comm]; exact Nat.div_add_mod _ _, Nat.mod_lt _ (by omega)⟩
          obtain ⟨B1, B2, B3, b1, b2, b3, b4⟩ := w3 R1 u0 q' V R0 k3 (by omega)
          obtain ⟨z1, z2⟩ := div64_final (by omega) s3 s13 k1 k3 k4
          have z3 := divq_lt h hy
          have y1 := mulW Q1 (by omega)
          have y2 : IntKind.u64.wrap (((Q1 * 4294967296 : Nat) : Int) + (q' : Int)) = ((divq x y v : Nat) : Int) := by rw [wu_add' _ _ (by rw [z1]; exact z3), z1]
          simp (maxSteps := 1000000) only [go_sem, Nat.reduceBEq, Nat.reduceAdd, Nat.reduceLT, Nat.reduceMul, Nat.reduceSub, Nat.reduceLeDiff, Nat.reduceEqDiff, Int.reduceToNat, Nat.reduceBeqDiff, Nat.reduceBneDiff, decide_false, and_self, List.reduceReplicate, List.flatten_cons, List.flatten_nil, true_and, and_true, eq_self, decide_true, reduceIte, reduceCtorEq, List.any_toArray, Region.binds, Int.reduceBEq, Int.reduceBNe, Int.reduceLT, b1, b2, b3, b4, y1, y2, n2, fd_pow, z2]
          exact .refl _
    · have hb := of_decide_eq_false hb
      simp (maxSteps := 1000000) only [go_sem, Nat.reduceBEq, Nat.reduceAdd, Nat.reduceLT, Nat.reduceMul, Nat.reduceSub, Nat.reduceLeDiff, Nat.reduceEqDiff, Int.reduceToNat, Nat.reduceBeqDiff, Nat.reduceBneDiff, decide_false, and_self, List.reduceReplicate, List.flatten_cons, List.flatten_nil, true_and, and_true, eq_self, decide_true, reduceIte, reduceCtorEq, List.any_toArray, Region.binds, Int.reduceBEq, Int.reduceBNe, Int.reduceLT]
      exact ⟨(Q1, r + Vh), Kept.of rfl (by repeat (first | exact KT.nil | refine KT.upd rfl (by first | rfl | exact hr | exact hr2 | (simp only [go_sem]; done)) ?_)) (KM.p (by repeat (first | exact KMp.nil | refine KMp.upd rfl (by first | rfl | (simp only [go_sem]; done)) ?_))), ⟨j1, by simp only []; omega, lt, by simp only []; omega⟩, by simp only []; omega⟩
  · have e1 : IntKind.u64.wrap ((q : Int) * (Vl : Int)) = ((q * Vl : Nat) : Int) := by
      rw [wu_mul, Nat.mod_eq_of_lt]
      have := Nat.mul_le_mul (show q ≤ 4294967295 by omega) (show Vl ≤ 4294967295 by omega)
      omega
    have e2 : IntKind.u64.wrap (4294967296 * (r : Int)) = ((4294967296 * r : Nat) : Int) := by rw [IntKind.wrap_u64]; omega
    have e3 := wu_add' (4294967296 * r) u1 (by omega)
    simp (maxSteps := 1000000) only [go_sem, Nat.reduceBEq, Nat.reduceAdd, Nat.reduceLT, Nat.reduceMul, Nat.reduceSub, Nat.reduceLeDiff, Nat.reduceEqDiff, Int.reduceToNat, Nat.reduceBeqDiff, Nat.reduceBneDiff, decide_false, and_self, List.reduceReplicate, List.flatten_cons, List.flatten_nil, true_and, and_true, eq_self, decide_true, reduceIte, reduceCtorEq, List.any_toArray, Region.binds, Int.reduceBEq, Int.reduceBNe, Int.reduceLT, hg, e1, e2, e3]
    refine if_split (fun hc => ?_) (fun hc => ?_)
    · have lt := half_dec (Vl := Vl) j1 (by omega) s10 (.inr (of_decide_eq_true hc))
      clear e1 e2 e3 hc
      obtain ⟨Q1, hQ1⟩ : ∃ Q, q = Q + 1 := succ_of lt
      subst hQ1
      have m1 := u_nat Q1 (by omega)
      have m2 := wu_add' r Vh (by omega)
      have j1 : Q1 * Vh + (r + Vh) = U := by rw [← j1, Nat.succ_mul]; omega
      simp (maxSteps := 1000000) only [go_sem, Nat.reduceBEq, Nat.reduceAdd, Nat.reduceLT, Nat.reduceMul, Nat.reduceSub, Nat.reduceLeDiff, Nat.reduceEqDiff, Int.reduceToNat, Nat.reduceBeqDiff, Nat.reduceBneDiff, decide_false, and_self, List.reduceReplicate, List.flatten_cons, List.flatten_nil, true_and, and_true, eq_self, decide_true, reduceIte, reduceCtorEq, List.any_toArray, Region.binds, Int.reduceBEq, Int.reduceBNe, Int.reduceLT, hg, m1, m2]
      refine if_split (fun hb => ?_) (fun hb => ?_)
      · have hQ0 := half_done j1 lt (half_done2 (of_decide_eq_true hb) (by omega) s8)
        clear j1 j2 j3 j4 m1 m2 hb hg lt
        obtain ⟨R1, k1, k2⟩ : ∃ R1, Q1 * V + R1 = U * 4294967296 + u1 ∧ R1 < V := ⟨(U * 4294967296 + u1) % V, by rw [hQ0, ← s5, Nat.mul_comm]; exact Nat.div_add_mod _ _, Nat.mod_lt _ (by omega)⟩
        have hQW := half_lt s9 s10
        rw [s5, ← hQ0] at hQW
        obtain ⟨A1, A2, A3, a1, a2, a3, a4⟩ := w3 U u1 Q1 V R1 k1 (by omega)
        obtain ⟨i1, i2, i3, i4⟩ := half_init (U := R1) (u := u0) s6 s8 s11 (by omega)
        have d1 := wu_div R1 Vh (by omega)
        have d2 : IntKind.u64.wrap (((R1 / Vh : Nat) : Int) * (Vh : Int)) = ((R1 / Vh * Vh : Nat) : Int) := by rw [wu_mul, Nat.mod_eq_of_lt (by omega)]
        have d3 : IntKind.u64.wrap ((R1 : Int) - ((R1 / Vh * Vh : Nat) : Int)) = ((R1 % Vh : Nat) : Int) := by rw [wu_sub _ _ (Nat.div_mul_le_self _ _) (Nat.lt_trans k2 s4)]; congr 1; exact Nat.sub_eq_of_eq_add (i1.symm.trans (Nat.add_comm _ _))
        simp (maxSteps := 1000000) only [go_sem, Nat.reduceBEq, Nat.reduceAdd, Nat.reduceLT, Nat.reduceMul, Nat.reduceSub, Nat.reduceLeDiff, Nat.reduceEqDiff, Int.reduceToNat, Nat.reduceBeqDiff, Nat.reduceBneDiff, decide_false, and_self, List.reduceReplicate, List.flatten_cons, List.flatten_nil, true_and, and_true, eq_self, decide_true, reduceIte, reduceCtorEq, List.any_toArray, Region.binds, Int.reduceBEq, Int.reduceBNe, Int.reduceLT, a1, a2, a3, a4, d1, d2, d3]
        refine ⟨by omega, ?_⟩
        generalize R1 / Vh = q0 at *
        generalize R1 % Vh = r0 at *
        clear d1 d2 d3
        refine trX_loop HE hP.mix [] (fun p : Nat × Nat => ⟨upd (upd (upd (upd (upd (upd (upd (upd (upd (upd (upd (fun _ => .junk) 2 (.int .u64 (V : Int))) 6 (.int .u64 0)) 7 (.int .u64 0)) 8 (.int .u64 (s : Int))) 9 (.int .u64 (Vh : Int))) 10 (.int .u64 (Vl : Int))) 17 (.int .u64 (R1 : Int))) 15 (.int .u64 (Q1 : Int))) 14 (.int .u64 (u0 : Int))) 18 (.int .u64 (p.1 : Int))) 16 (.int .u64 (p.2 : Int)), fun _ => .unused, 135⟩)
          (fun p => p.1 * Vh + p.2 = R1 ∧ p.2 < 4294967296 ∧ R1 * 4294967296 + u0 < (p.1 + 1) * (Vh * 4294967296 + Vl) ∧ p.1 ≤ 4294967297) (fun p => p.1) (q0, r0) 0
          (by repeat (first | exact Has.nil | refine Has.upd rfl ?_)) (Kept.of rfl (by repeat (first | exact KT.nil | refine KT.upd rfl (by first | rfl | exact hr | exact hr2 | (simp only [go_sem]; done)) ?_)) (KM.p (by repeat (first | exact KMp.nil | refine KMp.upd rfl (by first | rfl | (simp only [go_sem]; done)) ?_)))) ⟨i1, by omega, i3, i4⟩ 135 (by kernel_rfl) ?_
        clear i1 i2 i3 i4
        rintro ⟨q', r'⟩ ⟨g1, g2, g3, g4⟩
        simp only [] at g1 g2 g3 g4
        by_cases hg' : 4294967296 ≤ q'
        · have lt' := half_dec (Vl := Vl) g1 (by omega) s11 (.inl hg')
          obtain ⟨Q2, hQ2⟩ : ∃ Q, q' = Q + 1 := succ_of lt'
          subst hQ2
          have m1 := u_nat Q2 (by omega)
          have m2 := wu_add' r' Vh (by omega)
          have g1 : Q2 * Vh + (r' + Vh) = R1 := by rw [← g1, Nat.succ_mul]; omega
          simp (maxSteps := 1000000) only [go_sem, Nat.reduceBEq, Nat.reduceAdd, Nat.reduceLT, Nat.reduceMul, Nat.reduceSub, Nat.reduceLeDiff, Nat.reduceEqDiff, Int.reduceToNat, Nat.reduceBeqDiff, Nat.reduceBneDiff, decide_false, and_self, List.reduceReplicate, List.flatten_cons, List.flatten_nil, true_and, and_true, eq_self, decide_true, reduceIte, reduceCtorEq, List.any_toArray, Region.binds, Int.reduceBEq, Int.reduceBNe, Int.reduceLT, hg', m1, m2]
          refine if_split (fun hb => ?_) (fun hb => ?_)
          · have hQ0 := half_done g1 lt' (half_done2 (of_decide_eq_true hb) (by omega) s8)
            obtain ⟨R0, k3, k4⟩ : ∃ R0, Q2 * V + R0 = R1 * 4294967296 + u0 ∧ R0 < V := ⟨(R1 * 4294967296 + u0) % V, by rw [hQ0, ← s5, Nat.mul_comm]; exact Nat.div_add_mod _ _, Nat.mod_lt _ (by omega)⟩
            obtain ⟨B1, B2, B3, b1, b2, b3, b4⟩ := w3 R1 u0 Q2 V R0 k3 (by omega)
            obtain ⟨z1, z2⟩ := div64_final (by omega) s3 s13 k1 k3 k4
            have z3 := divq_lt h hy
            have y1 := mulW Q1 (by omega)
            have y2 : IntKind.u64.wrap (((Q1 * 4294967296 : Nat) : Int) + (Q2 : Int)) = ((divq x y v : Nat) : Int) := by rw [wu_add' _ _ (by rw [z1]; exact z3), z1]
            simp (maxSteps := 1000000) only [go_sem, Nat.reduceBEq, Nat.reduceAdd, Nat.reduceLT, Nat.reduceMul, Nat.reduceSub, Nat.reduceLeDiff, Nat.reduceEqDiff, Int.reduceToNat, Nat.reduceBeqDiff, Nat.reduceBneDiff, decide_false, and_self, List.reduceReplicate, List.flatten_cons, List.flatten_nil, true_and, and_true, eq_self, decide_true, reduceIte, reduceCtorEq, List.any_toArray, Region.binds, Int.reduceBEq, Int.reduceBNe, Int.reduceLT, b1, b2, b3, b4, y1, y2, n2, fd_pow, z2]
            exact .refl _
          · have hb := of_decide_eq_false hb
            simp (maxSteps := 1000000) only [go_sem, Nat.reduceBEq, Nat.reduceAdd, Nat.reduceLT, Nat.reduceMul, Nat.reduceSub, Nat.reduceLeDiff, Nat.reduceEqDiff, Int.reduceToNat, Nat.reduceBeqDiff, Nat.reduceBneDiff, decide_false, and_self, List.reduceReplicate, List.flatten_cons, List.flatten_nil, true_and, and_true, eq_self, decide_true, reduceIte, reduceCtorEq, List.any_toArray, Region.binds, Int.reduceBEq, Int.reduceBNe, Int.reduceLT]
            exact ⟨(Q2, r' + Vh), Kept.of rfl (by repeat (first | exact KT.nil | refine KT.upd rfl (by first | rfl | exact hr | exact hr2 | (simp only [go_sem]; done)) ?_)) (KM.p (by repeat (first | exact KMp.nil | refine KMp.upd rfl (by first | rfl | (simp only [go_sem]; done)) ?_))), ⟨g1, by simp only []; omega, lt', by simp only []; omega⟩, by simp only []; omega⟩
        · have e1 : IntKind.u64.wrap ((q' : Int) * (Vl : Int)) = ((q' * Vl : Nat) : Int) := by
            rw [wu_mul, Nat.mod_eq_of_lt]
            have := Nat.mul_le_mul (show q' ≤ 4294967295 by omega) (show Vl ≤ 4294967295 by omega)
            omega
          have e2 : IntKind.u64.wrap (4294967296 * (r' : Int)) = ((4294967296 * r' : Nat) : Int) := by rw [IntKind.wrap_u64]; omega
          have e3 := wu_add' (4294967296 * r') u0 (by omega)
          simp (maxSteps := 1000000) only [go_sem, Nat.reduceBEq, Nat.reduceAdd, Nat.reduceLT, Nat.reduceMul, Nat.reduceSub, Nat.reduceLeDiff, Nat.reduceEqDiff, Int.reduceToNat, Nat.reduceBeqDiff, Nat.reduceBneDiff, decide_false, and_self, List.reduceReplicate, List.flatten_cons, List.flatten_nil, true_and, and_true, eq_self, decide_true, reduceIte, reduceCtorEq, List.any_toArray, Region.binds, Int.reduceBEq, Int.reduceBNe, Int.reduceLT, hg', e1, e2, e3]
          refine if_split (fun hc => ?_) (fun hc => ?_)
          · have lt' := half_dec (Vl := Vl) g1 (by omega) s11 (.inr (of_decide_eq_true hc))
            obtain ⟨Q2, hQ2⟩ : ∃ Q, q' = Q + 1 := succ_of lt'
            subst hQ2
            have m1 := u_nat Q2 (by omega)
            have m2 := wu_add' r' Vh (by omega)
            have g1 : Q2 * Vh + (r' + Vh) = R1 := by rw [← g1, Nat.succ_mul]; omega
            simp (maxSteps := 1000000) only [go_sem, Nat.reduceBEq, Nat.reduceAdd, Nat.reduceLT, Nat.reduceMul, Nat.reduceSub, Nat.reduceLeDiff, Nat.reduceEqDiff, Int.reduceToNat, Nat.reduceBeqDiff, Nat.reduceBneDiff, decide_false, and_self, List.reduceReplicate, List.flatten_cons, List.flatten_nil, true_and, and_true, eq_self, decide_true, reduceIte, reduceCtorEq, List.any_toArray, Region.binds, Int.reduceBEq, Int.reduceBNe, Int.reduceLT, hg', m1, m2]
            refine if_split (fun hb => ?_) (fun hb => ?_)
            · have hQ0 := half_done g1 lt' (half_done2 (of_decide_eq_true hb) (by omega) s8)
              obtain ⟨R0, k3, k4⟩ : ∃ R0, Q2 * V + R0 = R1 * 4294967296 + u0 ∧ R0 < V := ⟨(R1 * 4294967296 + u0) % V, by rw [hQ0, ← s5, Nat.mul_comm]; exact Nat.div_add_mod _ _, Nat.mod_lt _ (by omega)⟩
              obtain ⟨B1, B2, B3, b1, b2, b3, b4⟩ := w3 R1 u0 Q2 V R0 k3 (by omega)
              obtain ⟨z1, z2⟩ := div64_final (by omega) s3 s13 k1 k3 k4
              have z3 := divq_lt h hy
              have y1 := mulW Q1 (by omega)
              have y2 : IntKind.u64.wrap (((Q1 * 4294967296 : Nat) : Int) + (Q2 : Int)) = ((divq x y v : Nat) : Int) := by rw [wu_add' _ _ (by rw [z1]; exact z3), z1]
              simp (maxSteps := 1000000) only [go_sem, Nat.reduceBEq, Nat.reduceAdd, Nat.reduceLT, Nat.reduceMul, Nat.reduceSub, Nat.reduceLeDiff, Nat.reduceEqDiff, Int.reduceToNat, Nat.reduceBeqDiff, Nat.reduceBneDiff, decide_false, and_self, List.reduceReplicate, List.flatten_cons, List.flatten_nil, true_and, and_true, eq_self, decide_true, reduceIte, reduceCtorEq, List.any_toArray, Region.binds, Int.reduceBEq, Int.reduceBNe, Int.reduceLT, b1, b2, b3, b4, y1, y2, n2, fd_pow, z2]
              exact .refl _
            · have hb := of_decide_eq_false hb
              simp (maxSteps := 1000000) only [go_sem, Nat.reduceBEq, Nat.reduceAdd, Nat.reduceLT, Nat.reduceMul, Nat.reduceSub, Nat.reduceLeDiff, Nat.reduceEqDiff, Int.reduceToNat, Nat.reduceBeqDiff, Nat.reduceBneDiff, decide_false, and_self, List.reduceReplicate, List.flatten_cons, List.flatten_nil, true_and, and_true, eq_self, decide_true, reduceIte, reduceCtorEq, List.any_toArray, Region.binds, Int.reduceBEq, Int.reduceBNe, Int.reduceLT]
              exact ⟨(Q2, r' + Vh), Kept.of rfl (by repeat (first | exact KT.nil | refine KT.upd rfl (by first | rfl | exact hr | exact hr2 | (simp only [go_sem]; done)) ?_)) (KM.p (by repeat (first | exact KMp.nil | refine KMp.upd rfl (by first | rfl | (simp only [go_sem]; done)) ?_))), ⟨g1, by simp only []; omega, lt', by simp only []; omega⟩, by simp only []; omega⟩
          · have hQ0 := half_done g1 g3 (Nat.le_of_not_lt (of_decide_eq_false hc))
            obtain ⟨R0, k3, k4⟩ : ∃ R0, q' * V + R0 = R1 * 4294967296 + u0 ∧ R0 < V := ⟨(R1 * 4294967296 + u0) % V, by rw [hQ0, ← s5, Nat.mul_comm]; exact Nat.div_add_mod _ _, Nat.mod_lt _ (by omega)⟩
            obtain ⟨B1, B2, B3, b1, b2, b3, b4⟩ := w3 R1 u0 q' V R0 k3 (by omega)
            obtain ⟨z1, z2⟩ := div64_final (by omega) s3 s13 k1 k3 k4
            have z3 := divq_lt h hy
            have y1 := mulW Q1 (by omega)
            have y2 : IntKind.u64.wrap (((Q1 * 4294967296 : Nat) : Int) + (q' : Int)) = ((divq x y v : Nat) : Int) := by rw [wu_add' _ _ (by rw [z1]; exact z3), z1]
            simp (maxSteps := 1000000) only [go_sem, Nat.reduceBEq, Nat.reduceAdd, Nat.reduceLT, Nat.reduceMul, Nat.reduceSub, Nat.reduceLeDiff, Nat.reduceEqDiff, Int.reduceToNat, Nat.reduceBeqDiff, Nat.reduceBneDiff, decide_false, and_self, List.reduceReplicate, List.flatten_cons, List.flatten_nil, true_and, and_true, eq_self, decide_true, reduceIte, reduceCtorEq, List.any_toArray, Region.binds, Int.reduceBEq, Int.reduceBNe, Int.reduceLT, b1, b2, b3, b4, y1, y2, n2, fd_pow, z2]
            exact .refl _
      · have hb := of_decide_eq_false hb
        simp (maxSteps := 1000000) only [go_sem, Nat.reduceBEq, Nat.reduceAdd, Nat.reduceLT, Nat.reduceMul, Nat.reduceSub, Nat.reduceLeDiff, Nat.reduceEqDiff, Int.reduceToNat, Nat.reduceBeqDiff, Nat.reduceBneDiff, decide_false, and_self, List.reduceReplicate, List.flatten_cons, List.flatten_nil, true_and, and_true, eq_self, decide_true, reduceIte, reduceCtorEq, List.any_toArray, Region.binds, Int.reduceBEq, Int.reduceBNe, Int.reduceLT]
        exact ⟨(Q1, r + Vh), Kept.of rfl (by repeat (first | exact KT.nil | refine KT.upd rfl (by first | rfl | exact hr | exact hr2 | (simp only [go_sem]; done)) ?_)) (KM.p (by repeat (first | exact KMp.nil | refine KMp.upd rfl (by first | rfl | (simp only [go_sem]; done)) ?_))), ⟨j1, by simp only []; omega, lt, by simp only []; omega⟩, by simp only []; omega⟩
    · have hQ0 := half_done j1 j3 (Nat.le_of_not_lt (of_decide_eq_false hc))
      clear e1 e2 e3 hc j1 j2 j3 j4 hg
      obtain ⟨R1, k1, k2⟩ : ∃ R1, q * V + R1 = U * 4294967296 + u1 ∧ R1 < V := ⟨(U * 4294967296 + u1) % V, by rw [hQ0, ← s5, Nat.mul_comm]; exact Nat.div_add_mod _ _, Nat.mod_lt _ (by omega)⟩
      have hQW := half_lt s9 s10
      rw [s5, ← hQ0] at hQW
      obtain ⟨A1, A2, A3, a1, a2, a3, a4⟩ := w3 U u1 q V R1 k1 (by omega)
      obtain ⟨i1, i2, i3, i4⟩ := half_init (U := R1) (u := u0) s6 s8 s11 (by omega)
      have d1 := wu_div R1 Vh (by omega)
      have d2 : IntKind.u64.wrap (((R1 / Vh : Nat) : Int) * (Vh : Int)) = ((R1 / Vh * Vh : Nat) : Int) := by rw [wu_mul, Nat.mod_eq_of_lt (by omega)]
      have d3 : IntKind.u64.wrap ((R1 : Int) - ((R1 / Vh * Vh : Nat) : Int)) = ((R1 % Vh : Nat) : Int) := by rw [wu_sub _ _ (Nat.div_mul_le_self _ _) (Nat.lt_trans k2 s4)]; congr 1; exact Nat.sub_eq_of_eq_add (i1.symm.trans (Nat.add_comm _ _))
      simp (maxSteps := 1000000) only [go_sem, Nat.reduceBEq, Nat.reduceAdd, Nat.reduceLT, Nat.reduceMul, Nat.reduceSub, Nat.reduceLeDiff, Nat.reduceEqDiff, Int.reduceToNat, Nat.reduceBeqDiff, Nat.reduceBneDiff, decide_false, and_self, List.reduceReplicate, List.flatten_cons, List.flatten_nil, true_and, and_true, eq_self, decide_true, reduceIte, reduceCtorEq, List.any_toArray, Region.binds, Int.reduceBEq, Int.reduceBNe, Int.reduceLT, a1, a2, a3, a4, d1, d2, d3]
      refine ⟨by omega, ?_⟩
      generalize R1 / Vh = q0 at *
      generalize R1 % Vh = r0 at *
      clear d1 d2 d3
      refine trX_loop HE hP.mix [] (fun p : Nat × Nat => ⟨upd (upd (upd (upd (upd (upd (upd (upd (upd (upd (upd (fun _ => .junk) 2 (.int .u64 (V : Int))) 6 (.int .u64 0)) 7 (.int .u64 0)) 8 (.int .u64 (s : Int))) 9 (.int .u64 (Vh : Int))) 10 (.int .u64 (Vl : Int))) 17 (.int .u64 (R1 : Int))) 15 (.int .u64 (q : Int))) 14 (.int .u64 (u0 : Int))) 18 (.int .u64 (p.1 : Int))) 16 (.int .u64 (p.2 : Int)), fun _ => .unused, 135⟩)
        (fun p => p.1 * Vh + p.2 = R1 ∧ p.2 < 4294967296 ∧ R1 * 4294967296 + u0 < (p.1 + 1) * (Vh * 4294967296 + Vl) ∧ p.1 ≤ 4294967297) (fun p => p.1) (q0, r0) 0
        (by repeat (first | exact Has.nil | refine Has.upd rfl ?_)) (Kept.of rfl (by repeat (first | exact KT.nil | refine KT.upd rfl (by first | rfl | exact hr | exact hr2 | (simp only [go_sem]; done)) ?_)) (KM.p (by repeat (first | exact KMp.nil | refine KMp.upd rfl (by first | rfl | (simp only [go_sem]; done)) ?_)))) ⟨i1, by omega, i3, i4⟩ 135 (by kernel_rfl) ?_
      clear i1 i2 i3 i4
      rintro ⟨q', r'⟩ ⟨g1, g2, g3, g4⟩
      simp only [] at g1 g2 g3 g4
      by_cases hg' : 4294967296 ≤ q'
      · have lt' := half_dec (Vl := Vl) g1 (by omega) s11 (.inl hg')
        obtain ⟨Q2, hQ2⟩ : ∃ Q, q' = Q + 1 := succ_of lt'
        subst hQ2
        have m1 := u_nat Q2 (by omega)
        have m2 := wu_add' r' Vh (by omega)
        have g1 : Q2 * Vh + (r' + Vh) = R1 := by rw [← g1, Nat.succ_mul]; omega
        simp (maxSteps := 1000000) only [go_sem, Nat.reduceBEq, Nat.reduceAdd, Nat.reduceLT, Nat.reduceMul, Nat.reduceSub, Nat.reduceLeDiff, Nat.reduceEqDiff, Int.reduceToNat, Nat.reduceBeqDiff, Nat.reduceBneDiff, decide_false, and_self, List.reduceReplicate, List.flatten_cons, List.flatten_nil, true_and, and_true, eq_self, decide_true, reduceIte, reduceCtorEq, List.any_toArray, Region.binds, Int.reduceBEq, Int.reduceBNe, Int.reduceLT, hg', m1, m2]
        refine if_split (fun hb => ?_) (fun hb => ?_)
        · have hQ0 := half_done g1 lt' (half_done2 (of_decide_eq_true hb) (by omega) s8)
          obtain ⟨R0, k3, k4⟩ : ∃ R0, Q2 * V + R0 = R1 * 4294967296 + u0 ∧ R0 < V := ⟨(R1 * 4294967296 + u0) % V, by rw [hQ0, ← s5, Nat.mul_comm]; exact Nat.div_add_mod _ _, Nat.mod_lt _ (by omega)⟩
          obtain ⟨B1, B2, B3, b1, b2, b3, b4⟩ := w3 R1 u0 Q2 V R0 k3 (by omega)
          obtain ⟨z1, z2⟩ := div64_final (by omega) s3 s13 k1 k3 k4
          have z3 := divq_lt h hy
          have y1 := mulW q (by omega)
          have y2 : IntKind.u64.wrap (((q * 4294967296 : Nat) : Int) + (Q2 : Int)) = ((divq x y v : Nat) : Int) := by rw [wu_add' _ _ (by rw [z1]; exact z3), z1]
          simp (maxSteps := 1000000) only [go_sem, Nat.reduceBEq, Nat.reduceAdd, Nat.reduceLT, Nat.reduceMul, Nat.reduceSub, Nat.reduceLeDiff, Nat.reduceEqDiff, Int.reduceToNat, Nat.reduceBeqDiff, Nat.reduceBneDiff, decide_false, and_self, List.reduceReplicate, List.flatten_cons, List.flatten_nil, true_and, and_true, eq_self, decide_true, reduceIte, reduceCtorEq, List.any_toArray, Region.binds, Int.reduceBEq, Int.reduceBNe, Int.reduceLT, b1, b2, b3, b4, y1, y2, n2, fd_pow, z2]
          exact .refl _
        · have hb := of_decide_eq_false hb
          simp (maxSteps := 1000000) only [go_sem, Nat.reduceBEq, Nat.reduceAdd, Nat.reduceLT, Nat.reduceMul, Nat.reduceSub, Nat.reduceLeDiff, Nat.reduceEqDiff, Int.reduceToNat, Nat.reduceBeqDiff, Nat.reduceBneDiff, decide_false, and_self, List.reduceReplicate, List.flatten_cons, List.flatten_nil, true_and, and_true, eq_self, decide_true, reduceIte, reduceCtorEq, List.any_toArray, Region.binds, Int.reduceBEq, Int.reduceBNe, Int.reduceLT]
          exact ⟨(Q2, r' + Vh), Kept.of rfl (by repeat (first | exact KT.nil | refine KT.upd rfl (by first | rfl | exact hr | exact hr2 | (simp only [go_sem]; done)) ?_)) (KM.p (by repeat (first | exact KMp.nil | refine KMp.upd rfl (by first | rfl | (simp only [go_sem]; done)) ?_))), ⟨g1, by simp only []; omega, lt', by simp only []; omega⟩, by simp only []; omega⟩
      · have e1 : IntKind.u64.wrap ((q' : Int) * (Vl : Int)) = ((q' * Vl : Nat) : Int) := by
          rw [wu_mul, Nat.mod_eq_of_lt]
          have := Nat.mul_le_mul (show q' ≤ 4294967295 by omega) (show Vl ≤ 4294967295 by omega)
          omega
        have e2 : IntKind.u64.wrap (4294967296 * (r' : Int)) = ((4294967296 * r' : Nat) : Int) := by rw [IntKind.wrap_u64]; omega
        have e3 := wu_add' (4294967296 * r') u0 (by omega)
        simp (maxSteps := 1000000) only [go_sem, Nat.reduceBEq, Nat.reduceAdd, Nat.reduceLT, Nat.reduceMul, Nat.reduceSub, Nat.reduceLeDiff, Nat.reduceEqDiff, Int.reduceToNat, Nat.reduceBeqDiff, Nat.reduceBneDiff, decide_false, and_self, List.reduceReplicate, List.flatten_cons, List.flatten_nil, true_and, and_true, eq_self, decide_true, reduceIte, reduceCtorEq, List.any_toArray, Region.binds, Int.reduceBEq, Int.reduceBNe, Int.reduceLT, hg', e1, e2, e3]
        refine if_split (fun hc => ?_) (fun hc => ?_)
        · have lt' := half_dec (Vl := Vl) g1 (by omega) s11 (.inr (of_decide_eq_true hc))
          obtain ⟨Q2, hQ2⟩ : ∃ Q, q' = Q + 1 := succ_of lt'
          subst hQ2
          have m1 := u_nat Q2 (by omega)
          have m2 := wu_add' r' Vh (by omega)
          have g1 : Q2 * Vh + (r' + Vh) = R1 := by rw [← g1, Nat.succ_mul]; omega
          simp (maxSteps := 1000000) only [go_sem, Nat.reduceBEq, Nat.reduceAdd, Nat.reduceLT, Nat.reduceMul, Nat.reduceSub, Nat.reduceLeDiff, Nat.reduceEqDiff, Int.reduceToNat, Nat.reduceBeqDiff, Nat.reduceBneDiff, decide_false, and_self, List.reduceReplicate, List.flatten_cons, List.flatten_nil, true_and, and_true, eq_self, decide_true, reduceIte, reduceCtorEq, List.any_toArray, Region.binds, Int.reduceBEq, Int.reduceBNe, Int.reduceLT, hg', m1, m2]
          refine if_split (fun hb => ?_) (fun hb => ?_)
          · have hQ0 := half_done g1 lt' (half_done2 (of_decide_eq_true hb) (by omega) s8)
            obtain ⟨R0, k3, k4⟩ : ∃ R0, Q2 * V + R0 = R1 * 4294967296 + u0 ∧ R0 < V := ⟨(R1 * 4294967296 + u0) % V, by rw [hQ0, ← s5, Nat.mul_comm]; exact Nat.div_add_mod _ _, Nat.mod_lt _ (by omega)⟩
            obtain ⟨B1, B2, B3, b1, b2, b3, b4⟩ := w3 R1 u0 Q2 V R0 k3 (by omega)
            obtain ⟨z1, z2⟩ := div64_final (by omega) s3 s13 k1 k3 k4
            have z3 := divq_lt h hy
            have y1 := mulW q (by omega)
            have y2 : IntKind.u64.wrap (((q * 4294967296 : Nat) : Int) + (Q2 : Int)) = ((divq x y v : Nat) : Int) := by rw [wu_add' _ _ (by rw [z1]; exact z3), z1]
            simp (maxSteps := 1000000) only [go_sem, Nat.reduceBEq, Nat.reduceAdd, Nat.reduceLT, Nat.reduceMul, Nat.reduceSub, Nat.reduceLeDiff, Nat.reduceEqDiff, Int.reduceToNat, Nat.reduceBeqDiff, Nat.reduceBneDiff, decide_false, and_self, List.reduceReplicate, List.flatten_cons, List.flatten_nil, true_and, and_true, eq_self, decide_true, reduceIte, reduceCtorEq, List.any_toArray, Region.binds, Int.reduceBEq, Int.reduceBNe, Int.reduceLT, b1, b2, b3, b4, y1, y2, n2, fd_pow, z2]
            exact .refl _
          · have hb := of_decide_eq_false hb
            simp (maxSteps := 1000000) only [go_sem, Nat.reduceBEq, Nat.reduceAdd, Nat.reduceLT, Nat.reduceMul, Nat.reduceSub, Nat.reduceLeDiff, Nat.reduceEqDiff, Int.reduceToNat, Nat.reduceBeqDiff, Nat.reduceBneDiff, decide_false, and_self, List.reduceReplicate, List.flatten_cons, List.flatten_nil, true_and, and_true, eq_self, decide_true, reduceIte, reduceCtorEq, List.any_toArray, Region.binds, Int.reduceBEq, Int.reduceBNe, Int.reduceLT]
            exact ⟨(Q2, r' + Vh), Kept.of rfl (by repeat (first | exact KT.nil | refine KT.upd rfl (by first | rfl | exact hr | exact hr2 | (simp only [go_sem]; done)) ?_)) (KM.p (by repeat (first | exact KMp.nil | refine KMp.upd rfl (by first | rfl | (simp only [go_sem]; done)) ?_))), ⟨g1, by simp only []; omega, lt', by simp only []; omega⟩, by simp only []; omega⟩
        · have hQ0 := half_done g1 g3 (Nat.le_of_not_lt (of_decide_eq_false hc))
          obtain ⟨R0, k3, k4⟩ : ∃ R0, q' * V + R0 = R1 * 4294967296 + u0 ∧ R0 < V := ⟨(R1 * 4294967296 + u0) % V, by rw [hQ0, ← s5, Nat.mul_comm]; exact Nat.div_add_mod _ _, Nat.mod_lt _ (by omega)⟩
          obtain ⟨B1, B2, B3, b1, b2, b3, b4⟩ := w3 R1 u0 q' V R0 k3 (by omega)
          obtain ⟨z1, z2⟩ := div64_final (by omega) s3 s13 k1 k3 k4
          have z3 := divq_lt h hy
          have y1 := mulW q (by omega)
          have y2 : IntKind.u64.wrap (((q * 4294967296 : Nat) : Int) + (q' : Int)) = ((divq x y v : Nat) : Int) := by rw [wu_add' _ _ (by rw [z1]; exact z3), z1]
          simp (maxSteps := 1000000) only [go_sem, Nat.reduceBEq, Nat.reduceAdd, Nat.reduceLT, Nat.reduceMul, Nat.reduceSub, Nat.reduceLeDiff, Nat.reduceEqDiff, Int.reduceToNat, Nat.reduceBeqDiff, Nat.reduceBneDiff, decide_false, and_self, List.reduceReplicate, List.flatten_cons, List.flatten_nil, true_and, and_true, eq_self, decide_true, reduceIte, reduceCtorEq, List.any_toArray, Region.binds, Int.reduceBEq, Int.reduceBNe, Int.reduceLT, b1, b2, b3, b4, y1, y2, n2, fd_pow, z2]
          exact .refl _
theorem Div64_spec (hP : PrgOk P) (x y v : Nat) (hy : y < 18446744073709551616) (hv : v < 18446744073709551616) (h : x < v) : CSpec P 55 [.int .u64 (x : Int), .int .u64 (y : Int), .int .u64 (v : Int)] (.tup [.int .u64 ((divq x y v : Nat) : Int), .int .u64 ((divr x y v : Nat) : Int)]) := by
  rcases Nat.eq_zero_or_pos x with rfl | hx
  · have := Div64_low hP y v hy hv h
    rw [divq_eq, divr_eq, Nat.zero_mul, Nat.zero_add]; exact this
  · exact Div64_high hP x y v hy hv h hx
noncomputable def div64S : List AV → Option (Prop × AV)
  | [.int .u64 x, .int .u64 y, .int .u64 v] => some ((0 ≤ x ∧ 0 ≤ y ∧ 0 ≤ v) ∧ x.toNat < v.toNat ∧ y.toNat < 18446744073709551616 ∧ v.toNat < 18446744073709551616, .tup [.int .u64 ((divq x.toNat y.toNat v.toNat : Nat) : Int), .int .u64 ((divr x.toNat y.toNat v.toNat : Nat) : Int)])
  | _ => none
theorem div64S_ok (hP : PrgOk P) (args p r) (h : div64S args = some (p, r)) (hp : p) : CSpec P 55 args r := by
  unfold div64S at h
  split at h
  · simp only [Option.some.injEq, Prod.mk.injEq] at h
    obtain ⟨rfl, rfl⟩ := h
    exact (by rename_i x y v; have := Div64_spec hP x.toNat y.toNat v.toNat hp.2.2.1 hp.2.2.2 hp.2.1; rw [nn hp.1.1, nn hp.1.2.1, nn hp.1.2.2] at this; exact this)
  · simp at h
attribute [go_sem] div64S
end Go.Proofs.Ytlgimmafejbmgaa.AM
