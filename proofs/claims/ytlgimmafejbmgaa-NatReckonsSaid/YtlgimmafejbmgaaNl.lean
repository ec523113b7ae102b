/- Package nat: the long division. -/
import Derived.Test.YtlgimmafejbmgaaNk
namespace Go.Proofs.Ytlgimmafejbmgaa.AM
set_option linter.all false
set_option autoImplicit true
set_option relaxedAutoImplicit true
open Go Go.Proofs
set_option maxRecDepth 100000
set_option maxHeartbeats 8000000
set_option linter.unusedSimpArgs false
variable {P : Program}

noncomputable def Sd : Nat → List AV → Option (Prop × AV) := addS (addS Sc 58 guessS) 61 downS
theorem Sd_ok (hP : PrgOk P) : EnvOk P ⟨T0, Sd⟩ := ((Sc_ok hP).add (guessS_ok hP)).add (downS_ok hP)
attribute [go_sem] Sd

theorem up_ic' (hP : PrgOk P) {L : List Nat} {m : Nat → AObj} {K : Nat → AV → (Nat → AObj) → Prop} {r nx0 N : Nat} {d : List Nat} {s n nd : Nat} (hm : GenM L m) (hr : L.contains r = true) (hmr : m r = .unused) (hrn : nx0 + 1 + 1 = r) (hn3 : n ≤ 1099511627776) (hnd : d.length = nd) (hn : nd ≤ n) (hn1 : n ≤ nd + 1) (hd0 : d ≠ []) (hd : ∀ x ∈ d, x < 18446744073709551616) (hs : s ≤ 63)
    (k : ∀ (w : List Nat), w.length = n → (∀ d ∈ w, d < 18446744073709551616) → dOf 18446744073709551616 w + 18446744073709551616 ^ n * cup d s n = dOf 18446744073709551616 d * 2 ^ s → K N (.sl r 0 n 1) (upd m r (.live (List.map (fun d : Nat => AV.int .u64 (d : Int)) (w))))) :
    icX (ICall P) 57 [.imm nd (List.map (fun d : Nat => AV.int .u64 (d : Int)) (d)), .int .i64 (s : Int), .int .i64 (n : Int)] m (K := ⟨K⟩) := by
  subst hnd
  exact up_ic hP hm hr hmr hrn hn3 hn hn1 hd0 hd hs k
theorem get_pre {pre w tail : List Nat} {off i j : Nat} (hp : pre.length = off) (hi : i < w.length) (hj : j = off + i) : (pre ++ (w ++ tail)).getD j 0 = w.getD i 0 := by
  subst hp; subst hj
  induction pre with
  | nil => simp only [List.nil_append, List.length_nil, Nat.zero_add, List.getD_eq_getElem?_getD]; rw [List.getElem?_append_left hi]
  | cons a pre ih => simpa [Nat.add_right_comm] using ih
theorem len_pre {pre w tail : List Nat} {off i j : Nat} (hp : pre.length = off) (hi : i < w.length) (hj : j = off + i) : j < (pre ++ (w ++ tail)).length := by simp; omega
theorem dOf_top (l : List Nat) (n : Nat) (h : l.length = n + 1) : dOf 18446744073709551616 l = dOf 18446744073709551616 (l.take n) + 18446744073709551616 ^ n * l.getD n 0 := by
  have e : l.take n ++ [l.getD n 0] = l := by
    rw [← take_snoc (by omega)]; exact List.take_of_length_le (by omega)
  conv => lhs; rw [← e]
  rw [dOf_snoc, List.length_take, Nat.min_eq_left (by omega)]
theorem dOf_low {l : List Nat} {n : Nat} (h : ∀ d ∈ l, d < 18446744073709551616) : dOf 18446744073709551616 (l.take n) < 18446744073709551616 ^ n := by
  have h1 := dOf_lt 18446744073709551616 (l.take n) (fun d hd => h d (List.mem_of_mem_take hd))
  refine Nat.lt_of_lt_of_le h1 (Nat.pow_le_pow_right (by decide) ?_)
  rw [List.length_take]; omega
theorem take_take_getD {l : List Nat} {n k : Nat} (h : n < k) : (l.take k).getD n 0 = l.getD n 0 := by
  simp only [List.getD_eq_getElem?_getD]; rw [List.getElem?_take_of_lt h]
theorem dOf_top2 (l : List Nat) (n : Nat) (h : l.length = n + 2) : dOf 18446744073709551616 l = (l.getD (n + 1) 0 * 18446744073709551616 + l.getD n 0) * 18446744073709551616 ^ n + dOf 18446744073709551616 (l.take n) := by
  rw [dOf_top l (n + 1) h, dOf_top (l.take (n + 1)) n (by rw [List.length_take]; omega), List.take_take, Nat.min_eq_left (by omega), take_take_getD (by omega), Nat.pow_succ, Nat.add_mul, Nat.mul_assoc (l.getD (n + 1) 0), Nat.mul_comm (l.getD (n + 1) 0), Nat.mul_comm (18446744073709551616 ^ n) 18446744073709551616, Nat.mul_comm (l.getD n 0)]
  omega
theorem dOf_top3 (l : List Nat) (n : Nat) (h : l.length = n + 3) : dOf 18446744073709551616 l = ((l.getD (n + 2) 0 * 18446744073709551616 + l.getD (n + 1) 0) * 18446744073709551616 + l.getD n 0) * 18446744073709551616 ^ n + dOf 18446744073709551616 (l.take n) := by
  rw [dOf_top l (n + 2) h, dOf_top2 (l.take (n + 2)) n (by rw [List.length_take]; omega), List.take_take, Nat.min_eq_left (by omega), take_take_getD (by omega), take_take_getD (by omega)]
  rw [Nat.add_mul (l.getD (n + 2) 0 * 18446744073709551616), Nat.add_mul _ (l.getD n 0), Nat.add_mul _ (l.getD n 0), Nat.add_mul (l.getD (n + 2) 0 * 18446744073709551616 * 18446744073709551616)]
  have e : 18446744073709551616 ^ (n + 2) * l.getD (n + 2) 0 = l.getD (n + 2) 0 * 18446744073709551616 * 18446744073709551616 * 18446744073709551616 ^ n := by
    rw [Nat.pow_add, Nat.mul_comm, Nat.mul_comm (18446744073709551616 ^ n), Nat.mul_assoc (l.getD (n + 2) 0) 18446744073709551616 18446744073709551616, ← Nat.mul_assoc]
  rw [e]
  omega
theorem le_of_mul_lt {a b p x y : Nat} (h : a * p + x < b * p + y) (hy : y < p) : a ≤ b := by
  rcases Nat.lt_or_ge b a with h1 | h1
  · have : (b + 1) * p ≤ a * p := Nat.mul_le_mul_right _ h1
    rw [Nat.add_mul] at this; omega
  · exact h1
theorem long_step {B lo p x hi qs V w d U : Nat} (h : U = lo + p * x + p * B * (hi + qs * V)) (h1 : w + d * V = x + B * hi) : U = lo + p * (w + (d + B * qs) * V) := by
  rw [h]
  have e := congrArg (p * ·) h1
  simp only [Nat.mul_add, ← Nat.mul_assoc] at e
  simp only [Nat.mul_add, Nat.add_mul, ← Nat.mul_assoc]
  have e3 : p * B * hi = p * B * hi := rfl
  omega
theorem long_init {B A Bv V U hm s m n : Nat} {lo : Nat} (hB : 0 < B) (hU : U = A * s) (hV : V = Bv * s) (hA : A < B ^ (n + 1 + m)) (hb : B ^ (n + 1) ≤ Bv) (hs : 0 < s) (e : U = lo + B ^ m * hm) : hm < V := by
  have h1 : B ^ (n + 1) * s ≤ V := by rw [hV]; exact Nat.mul_le_mul_right _ hb
  have h2 : B ^ m * (B ^ (n + 1) * s) ≤ B ^ m * V := Nat.mul_le_mul_left _ h1
  have h3 : U < B ^ (n + 1 + m) * s := by rw [hU]; exact Nat.mul_lt_mul_of_pos_right hA hs
  have h4 : B ^ m * (B ^ (n + 1) * s) = B ^ (n + 1 + m) * s := by rw [← Nat.mul_assoc, ← Nat.pow_add, Nat.add_comm m]
  have h5 : B ^ m * hm < B ^ m * V := by omega
  exact Nat.lt_of_mul_lt_mul_left h5
theorem long_end {A Bv V U hi qs s : Nat} (hU : U = A * s) (hV : V = Bv * s) (hs : 0 < s) (h : U = hi + qs * V) (hh : hi < V) : qs = A / Bv ∧ hi / s = A % Bv := by
  have h1 : U / V = qs := by rw [h, Nat.mul_comm, Nat.add_mul_div_left _ _ (by omega), Nat.div_eq_of_lt hh, Nat.zero_add]
  have h2 : U % V = hi := by rw [h, Nat.mul_comm, Nat.add_mul_mod_self_left, Nat.mod_eq_of_lt hh]
  rw [hU, hV, Nat.mul_div_mul_right _ _ hs] at h1
  rw [hU, hV, Nat.mul_mod_mul_right] at h2
  exact ⟨h1.symm, by rw [← h2, Nat.mul_div_cancel _ hs]⟩
theorem pv_lt {B x h V : Nat} (h1 : x < B) (h2 : h < V) : x + B * h < B * V := by
  have h3 : B * (h + 1) ≤ B * V := Nat.mul_le_mul_left _ h2
  rw [Nat.mul_add] at h3; omega
theorem ge_B {B x y : Nat} (h : 0 < x) : B ≤ x * B + y := by
  have := Nat.mul_le_mul_right B h
  rw [Nat.succ_mul, Nat.zero_mul] at this; omega
theorem dOf_zero {l : List Nat} (h : ∀ d ∈ l, d = 0) : dOf 18446744073709551616 l = 0 := by
  induction l with
  | nil => rfl
  | cons a l ih => simp only [dOf]; rw [h a (by simp), ih (fun d hd => h d (by simp [hd]))]
theorem away_pos {w V d P Bn b : Nat} (h : w + V * d = P + Bn * b) (hb : b ≤ 1) (hne : b ≠ 0) (hw : w < Bn) : b = 1 ∧ ∃ d', d = d' + 1 := by
  have : b = 1 := by omega
  subst this
  refine ⟨rfl, ?_⟩
  cases d with
  | zero => rw [Nat.mul_zero] at h; omega
  | succ d => exact ⟨d, rfl⟩

theorem long_spec (hP : PrgOk P) (a b : List Nat) (ha : ∀ d ∈ a, d < 18446744073709551616) (hb : ∀ d ∈ b, d < 18446744073709551616) (hb2 : 2 ≤ b.length) (hab : b.length ≤ a.length) (hal : a.length + 1 ≤ 1099511627776) (htop : b.getD (b.length - 1) 0 ≠ 0) : CSpec P 47 [.imm a.length (List.map (fun d : Nat => AV.int .u64 (d : Int)) (a)), .imm b.length (List.map (fun d : Nat => AV.int .u64 (d : Int)) (b))] (.tup [(.agg [.opq (.nat (dOf 18446744073709551616 a / dOf 18446744073709551616 b)), .pad]), (.agg [.opq (.nat (dOf 18446744073709551616 a % dOf 18446744073709551616 b)), .pad])]) := by
  have HE := Sd_ok hP
  refine CSpec_vc (E := ⟨T0, Sd⟩) (fn47 hP) HE hP.mix rfl (by first | rfl | (simp only [go_sem]; done)) (by first | rfl | (simp only [go_sem]; done)) (Nat.le_of_ble_eq_true rfl) ?_
  obtain ⟨n, hn⟩ : ∃ n, b.length = n + 2 := ⟨b.length - 2, by omega⟩
  have hn1 : n + 1 < b.length := by omega
  have hn2 : n + 1 < n + 2 := by omega
  have hn3 : n + 1 ≤ b.length := by omega
  have hn4 : n + 1 ≤ n + 2 := by omega
  have hwn := wi_nat (n + 1) (by omega)
  have htd := hb _ (getD_mem hn1)
  rw [hn, show n + 2 - 1 = n + 1 by omega] at htop
  obtain ⟨s, hs⟩ : ∃ s, 64 - blen (b.getD (n + 1) 0) = s := ⟨_, rfl⟩
  have hb0 : ¬ blen (b.getD (n + 1) 0) ≤ 0 := by rw [Nat.le_zero, blen_zero_iff]; exact htop
  have hb64 : blen (b.getD (n + 1) 0) ≤ 64 := (blen_le_iff _ 64).2 htd
  have hs63 : s ≤ 63 := by omega
  rw [hn]
  simp (maxSteps := 1000000) only [go_sem, Nat.reduceBEq, Nat.reduceAdd, Nat.reduceLT, Nat.reduceMul, Nat.reduceSub, Nat.reduceLeDiff, Nat.reduceEqDiff, Int.reduceToNat, Nat.reduceBeqDiff, Nat.reduceBneDiff, decide_false, and_self, List.reduceReplicate, List.flatten_cons, List.flatten_nil, true_and, and_true, eq_self, decide_true, reduceIte, reduceCtorEq, List.any_toArray, Region.binds, Int.reduceBEq, Int.reduceBNe, Int.reduceLT, hn1, hn2, hn3, hn4, hwn, gU' hn1, htd, hs]
  obtain ⟨m, hm, hm1⟩ : ∃ m, a.length = n + 1 + m ∧ 0 < m := ⟨a.length - (n + 1), by omega, by omega⟩
  have hla := wi_add1 a.length (by omega)
  have hbn : 0 < b.length := by omega
  refine up_ic' hP (L := [67, 42, 18, 1, 0]) (r := 18) (nx0 := 16) (N := 30) (by repeat (first | exact GenM.nil | refine GenM.upd ?_ rfl (by first | rfl | exact objOnly_U))) rfl rfl rfl (by omega) hn (by omega) (by omega) (by intro e; rw [e] at hbn; simp at hbn) hb hs63 ?_
  intro v hv1 hv2 hv3
  simp (maxSteps := 1000000) only [go_sem, Nat.reduceBEq, Nat.reduceAdd, Nat.reduceLT, Nat.reduceMul, Nat.reduceSub, Nat.reduceLeDiff, Nat.reduceEqDiff, Int.reduceToNat, Nat.reduceBeqDiff, Nat.reduceBneDiff, decide_false, and_self, List.reduceReplicate, List.flatten_cons, List.flatten_nil, true_and, and_true, eq_self, decide_true, reduceIte, reduceCtorEq, List.any_toArray, Region.binds, Int.reduceBEq, Int.reduceBNe, Int.reduceLT, hla]
  have hal1 : a.length + 1 ≤ 1099511627776 := hal
  refine up_ic' hP (L := [67, 42, 18, 1, 0]) (r := 42) (nx0 := 40) (N := 60) (by repeat (first | exact GenM.nil | refine GenM.upd ?_ rfl (by first | rfl | exact objOnly_U))) rfl rfl rfl hal rfl (Nat.le_succ _) (Nat.le_refl _) (by intro e; rw [e] at hm; simp at hm; omega) ha hs63 ?_
  intro u hu1 hu2 hu3
  have hcv : cup b s (n + 2) = 0 := by
    unfold cup; rw [if_neg (by omega), show n + 2 - 1 = n + 1 by omega]
    refine Nat.div_eq_of_lt ?_
    have := blen_lt (b.getD (n + 1) 0)
    rwa [show blen (b.getD (n + 1) 0) = 64 - s by omega] at this
  have hcu : cup a s (a.length + 1) = 0 := by
    unfold cup; rw [if_neg (by omega), Nat.add_sub_cancel, getD_ge (Nat.le_refl _), Nat.zero_div]
  rw [hcv, Nat.mul_zero, Nat.add_zero] at hv3
  rw [hcu, Nat.mul_zero, Nat.add_zero] at hu3
  have hwm : IntKind.i64.wrap (((a.length + 1 : Nat) : Int) - ((n + 2 : Nat) : Int)) = (m : Int) := by rw [IntKind.wrap_i64]; omega
  have hwp := wi_pred' m (by omega)
  have hml : m ≤ 1099511627776 := by omega
  have hbge : 18446744073709551616 ^ (n + 1) ≤ dOf 18446744073709551616 b := by
    rw [dOf_top b (n + 1) hn]
    have : 18446744073709551616 ^ (n + 1) * 1 ≤ 18446744073709551616 ^ (n + 1) * b.getD (n + 1) 0 := Nat.mul_le_mul_left _ (by omega)
    omega
  have hvt : 0 < v.getD (n + 1) 0 := by
    rcases Nat.eq_zero_or_pos (v.getD (n + 1) 0) with h | h
    · have h1 := dOf_top v (n + 1) hv1
      rw [h, Nat.mul_zero, Nat.add_zero, hv3] at h1
      have h2 := dOf_low (n := n + 1) hv2
      have h3 : dOf 18446744073709551616 b * 1 ≤ dOf 18446744073709551616 b * 2 ^ s := Nat.mul_le_mul_left _ (Nat.two_pow_pos s)
      omega
    · exact h
  have hv0 : 0 < dOf 18446744073709551616 v := by
    rw [hv3]; exact Nat.mul_pos (Nat.lt_of_lt_of_le (Nat.pow_pos (by decide)) hbge) (Nat.two_pow_pos s)
  have hum : (u.take m).length = m := by rw [List.length_take]; omega
  have hus : dOf 18446744073709551616 u = dOf 18446744073709551616 (u.take m) + 18446744073709551616 ^ m * dOf 18446744073709551616 (u.drop m) := by
    conv => lhs; rw [← List.take_append_drop m u]
    rw [dOf_append, hum]
  have hA : dOf 18446744073709551616 a < 18446744073709551616 ^ (n + 1 + m) := by rw [← hm]; exact dOf_lt 18446744073709551616 a ha
  have hinit := long_init (B := 18446744073709551616) (by decide) hu3 hv3 hA hbge (Nat.two_pow_pos s) hus
  clear hcv hcu hA
  simp (maxSteps := 1000000) only [go_sem, Nat.reduceBEq, Nat.reduceAdd, Nat.reduceLT, Nat.reduceMul, Nat.reduceSub, Nat.reduceLeDiff, Nat.reduceEqDiff, Int.reduceToNat, Nat.reduceBeqDiff, Nat.reduceBneDiff, decide_false, and_self, List.reduceReplicate, List.flatten_cons, List.flatten_nil, true_and, and_true, eq_self, decide_true, reduceIte, reduceCtorEq, List.any_toArray, Region.binds, Int.reduceBEq, Int.reduceBNe, Int.reduceLT, hwm, hwp, hml]
  refine trX_loop HE hP.mix [67, 42, 18, 1, 0] (fun q : Nat × List Nat × List Nat × List Nat => ⟨upd (upd (upd (upd (upd (upd (upd (upd (fun _ => .junk) 4 (.ref 0 0)) 5 (.ref 1 0)) 6 (.int .i64 ((n + 2 : Nat) : Int))) 7 (.int .i64 (s : Int))) 8 (.sl 18 0 (n + 2) 1)) 9 (.sl 42 0 (a.length + 1) 1)) 11 (.sl 67 0 m 1)) 12 (.int .i64 ((q.1 : Int) - 1)), upd (upd (upd (upd (upd (fun _ => .unused) 0 (.live [.int .u64 0, .nils])) 1 (.live [.int .u64 0, .nils])) 18 (.live (List.map (fun d : Nat => AV.int .u64 (d : Int)) (v)))) 42 (.live (List.map (fun d : Nat => AV.int .u64 (d : Int)) (u.take q.1 ++ (q.2.1 ++ q.2.2.1))))) 67 (.live (List.map (fun d : Nat => AV.int .u64 (d : Int)) (List.replicate q.1 0 ++ q.2.2.2))), 100⟩)
    (fun q => q.1 ≤ m ∧ q.2.1.length = n + 2 ∧ (∀ d ∈ q.2.1, d < 18446744073709551616) ∧ (∀ d ∈ q.2.2.1, d = 0) ∧ q.2.2.1.length + q.1 = m ∧ q.2.2.2.length + q.1 = m ∧ (∀ d ∈ q.2.2.2, d < 18446744073709551616) ∧ dOf 18446744073709551616 q.2.1 < dOf 18446744073709551616 v ∧ dOf 18446744073709551616 u = dOf 18446744073709551616 (u.take q.1) + 18446744073709551616 ^ q.1 * (dOf 18446744073709551616 q.2.1 + dOf 18446744073709551616 q.2.2.2 * dOf 18446744073709551616 v)) (fun q => q.1) (m, u.drop m, [], []) 80
    (by repeat (first | exact Has.nil | refine Has.upd rfl ?_)) (Kept.of rfl (by repeat (first | exact KT.nil | refine KT.upd rfl (by first | rfl | exact hr | exact hr2 | (simp only [go_sem]; done)) ?_)) (by
      have e1 : u.take m ++ (u.drop m ++ []) = u := by rw [List.append_nil, List.take_append_drop]
      have e2 : List.replicate m 0 ++ ([] : List Nat) = List.replicate m 0 := List.append_nil _
      simp only []; rw [e1, e2]; exact (KM.p (by repeat (first | exact KMp.nil | refine KMp.upd rfl (by first | rfl | (simp only [go_sem]; done)) ?_))))) ⟨by simp, by simp; omega, fun d hd => hu2 d (List.mem_of_mem_drop hd), by simp, by simp, by simp, by simp, hinit, by simp only [dOf, Nat.zero_mul, Nat.add_zero]; exact hus⟩ 100 (by kernel_rfl) ?_
  rintro ⟨k', hi, tail, qs⟩ ⟨q1, q2, q3, q4, q5, q6, q7, q8, q9⟩
  simp only [] at q1 q2 q3 q4 q5 q6 q7 q8 q9
  cases k' with
  | zero =>
    have h0 : ((0 : Int) ≤ ((0 : Nat) : Int) - 1) = False := by simp
    have e1 : qs.take m = qs := List.take_of_length_le (by omega)
    have e2 : (hi ++ tail).take (a.length + 1) = hi ++ tail := List.take_of_length_le (by rw [List.length_append]; omega)
    have e3 : ∀ d ∈ hi ++ tail, d < 18446744073709551616 := fun d hd => by
      rcases List.mem_append.1 hd with hd | hd
      · exact q3 d hd
      · rw [q4 d hd]; decide
    obtain ⟨f1, f2⟩ := long_end hu3 hv3 (Nat.two_pow_pos s) (by simpa [dOf] using q9) q8
    simp (maxSteps := 1000000) only [go_sem, Nat.reduceBEq, Nat.reduceAdd, Nat.reduceLT, Nat.reduceMul, Nat.reduceSub, Nat.reduceLeDiff, Nat.reduceEqDiff, Int.reduceToNat, Nat.reduceBeqDiff, Nat.reduceBneDiff, decide_false, and_self, List.reduceReplicate, List.flatten_cons, List.flatten_nil, true_and, and_true, eq_self, decide_true, reduceIte, reduceCtorEq, List.any_toArray, Region.binds, Int.reduceBEq, Int.reduceBNe, Int.reduceLT, h0, e1, e2]
    refine ⟨⟨⟨by omega, q7, by omega⟩, by omega⟩, ⟨⟨by omega, e3, by omega, hs63⟩, by omega⟩, ?_⟩
    rw [dOf_append, dOf_zero q4, Nat.mul_zero, Nat.add_zero, f1, f2]
    exact .refl _
  | succ j =>
    have hju : j < u.length := by omega
    have hpl : (u.take j).length = j := by rw [List.length_take]; omega
    obtain ⟨w, hw⟩ : ∃ w, u.getD j 0 :: hi = w := ⟨_, rfl⟩
    have hZ : u.take (j + 1) ++ (hi ++ tail) = u.take j ++ (w ++ tail) := by rw [take_snoc hju, ← hw]; simp
    have hwl : w.length = n + 2 + 1 := by rw [← hw]; simp [q2]
    have hwd : ∀ d ∈ w, d < 18446744073709551616 := fun d hd => by
      rw [← hw] at hd
      rcases List.mem_cons.1 hd with rfl | hd
      · exact hu2 _ (getD_mem hju)
      · exact q3 d hd
    have hwP : dOf 18446744073709551616 w = u.getD j 0 + 18446744073709551616 * dOf 18446744073709551616 hi := by rw [← hw]; rfl
    have c1 : IntKind.i64.wrap ((j : Int) + ((n + 2 : Nat) : Int)) = ((j + (n + 2) : Nat) : Int) := wi_add _ _ (by omega)
    have c2 := wi_add1 (j + (n + 2)) (by omega)
    have c3 := wi_nat (n + 1) (by omega)
    have c4 : IntKind.i64.wrap (((n + 2 : Nat) : Int) - 2) = ((n : Nat) : Int) := by rw [IntKind.wrap_i64]; omega
    have c5 : (((j + (n + 2) + 1 : Nat) : Int) - (j : Int)).toNat = n + 2 + 1 := by omega
    have g2 := get_pre (tail := tail) hpl (show n + 2 < w.length by omega) rfl
    have g1 := get_pre (tail := tail) hpl (show n + 1 < w.length by omega) rfl
    have g0 := get_pre (tail := tail) hpl (show n < w.length by omega) rfl
    have l2 := len_pre (tail := tail) hpl (show n + 2 < w.length by omega) rfl
    have l1 := len_pre (tail := tail) hpl (show n + 1 < w.length by omega) rfl
    have l0 := len_pre (tail := tail) hpl (show n < w.length by omega) rfl
    have v1 : n + 1 < v.length := by omega
    have v0 : n < v.length := by omega
    have x1 : j + (n + 2) + 1 ≤ a.length + 1 := by omega
    rw [hZ]
    simp (maxSteps := 1000000) only [go_sem, Nat.reduceBEq, Nat.reduceAdd, Nat.reduceLT, Nat.reduceMul, Nat.reduceSub, Nat.reduceLeDiff, Nat.reduceEqDiff, Int.reduceToNat, Nat.reduceBeqDiff, Nat.reduceBneDiff, decide_false, and_self, List.reduceReplicate, List.flatten_cons, List.flatten_nil, true_and, and_true, eq_self, decide_true, reduceIte, reduceCtorEq, List.any_toArray, Region.binds, Int.reduceBEq, Int.reduceBNe, Int.reduceLT, c1, c2, c3, c4, c5, g2, g1, g0, gU l2, gU l1, gU l0, gU v1, gU v0, x1]
    have hP2 := dOf_top2 hi n q2
    have hV2 := dOf_top2 v n hv1
    have hP3 := dOf_top3 w n hwl
    have lowV := dOf_low (n := n) hv2
    have lowP := dOf_low (n := n) hwd
    have lowH := dOf_low (n := n) q3
    have ew2 : w.getD (n + 2) 0 = hi.getD (n + 1) 0 := by rw [← hw]; rfl
    have ew1 : w.getD (n + 1) 0 = hi.getD n 0 := by rw [← hw]; rfl
    have hle : w.getD (n + 2) 0 * 18446744073709551616 + w.getD (n + 1) 0 ≤ v.getD (n + 1) 0 * 18446744073709551616 + v.getD n 0 := by
      rw [ew2, ew1]
      rw [hP2, hV2] at q8
      exact le_of_mul_lt q8 lowV
    have hPV : dOf 18446744073709551616 w < 18446744073709551616 * dOf 18446744073709551616 v := by
      rw [hwP]; exact pv_lt (hu2 _ (getD_mem hju)) q8
    have hvB := ge_B (B := 18446744073709551616) (y := v.getD n 0) hvt
    obtain ⟨d1, d2, d3⟩ := gdig_good hV2 lowV hP3 lowP hvB (by decide) hPV (gdig_eq (w.getD (n + 2) 0) (w.getD (n + 1) 0) (w.getD n 0) (v.getD (n + 1) 0) (v.getD n 0))
    have hgc : guessC (w.getD (n + 2) 0) (w.getD (n + 1) 0) (w.getD n 0) (v.getD (n + 1) 0) (v.getD n 0) :=
      ⟨hwd _ (getD_mem (by omega)), hwd _ (getD_mem (by omega)), hwd _ (getD_mem (by omega)), hv2 _ (getD_mem (by omega)), hv2 _ (getD_mem (by omega)), hle, hvt⟩
    refine ⟨⟨.inr (by omega), by omega⟩, by omega, by rw [hpl]; omega, by omega, by rw [hpl]; omega, by omega, by rw [hpl]; omega, by omega, by omega, by omega, by omega, hgc, ?_⟩
    clear hgc g2 g1 g0 l2 l1 l0 hP2 hV2 hP3 lowV lowP lowH ew2 ew1 hle hPV hvB
    generalize gdig (w.getD (n + 2) 0) (w.getD (n + 1) 0) (w.getD n 0) (v.getD (n + 1) 0) (v.getD n 0) = d at *
    have hVn : dOf 18446744073709551616 v < 18446744073709551616 ^ (n + 2 + 1) := by
      have h1 := dOf_lt 18446744073709551616 v hv2
      rw [hv1] at h1
      exact Nat.lt_of_lt_of_le h1 (Nat.pow_le_pow_right (by decide) (by omega))
    have hrep : ∀ x, (List.replicate (j + 1) 0 ++ qs).set j x = List.replicate j 0 ++ (x :: qs) := fun x => by
      rw [List.replicate_succ', List.append_assoc]; exact set_app (List.length_replicate)
    have hjl : j < j + 1 + qs.length := by omega
    have hjq : j < (List.replicate (j + 1) 0 ++ qs).length := by simp; omega
    have hjm : j < m := by omega
    have hwj := wi_pred' j (by omega)
    have fin : ∀ (w2 : List Nat) (d' : Nat), w2.length = n + 2 + 1 → (∀ d ∈ w2, d < 18446744073709551616) → d' < 18446744073709551616 → dOf 18446744073709551616 w2 < dOf 18446744073709551616 v → dOf 18446744073709551616 w2 + d' * dOf 18446744073709551616 v = dOf 18446744073709551616 w → ∀ St', Kept [67, 42, 18, 1, 0] St' ⟨upd (upd (upd (upd (upd (upd (upd (upd (fun _ => .junk) 4 (.ref 0 0)) 5 (.ref 1 0)) 6 (.int .i64 ((n + 2 : Nat) : Int))) 7 (.int .i64 (s : Int))) 8 (.sl 18 0 (n + 2) 1)) 9 (.sl 42 0 (a.length + 1) 1)) 11 (.sl 67 0 m 1)) 12 (.int .i64 ((j : Int) - 1)), upd (upd (upd (upd (upd (fun _ => .unused) 0 (.live [.int .u64 0, .nils])) 1 (.live [.int .u64 0, .nils])) 18 (.live (List.map (fun d : Nat => AV.int .u64 (d : Int)) (v)))) 42 (.live (List.map (fun d : Nat => AV.int .u64 (d : Int)) (u.take j ++ (w2 ++ tail))))) 67 (.live (List.map (fun d : Nat => AV.int .u64 (d : Int)) (List.replicate j 0 ++ (d' :: qs)))), 100⟩ →
        ∃ q : Nat × List Nat × List Nat × List Nat, Kept [67, 42, 18, 1, 0] St' ⟨upd (upd (upd (upd (upd (upd (upd (upd (fun _ => .junk) 4 (.ref 0 0)) 5 (.ref 1 0)) 6 (.int .i64 ((n + 2 : Nat) : Int))) 7 (.int .i64 (s : Int))) 8 (.sl 18 0 (n + 2) 1)) 9 (.sl 42 0 (a.length + 1) 1)) 11 (.sl 67 0 m 1)) 12 (.int .i64 ((q.1 : Int) - 1)), upd (upd (upd (upd (upd (fun _ => .unused) 0 (.live [.int .u64 0, .nils])) 1 (.live [.int .u64 0, .nils])) 18 (.live (List.map (fun d : Nat => AV.int .u64 (d : Int)) (v)))) 42 (.live (List.map (fun d : Nat => AV.int .u64 (d : Int)) (u.take q.1 ++ (q.2.1 ++ q.2.2.1))))) 67 (.live (List.map (fun d : Nat => AV.int .u64 (d : Int)) (List.replicate q.1 0 ++ q.2.2.2))), 100⟩ ∧ (q.1 ≤ m ∧ q.2.1.length = n + 2 ∧ (∀ d ∈ q.2.1, d < 18446744073709551616) ∧ (∀ d ∈ q.2.2.1, d = 0) ∧ q.2.2.1.length + q.1 = m ∧ q.2.2.2.length + q.1 = m ∧ (∀ d ∈ q.2.2.2, d < 18446744073709551616) ∧ dOf 18446744073709551616 q.2.1 < dOf 18446744073709551616 v ∧ dOf 18446744073709551616 u = dOf 18446744073709551616 (u.take q.1) + 18446744073709551616 ^ q.1 * (dOf 18446744073709551616 q.2.1 + dOf 18446744073709551616 q.2.2.2 * dOf 18446744073709551616 v)) ∧ q.1 < j + 1 := by
      intro w2 d' k1 k2 k3 k4 k5 St' hk
      have z1 := dOf_top w2 (n + 2) k1
      have z2 : w2.getD (n + 2) 0 = 0 := by
        rcases Nat.eq_zero_or_pos (w2.getD (n + 2) 0) with h | h
        · exact h
        · have h1 : 18446744073709551616 ^ (n + 2) * 1 ≤ 18446744073709551616 ^ (n + 2) * w2.getD (n + 2) 0 := Nat.mul_le_mul_left _ h
          have h2 := dOf_lt 18446744073709551616 v hv2
          rw [hv1] at h2; omega
      rw [z2, Nat.mul_zero, Nat.add_zero] at z1
      have z3 : w2 = w2.take (n + 2) ++ [0] := by
        conv => lhs; rw [← List.take_of_length_le (Nat.le_of_eq k1), take_snoc (by omega), z2]
      refine ⟨(j, w2.take (n + 2), 0 :: tail, d' :: qs), ?_, ⟨by simp only []; omega, by simp only [List.length_take]; omega, fun d hd => k2 d (List.mem_of_mem_take hd), ?_, by simp only [List.length_cons]; omega, by simp only [List.length_cons]; omega, ?_, by simp only []; rw [← z1]; exact k4, ?_⟩, by simp only []; omega⟩
      · have e : w2 ++ tail = w2.take (n + 2) ++ (0 :: tail) := by
          conv => lhs; rw [z3]
          rw [List.append_assoc]; rfl
        rw [e] at hk; exact hk
      · intro d hd
        rcases List.mem_cons.1 hd with rfl | hd
        · rfl
        · exact q4 d hd
      · intro d hd
        rcases List.mem_cons.1 hd with rfl | hd
        · exact k3
        · exact q7 d hd
      · simp only []
        rw [dOf_take_succ 18446744073709551616 u j hju, Nat.pow_succ] at q9
        rw [hwP] at k5
        rw [← z1]
        have := long_step q9 k5
        simp only [dOf]; exact this
    refine away_ic hP (L := [67, 42, 18, 1, 0]) (by repeat (first | exact GenM.nil | refine GenM.upd ?_ rfl (by first | rfl | exact objOnly_U))) rfl rfl rfl rfl rfl hpl hwl hv1 (by omega) hwd hv2 d1 ?_
    intro nx w1 b1 r1 r2 r3 r4
    have hw1n : dOf 18446744073709551616 w1 < 18446744073709551616 ^ (n + 2 + 1) := by have := dOf_lt 18446744073709551616 w1 r2; rwa [r1] at this
    simp (maxSteps := 1000000) only [go_sem, Nat.reduceBEq, Nat.reduceAdd, Nat.reduceLT, Nat.reduceMul, Nat.reduceSub, Nat.reduceLeDiff, Nat.reduceEqDiff, Int.reduceToNat, Nat.reduceBeqDiff, Nat.reduceBneDiff, decide_false, and_self, List.reduceReplicate, List.flatten_cons, List.flatten_nil, true_and, and_true, eq_self, decide_true, reduceIte, reduceCtorEq, List.any_toArray, Region.binds, Int.reduceBEq, Int.reduceBNe, Int.reduceLT]
    refine if_split (fun hc => ?_) (fun hc => ?_)
    · have hc : b1 ≠ 0 := by simpa using hc
      obtain ⟨hb1, d', rfl⟩ := away_pos r4 r3 hc hw1n
      have hu := u_nat d' (by omega)
      simp (maxSteps := 1000000) only [go_sem, Nat.reduceBEq, Nat.reduceAdd, Nat.reduceLT, Nat.reduceMul, Nat.reduceSub, Nat.reduceLeDiff, Nat.reduceEqDiff, Int.reduceToNat, Nat.reduceBeqDiff, Nat.reduceBneDiff, decide_false, and_self, List.reduceReplicate, List.flatten_cons, List.flatten_nil, true_and, and_true, eq_self, decide_true, reduceIte, reduceCtorEq, List.any_toArray, Region.binds, Int.reduceBEq, Int.reduceBNe, Int.reduceLT, hu]
      refine back_ic hP (L := [67, 42, 18, 1, 0]) (by repeat (first | exact GenM.nil | refine GenM.upd ?_ rfl (by first | rfl | exact objOnly_U))) rfl rfl rfl rfl rfl hpl r1 hv1 (by omega) r2 hv2 ?_
      intro nx2 w2 c2' t1 t2 t3 t4
      have hw2n : dOf 18446744073709551616 w2 < 18446744073709551616 ^ (n + 2 + 1) := by have := dOf_lt 18446744073709551616 w2 t2; rwa [t1] at this
      obtain ⟨d'', hd'', s8, s9⟩ := away_much r4 hb1 hw1n d2 t3 t4 hVn hw2n
      obtain rfl : d' = d'' := by omega
      simp (maxSteps := 1000000) only [go_sem, Nat.reduceBEq, Nat.reduceAdd, Nat.reduceLT, Nat.reduceMul, Nat.reduceSub, Nat.reduceLeDiff, Nat.reduceEqDiff, Int.reduceToNat, Nat.reduceBeqDiff, Nat.reduceBneDiff, decide_false, and_self, List.reduceReplicate, List.flatten_cons, List.flatten_nil, true_and, and_true, eq_self, decide_true, reduceIte, reduceCtorEq, List.any_toArray, Region.binds, Int.reduceBEq, Int.reduceBNe, Int.reduceLT, hrep, hjl, hjm, hwj, gU hjq]
      refine fin w2 d' t1 t2 (by omega) s8 s9 _ ?_
      exact Kept.of rfl (by repeat (first | exact KT.nil | refine KT.upd rfl (by first | rfl | exact hr | exact hr2 | (simp only [go_sem]; done)) ?_)) (KM.p (by repeat (first | exact KMp.nil | refine KMp.upd rfl (by first | rfl | (simp only [go_sem]; done)) ?_)))
    · have hc : b1 = 0 := by simpa using hc
      obtain ⟨s8, s9⟩ := away_none r4 hc d3
      simp (maxSteps := 1000000) only [go_sem, Nat.reduceBEq, Nat.reduceAdd, Nat.reduceLT, Nat.reduceMul, Nat.reduceSub, Nat.reduceLeDiff, Nat.reduceEqDiff, Int.reduceToNat, Nat.reduceBeqDiff, Nat.reduceBneDiff, decide_false, and_self, List.reduceReplicate, List.flatten_cons, List.flatten_nil, true_and, and_true, eq_self, decide_true, reduceIte, reduceCtorEq, List.any_toArray, Region.binds, Int.reduceBEq, Int.reduceBNe, Int.reduceLT, hrep, hjl, hjm, hwj, gU hjq]
      refine fin w1 d r1 r2 d1 s8 s9 _ ?_
      exact Kept.of rfl (by repeat (first | exact KT.nil | refine KT.upd rfl (by first | rfl | exact hr | exact hr2 | (simp only [go_sem]; done)) ?_)) (KM.p (by repeat (first | exact KMp.nil | refine KMp.upd rfl (by first | rfl | (simp only [go_sem]; done)) ?_)))
end Go.Proofs.Ytlgimmafejbmgaa.AM
