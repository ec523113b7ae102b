/- Package nat: digits shifted. -/
import Derived.Test.YtlgimmafejbmgaaNi
namespace Go.Proofs.Ytlgimmafejbmgaa.AM
set_option linter.all false
set_option autoImplicit true
set_option relaxedAutoImplicit true
open Go Go.Proofs
set_option maxRecDepth 100000
set_option maxHeartbeats 8000000
set_option linter.unusedSimpArgs false
variable {P : Program}

theorem pow64 {s : Nat} (hs : s ≤ 64) : (2 : Nat) ^ (64 - s) * 2 ^ s = 18446744073709551616 := by rw [← Nat.pow_add, show 64 - s + s = 64 by omega]
theorem shl_mod (d s : Nat) (hs : s ≤ 64) : d * 2 ^ s % 18446744073709551616 = d % 2 ^ (64 - s) * 2 ^ s := by rw [← pow64 hs, Nat.mul_mod_mul_right]
theorem shl_all (d s : Nat) (hs : s ≤ 64) : d * 2 ^ s % 18446744073709551616 + 18446744073709551616 * (d / 2 ^ (64 - s)) = d * 2 ^ s := by
  have := Nat.mod_add_div d (2 ^ (64 - s))
  rw [shl_mod d s hs]
  conv => rhs; rw [← this]
  rw [Nat.add_mul]; congr 1
  rw [← pow64 hs, Nat.mul_right_comm]
theorem shr_lt {d s : Nat} (hs : s ≤ 64) (hd : d < 18446744073709551616) : d / 2 ^ (64 - s) < 2 ^ s := by
  rw [Nat.div_lt_iff_lt_mul (Nat.two_pow_pos _), Nat.mul_comm, pow64 hs]; exact hd
theorem wu_shl (d s : Nat) : IntKind.u64.wrap ((d : Int) * 2 ^ s) = ((d * 2 ^ s % 18446744073709551616 : Nat) : Int) := by
  rw [show (d : Int) * 2 ^ s = ((d * 2 ^ s : Nat) : Int) by simp, IntKind.wrap_u64]; generalize d * 2 ^ s = c; omega
theorem or_up {d c s : Nat} (hs : s ≤ 64) (hc : c < 2 ^ s) : IntKind.u64.wrap (((BitVec.ofInt 64 ((d * 2 ^ s % 18446744073709551616 : Nat) : Int) ||| BitVec.ofInt 64 (c : Int)).toNat : Nat) : Int) = ((d * 2 ^ s % 18446744073709551616 + c : Nat) : Int) := by
  rw [shl_mod d s hs]
  refine or64 _ _ _ ?_ hc hs
  rw [← shl_mod d s hs]; exact Nat.mod_lt _ (by decide)
theorem or_dn {b x t : Nat} (ht : t ≤ 64) (hb : b < 2 ^ t) : IntKind.u64.wrap (((BitVec.ofInt 64 (b : Int) ||| BitVec.ofInt 64 ((x * 2 ^ t % 18446744073709551616 : Nat) : Int)).toNat : Nat) : Int) = ((x * 2 ^ t % 18446744073709551616 + b : Nat) : Int) := by
  rw [BitVec.or_comm]; exact or_up ht hb
theorem or_up_lt {d c s : Nat} (hs : s ≤ 64) (hc : c < 2 ^ s) : d * 2 ^ s % 18446744073709551616 + c < 18446744073709551616 := by
  rw [shl_mod d s hs]
  have h1 : d % 2 ^ (64 - s) + 1 ≤ 2 ^ (64 - s) := Nat.mod_lt _ (Nat.two_pow_pos _)
  have h2 := Nat.mul_le_mul_right (2 ^ s) h1
  rw [pow64 hs, Nat.add_mul, Nat.one_mul] at h2
  omega
theorem rep_get {done : List Nat} {n k : Nat} (hd : done.length = k) (hk : k < n) : (done ++ List.replicate (n - k) 0).getD k 0 = 0 := by
  obtain ⟨j, hj⟩ : ∃ j, n - k = j + 1 := ⟨n - k - 1, by omega⟩
  rw [hj, List.replicate_succ]; exact get_app (R := List.replicate j 0) hd
theorem rep_set {done : List Nat} {n k s : Nat} (hd : done.length = k) (hk : k < n) : (done ++ List.replicate (n - k) 0).set k s = (done ++ [s]) ++ List.replicate (n - (k + 1)) 0 := by
  obtain ⟨j, hj⟩ : ∃ j, n - k = j + 1 := ⟨n - k - 1, by omega⟩
  rw [hj, List.replicate_succ, show n - (k + 1) = j by omega, List.append_assoc]; exact set_app (R := List.replicate j 0) hd
theorem rep_len {done : List Nat} {n k : Nat} (hd : done.length = k) (hk : k < n) : k < (done ++ List.replicate (n - k) 0).length := by simp; omega
theorem sn_get {done R : List Nat} {x k : Nat} (hd : done.length = k) : ((done ++ [x]) ++ R).getD k 0 = x := by rw [List.append_assoc]; exact get_app hd
theorem sn_set {done R : List Nat} {x k s : Nat} (hd : done.length = k) : ((done ++ [x]) ++ R).set k s = (done ++ [s]) ++ R := by
  rw [List.append_assoc, set_app hd, List.append_assoc]; rfl
theorem sn_len {done R : List Nat} {x k : Nat} (hd : done.length = k) : k < ((done ++ [x]) ++ R).length := by simp; omega
/-- What is carried into the digit number k. -/
def cup (d : List Nat) (s k : Nat) : Nat := if k = 0 then 0 else d.getD (k - 1) 0 / 2 ^ (64 - s)
theorem cup_lt {d : List Nat} {s k : Nat} (hs : s ≤ 64) (hd : ∀ x ∈ d, x < 18446744073709551616) : cup d s k < 2 ^ s := by
  unfold cup; split
  · exact Nat.two_pow_pos _
  · refine shr_lt hs ?_
    by_cases h : k - 1 < d.length
    · exact hd _ (getD_mem h)
    · rw [List.getD_eq_getElem?_getD, List.getElem?_eq_none (by omega)]; simp
theorem up_step {p D V z c x a c' : Nat} {t : Nat} (h : D + p * c = V * t) (h1 : a + 18446744073709551616 * c' = x * t) (hz : z = a + c) : D + p * z + p * 18446744073709551616 * c' = (V + p * x) * t := by
  have e2 := congrArg (p * ·) h1
  simp only [Nat.mul_add, ← Nat.mul_assoc] at e2
  rw [hz, Nat.add_mul, Nat.mul_add]; omega
theorem up_ic (hP : PrgOk P) {L : List Nat} {m : Nat → AObj} {K : Nat → AV → (Nat → AObj) → Prop} {r nx0 N : Nat} {d : List Nat} {s n : Nat} (hm : GenM L m) (hr : L.contains r = true) (hmr : m r = .unused) (hrn : nx0 + 1 + 1 = r) (hn3 : n ≤ 1099511627776) (hn : d.length ≤ n) (hn1 : n ≤ d.length + 1) (hd0 : d ≠ []) (hd : ∀ x ∈ d, x < 18446744073709551616) (hs : s ≤ 63)
    (k : ∀ (w : List Nat), w.length = n → (∀ d ∈ w, d < 18446744073709551616) → dOf 18446744073709551616 w + 18446744073709551616 ^ n * cup d s n = dOf 18446744073709551616 d * 2 ^ s → K N (.sl r 0 n 1) (upd m r (.live (List.map (fun d : Nat => AV.int .u64 (d : Int)) (w))))) :
    icX (ICall P) 57 [.imm d.length (List.map (fun d : Nat => AV.int .u64 (d : Int)) (d)), .int .i64 (s : Int), .int .i64 (n : Int)] m (K := ⟨K⟩) := by
  have HE := Sc_ok hP
  refine icX_any N (icX_vc (E := ⟨T0, Sc⟩) (fn57 hP) HE hP.mix rfl (by first | rfl | (simp only [go_sem]; done)) (Nat.le_of_ble_eq_true rfl) nx0 ?_)
  simp (maxSteps := 1000000) only [go_sem, Nat.reduceBEq, Nat.reduceAdd, Nat.reduceLT, Nat.reduceMul, Nat.reduceSub, Nat.reduceLeDiff, Nat.reduceEqDiff, Int.reduceToNat, Nat.reduceBeqDiff, Nat.reduceBneDiff, decide_false, and_self, List.reduceReplicate, List.flatten_cons, List.flatten_nil, true_and, and_true, eq_self, decide_true, reduceIte, reduceCtorEq, List.any_toArray, Region.binds, Int.reduceBEq, Int.reduceBNe, Int.reduceLT, hmr, hn3, hrn]
  refine trX_loop HE hP.mix L (fun q : Nat × List Nat => ⟨upd (upd (upd (upd (upd (upd (fun _ => .junk) 0 (.imm d.length (List.map (fun d : Nat => AV.int .u64 (d : Int)) (d)))) 1 (.int .i64 (s : Int))) 6 .nils) 7 (.sl r 0 n 1)) 12 (.int .i64 (n : Int))) 13 (.int .i64 (q.1 : Int)), upd m r (.live (List.map (fun d : Nat => AV.int .u64 (d : Int)) (q.2 ++ List.replicate (n - q.1) 0))), 57⟩)
    (fun q => q.1 ≤ n ∧ q.2.length = q.1 ∧ (∀ x ∈ q.2, x < 18446744073709551616) ∧ dOf 18446744073709551616 q.2 + 18446744073709551616 ^ q.1 * cup d s q.1 = dOf 18446744073709551616 (d.take q.1) * 2 ^ s) (fun q => n - q.1) (0, []) 0
    (hm.upd hr objOnly_U).1 (Kept.of rfl (by repeat (first | exact KT.nil | refine KT.upd rfl (by first | rfl | exact hr | exact hr2 | (simp only [go_sem]; done)) ?_)) (KM.gen (hm.upd hr objOnly_U))) ⟨by simp, by simp, by simp, by simp [dOf, cup]⟩ 57 (by kernel_rfl) ?_
  rintro ⟨i, dn⟩ ⟨q1, q2, q3, q4⟩
  simp only [] at q1 q2 q3 q4
  have hcl := cup_lt (k := i) (show s ≤ 64 by omega) hd
  by_cases hi : i < n
  · have hwi := wi_add1 i (by omega)
    have hnl : i < dn.length + (n - i) := by omega
    have hget := rep_get q2 hi
    have hset : ∀ x, (dn ++ List.replicate (n - i) 0).set i x = (dn ++ [x]) ++ List.replicate (n - (i + 1)) 0 := fun x => rep_set q2 hi
    have hlen := rep_len q2 hi
    have hsm : min s 64 = s := by omega
    have hlt := or_up_lt (d := d.getD i 0) (show s ≤ 64 by omega) hcl
    have hlt0 : d.getD i 0 * 2 ^ s % 18446744073709551616 < 18446744073709551616 := Nat.mod_lt _ (by decide)
    have fin : ∀ z, z = d.getD i 0 * 2 ^ s % 18446744073709551616 + cup d s i → z < 18446744073709551616 ∧ (∀ x ∈ dn ++ [z], x < 18446744073709551616) ∧ dOf 18446744073709551616 (dn ++ [z]) + 18446744073709551616 ^ (i + 1) * cup d s (i + 1) = dOf 18446744073709551616 (d.take (i + 1)) * 2 ^ s := fun z hz => by
      refine ⟨by omega, ?_, ?_⟩
      · intro x hx
        rcases List.mem_append.1 hx with hx | hx
        · exact q3 x hx
        · rw [List.mem_singleton.1 hx]; omega
      · have h1 := shl_all (d.getD i 0) s (by omega)
        have h2 := up_step q4 h1 hz
        have h3 : cup d s (i + 1) = d.getD i 0 / 2 ^ (64 - s) := by unfold cup; rw [if_neg (by omega), Nat.add_sub_cancel]
        rw [h3, dOf_snoc, q2, Nat.pow_succ]
        refine h2.trans ?_
        by_cases hl : i < d.length
        · rw [dOf_take_succ 18446744073709551616 d i hl]
        · rw [List.take_of_length_le (show d.length ≤ i by omega), List.take_of_length_le (show d.length ≤ i + 1 by omega), List.getD_eq_getElem?_getD, List.getElem?_eq_none (by omega)]; simp
    have hfin : ∀ z, z = d.getD i 0 * 2 ^ s % 18446744073709551616 + cup d s i → ∀ St', Kept L St' ⟨upd (upd (upd (upd (upd (upd (fun _ => .junk) 0 (.imm d.length (List.map (fun d : Nat => AV.int .u64 (d : Int)) (d)))) 1 (.int .i64 (s : Int))) 6 .nils) 7 (.sl r 0 n 1)) 12 (.int .i64 (n : Int))) 13 (.int .i64 ((i + 1 : Nat) : Int)), upd m r (.live (List.map (fun d : Nat => AV.int .u64 (d : Int)) ((dn ++ [z]) ++ List.replicate (n - (i + 1)) 0))), 57⟩ → ∃ x : Nat × List Nat, Kept L St' ⟨upd (upd (upd (upd (upd (upd (fun _ => .junk) 0 (.imm d.length (List.map (fun d : Nat => AV.int .u64 (d : Int)) (d)))) 1 (.int .i64 (s : Int))) 6 .nils) 7 (.sl r 0 n 1)) 12 (.int .i64 (n : Int))) 13 (.int .i64 (x.1 : Int)), upd m r (.live (List.map (fun d : Nat => AV.int .u64 (d : Int)) (x.2 ++ List.replicate (n - x.1) 0))), 57⟩ ∧ (x.1 ≤ n ∧ x.2.length = x.1 ∧ (∀ y ∈ x.2, y < 18446744073709551616) ∧ dOf 18446744073709551616 x.2 + 18446744073709551616 ^ x.1 * cup d s x.1 = dOf 18446744073709551616 (d.take x.1) * 2 ^ s) ∧ n - x.1 < n - i := fun z hz St' hk => by
      obtain ⟨z1, z2, z3⟩ := fin z hz
      exact ⟨(i + 1, dn ++ [z]), hk, ⟨by simp only []; omega, by simp only [List.length_append, List.length_singleton]; omega, z2, z3⟩, by simp only []; omega⟩
    have hle : i ≤ d.length := by omega
    have hwk : (∀ a, GenM L (upd m r (.live (List.map (fun d : Nat => AV.int .u64 (d : Int)) (dn ++ [a] ++ List.replicate (n - (i + 1)) 0))))) := fun a => hm.upd hr objOnly_U
    obtain ⟨a, haa⟩ : ∃ a, d.getD i 0 * 2 ^ s % 18446744073709551616 = a := ⟨_, rfl⟩
    have hshl := wu_shl (d.getD i 0) s
    rw [haa] at hshl hfin hlt hlt0
    have hset2 : ∀ x, ((dn ++ [a]) ++ List.replicate (n - (i + 1)) 0).set i x = (dn ++ [x]) ++ List.replicate (n - (i + 1)) 0 := fun x => sn_set q2
    have hget2 : ((dn ++ [a]) ++ List.replicate (n - (i + 1)) 0).getD i 0 = a := sn_get q2
    have hlen2 : i < ((dn ++ [a]) ++ List.replicate (n - (i + 1)) 0).length := sn_len q2
    have hnl2 : i < dn.length + (1 + (n - (i + 1))) := by omega
    have hnl3 : i < dn.length + 1 + (n - (i + 1)) := by omega
    cases i with
    | zero =>
      have hl : 0 < d.length := List.length_pos_iff.2 hd0
      have hz := hfin a (by simp [cup])
      have hl0 : 0 < d.length := hl
      simp only [Nat.sub_zero, Nat.zero_add] at hset hget hlen hnl hnl2 hset2 hget2 hlen2 hnl3 hz hwk hwi
      simp (maxSteps := 1000000) only [go_sem, Nat.reduceBEq, Nat.reduceAdd, Nat.reduceLT, Nat.reduceMul, Nat.reduceSub, Nat.reduceLeDiff, Nat.reduceEqDiff, Int.reduceToNat, Nat.reduceBeqDiff, Nat.reduceBneDiff, decide_false, and_self, List.reduceReplicate, List.flatten_cons, List.flatten_nil, true_and, and_true, eq_self, decide_true, reduceIte, reduceCtorEq, List.any_toArray, Region.binds, Int.reduceBEq, Int.reduceBNe, Int.reduceLT, hi, hl, hwi, hnl, hset, hget, hlen, gU hlen, hsm, hshl, gU hl, upd_upd]
      exact hz _ (Kept.of rfl (by repeat (first | exact KT.nil | refine KT.upd rfl (by first | rfl | exact hr | exact hr2 | (simp only [go_sem]; done)) ?_)) (KM.gen (hwk a)))
    | succ j =>
      have hj : j < d.length := by omega
      have hj2 : j ≤ d.length := by omega
      have hwj := wi_nat j (by omega)
      have hw64 : IntKind.i64.wrap (64 - (s : Int)) = ((64 - s : Nat) : Int) := by rw [IntKind.wrap_i64]; omega
      have hm64 : min (64 - s) 64 = 64 - s := by omega
      have hcup : cup d s (j + 1) = d.getD j 0 / 2 ^ (64 - s) := by unfold cup; rw [if_neg (by omega), Nat.add_sub_cancel]
      have hor : IntKind.u64.wrap (((BitVec.ofInt 64 (a : Int) ||| BitVec.ofInt 64 ((cup d s (j + 1) : Nat) : Int)).toNat : Nat) : Int) = ((a + cup d s (j + 1) : Nat) : Int) := by rw [← haa]; exact or_up (show s ≤ 64 by omega) hcl
      rw [hcup] at hor hcl hlt hfin
      obtain ⟨c, hcc⟩ : ∃ c, d.getD j 0 / 2 ^ (64 - s) = c := ⟨_, rfl⟩
      rw [hcc] at hor hcl hlt hfin
      obtain ⟨z, hzz⟩ : ∃ z, a + c = z := ⟨_, rfl⟩
      rw [hzz] at hor hfin hlt
      have hz := hfin z rfl
      by_cases hs0 : 0 < s
      · by_cases hl : j + 1 < d.length
        · simp (maxSteps := 1000000) only [go_sem, Nat.reduceBEq, Nat.reduceAdd, Nat.reduceLT, Nat.reduceMul, Nat.reduceSub, Nat.reduceLeDiff, Nat.reduceEqDiff, Int.reduceToNat, Nat.reduceBeqDiff, Nat.reduceBneDiff, decide_false, and_self, List.reduceReplicate, List.flatten_cons, List.flatten_nil, true_and, and_true, eq_self, decide_true, reduceIte, reduceCtorEq, List.any_toArray, Region.binds, Int.reduceBEq, Int.reduceBNe, Int.reduceLT, hi, hl, hle, hwi, hwj, hw64, hm64, hnl, hnl2, hnl3, hset, hset2, hget, hget2, hlen, hlen2, hsm, hs0, hshl, gU' hl, gU' hj, hj, hj2, gU hlen, gU hlen2, fd_pow, hcc, or_fix, hor, upd_upd, List.any_toArray, Region.binds]
          exact hz _ (Kept.of rfl (by repeat (first | exact KT.nil | refine KT.upd rfl (by first | rfl | exact hr | exact hr2 | (simp only [go_sem]; done)) ?_)) (KM.gen (hwk z)))
        · have ha0 : a = 0 := by rw [← haa, List.getD_eq_getElem?_getD, List.getElem?_eq_none (by omega)]; simp
          subst ha0
          simp (maxSteps := 1000000) only [go_sem, Nat.reduceBEq, Nat.reduceAdd, Nat.reduceLT, Nat.reduceMul, Nat.reduceSub, Nat.reduceLeDiff, Nat.reduceEqDiff, Int.reduceToNat, Nat.reduceBeqDiff, Nat.reduceBneDiff, decide_false, and_self, List.reduceReplicate, List.flatten_cons, List.flatten_nil, true_and, and_true, eq_self, decide_true, reduceIte, reduceCtorEq, List.any_toArray, Region.binds, Int.reduceBEq, Int.reduceBNe, Int.reduceLT, hi, hl, hle, hwi, hwj, hw64, hm64, hnl, hnl2, hnl3, hset, hset2, hget, hget2, hlen, hlen2, hsm, hs0, gU' hj, hj, hj2, gU hlen, gU hlen2, fd_pow, hcc, or_fix, hor, upd_upd, List.any_toArray, Region.binds]
          exact hz _ (Kept.of rfl (by repeat (first | exact KT.nil | refine KT.upd rfl (by first | rfl | exact hr | exact hr2 | (simp only [go_sem]; done)) ?_)) (KM.gen (hwk z)))
      · have hs00 : s = 0 := by omega
        have hc0 : c = 0 := by
          rw [← hcc, hs00]
          exact Nat.div_eq_of_lt (hd _ (getD_mem hj))
        have hza : z = a := by omega
        subst hza
        by_cases hl : j + 1 < d.length
        · simp (maxSteps := 1000000) only [go_sem, Nat.reduceBEq, Nat.reduceAdd, Nat.reduceLT, Nat.reduceMul, Nat.reduceSub, Nat.reduceLeDiff, Nat.reduceEqDiff, Int.reduceToNat, Nat.reduceBeqDiff, Nat.reduceBneDiff, decide_false, and_self, List.reduceReplicate, List.flatten_cons, List.flatten_nil, true_and, and_true, eq_self, decide_true, reduceIte, reduceCtorEq, List.any_toArray, Region.binds, Int.reduceBEq, Int.reduceBNe, Int.reduceLT, hi, hl, hle, hwi, hwj, hnl, hnl2, hnl3, hset, hget, hlen, hsm, hs0, hshl, gU' hl, gU hlen, upd_upd]
          exact hz _ (Kept.of rfl (by repeat (first | exact KT.nil | refine KT.upd rfl (by first | rfl | exact hr | exact hr2 | (simp only [go_sem]; done)) ?_)) (KM.gen (hwk z)))
        · have ha0 : z = 0 := by rw [← haa, List.getD_eq_getElem?_getD, List.getElem?_eq_none (by omega)]; simp
          have hrs : dn ++ List.replicate (n - (j + 1)) 0 = (dn ++ [z]) ++ List.replicate (n - (j + 1 + 1)) 0 := by
            rw [ha0, show n - (j + 1) = n - (j + 1 + 1) + 1 by omega, List.replicate_succ, List.append_assoc]; rfl
          simp (maxSteps := 1000000) only [go_sem, Nat.reduceBEq, Nat.reduceAdd, Nat.reduceLT, Nat.reduceMul, Nat.reduceSub, Nat.reduceLeDiff, Nat.reduceEqDiff, Int.reduceToNat, Nat.reduceBeqDiff, Nat.reduceBneDiff, decide_false, and_self, List.reduceReplicate, List.flatten_cons, List.flatten_nil, true_and, and_true, eq_self, decide_true, reduceIte, reduceCtorEq, List.any_toArray, Region.binds, Int.reduceBEq, Int.reduceBNe, Int.reduceLT, hi, hl, hle, hwi, hwj, hsm, hs0]
          rw [hrs]
          exact hz _ (Kept.of rfl (by repeat (first | exact KT.nil | refine KT.upd rfl (by first | rfl | exact hr | exact hr2 | (simp only [go_sem]; done)) ?_)) (KM.gen (hwk z)))
  · simp (maxSteps := 1000000) only [go_sem, Nat.reduceBEq, Nat.reduceAdd, Nat.reduceLT, Nat.reduceMul, Nat.reduceSub, Nat.reduceLeDiff, Nat.reduceEqDiff, Int.reduceToNat, Nat.reduceBeqDiff, Nat.reduceBneDiff, decide_false, and_self, List.reduceReplicate, List.flatten_cons, List.flatten_nil, true_and, and_true, eq_self, decide_true, reduceIte, reduceCtorEq, List.any_toArray, Region.binds, Int.reduceBEq, Int.reduceBNe, Int.reduceLT, hi]
    have hie : i = n := by omega
    have e1 : d.take i = d := List.take_of_length_le (by omega)
    rw [e1, hie] at q4
    rw [hie, Nat.sub_self, List.replicate_zero, List.append_nil]
    exact k dn (by omega) q3 q4
end Go.Proofs.Ytlgimmafejbmgaa.AM
