/- Package nat: digits shifted back. -/
import Derived.Test.YtlgimmafejbmgaaNj
namespace Go.Proofs.Ytlgimmafejbmgaa.AM
set_option linter.all false
set_option autoImplicit true
set_option relaxedAutoImplicit true
open Go Go.Proofs
set_option maxRecDepth 100000
set_option maxHeartbeats 8000000
set_option linter.unusedSimpArgs false
variable {P : Program}

def edn (l : List Nat) (s k : Nat) : Nat := l.getD k 0 % 2 ^ s
theorem dn_digit {s x y : Nat} (hs : s ≤ 64) : (y * 2 ^ (64 - s) % 18446744073709551616 + x / 2 ^ s) * 2 ^ s + x % 2 ^ s = x + 18446744073709551616 * (y % 2 ^ s) := by
  rw [shl_mod y (64 - s) (by omega), show 64 - (64 - s) = s by omega, Nat.add_mul, Nat.mul_assoc, pow64 hs]
  have := Nat.mod_add_div x (2 ^ s)
  rw [Nat.mul_comm (x / 2 ^ s)]
  omega
theorem dn_digit0 {s x : Nat} : (x / 2 ^ s) * 2 ^ s + x % 2 ^ s = x + 18446744073709551616 * 0 := by
  have := Nat.mod_add_div x (2 ^ s)
  rw [Nat.mul_comm (x / 2 ^ s)]
  omega
theorem dn_step {p D W e0 e e' z x t : Nat} (h : D * t + e0 = W + p * e) (h1 : z * t + e = x + 18446744073709551616 * e') : (D + p * z) * t + e0 = W + p * x + p * 18446744073709551616 * e' := by
  have e2 := congrArg (p * ·) h1
  simp only [Nat.mul_add, ← Nat.mul_assoc] at e2
  rw [Nat.add_mul]; omega
theorem dn_end {D W e0 t : Nat} (h : D * t + e0 = W) (he : e0 < t) : D = W / t := by
  refine (Nat.div_eq_of_lt_le ?_ ?_).symm
  · omega
  · rw [Nat.add_mul]; omega
theorem getD_ge {l : List Nat} {k : Nat} (h : l.length ≤ k) : l.getD k 0 = 0 := by
  rw [List.getD_eq_getElem?_getD, List.getElem?_eq_none h]; rfl

theorem down_spec (hP : PrgOk P) (l : List Nat) (n s : Nat) (hd : ∀ x ∈ l, x < 18446744073709551616) (hn : l.length = n) (hn3 : n ≤ 1099511627776) (hs : s ≤ 63) : CSpec P 61 [.imm n (List.map (fun d : Nat => AV.int .u64 (d : Int)) (l)), .int .i64 (s : Int)] (.agg [.opq (.nat (dOf 18446744073709551616 l / 2 ^ s)), .pad]) := by
  have HE := Sc_ok hP
  refine CSpec_vc (E := ⟨T0, Sc⟩) (fn61 hP) HE hP.mix rfl (by first | rfl | (simp only [go_sem]; done)) (by first | rfl | (simp only [go_sem]; done)) (Nat.le_of_ble_eq_true rfl) ?_
  simp (maxSteps := 1000000) only [go_sem, Nat.reduceBEq, Nat.reduceAdd, Nat.reduceLT, Nat.reduceMul, Nat.reduceSub, Nat.reduceLeDiff, Nat.reduceEqDiff, Int.reduceToNat, Nat.reduceBeqDiff, Nat.reduceBneDiff, decide_false, and_self, List.reduceReplicate, List.flatten_cons, List.flatten_nil, true_and, and_true, eq_self, decide_true, reduceIte, reduceCtorEq, List.any_toArray, Region.binds, Int.reduceBEq, Int.reduceBNe, Int.reduceLT, hn3]
  refine trX_loop HE hP.mix [3, 0] (fun q : Nat × List Nat => ⟨upd (upd (upd (upd (upd (upd (fun _ => .junk) 0 (.imm n (List.map (fun d : Nat => AV.int .u64 (d : Int)) (l)))) 1 (.int .i64 (s : Int))) 4 (.ref 0 0)) 5 (.sl 3 0 n 1)) 11 (.int .i64 (n : Int))) 12 (.int .i64 (q.1 : Int)), upd (upd (fun _ => .unused) 0 (.live [.int .u64 0, .nils])) 3 (.live (List.map (fun d : Nat => AV.int .u64 (d : Int)) (q.2 ++ List.replicate (n - q.1) 0))), 50⟩)
    (fun q => q.1 ≤ n ∧ q.2.length = q.1 ∧ (∀ x ∈ q.2, x < 18446744073709551616) ∧ dOf 18446744073709551616 q.2 * 2 ^ s + edn l s 0 = dOf 18446744073709551616 (l.take q.1) + 18446744073709551616 ^ q.1 * edn l s q.1) (fun q => n - q.1) (0, []) 20
    (by repeat (first | exact Has.nil | refine Has.upd rfl ?_)) (Kept.of rfl (by repeat (first | exact KT.nil | refine KT.upd rfl (by first | rfl | exact hr | exact hr2 | (simp only [go_sem]; done)) ?_)) (KM.p (by repeat (first | exact KMp.nil | refine KMp.upd rfl (by first | rfl | (simp only [go_sem]; done)) ?_)))) ⟨by simp, by simp, by simp, by simp [dOf]⟩ 50 (by kernel_rfl) ?_
  rintro ⟨i, dn⟩ ⟨q1, q2, q3, q4⟩
  simp only [] at q1 q2 q3 q4
  by_cases hi : i < n
  · have hil : i < l.length := by omega
    have hil2 : i ≤ n := by omega
    have hil3 : i ≤ l.length := by omega
    have hwi := wi_add1 i (by omega)
    have hnl : i < dn.length + (n - i) := by omega
    have hget := rep_get q2 hi
    have hset : ∀ x, (dn ++ List.replicate (n - i) 0).set i x = (dn ++ [x]) ++ List.replicate (n - (i + 1)) 0 := fun x => rep_set q2 hi
    have hlen := rep_len q2 hi
    have hsm : min s 64 = s := by omega
    have hnl3 : i < dn.length + 1 + (n - (i + 1)) := by omega
    have hdi := hd _ (getD_mem hil)
    have fin : ∀ z, z < 18446744073709551616 → z * 2 ^ s + edn l s i = l.getD i 0 + 18446744073709551616 * edn l s (i + 1) → ∃ x : Nat × List Nat, x = (i + 1, dn ++ [z]) ∧ (x.1 ≤ n ∧ x.2.length = x.1 ∧ (∀ y ∈ x.2, y < 18446744073709551616) ∧ dOf 18446744073709551616 x.2 * 2 ^ s + edn l s 0 = dOf 18446744073709551616 (l.take x.1) + 18446744073709551616 ^ x.1 * edn l s x.1) ∧ n - x.1 < n - i := fun z hz h1 => by
      refine ⟨_, rfl, ⟨by simp only []; omega, by simp only [List.length_append, List.length_singleton]; omega, ?_, ?_⟩, by simp only []; omega⟩
      · intro x hx
        rcases List.mem_append.1 hx with hx | hx
        · exact q3 x hx
        · rw [List.mem_singleton.1 hx]; exact hz
      · simp only []
        rw [dOf_snoc, q2, dOf_take_succ 18446744073709551616 l i hil, Nat.pow_succ]
        exact dn_step q4 h1
    have hb : l.getD i 0 / 2 ^ s < 2 ^ (64 - s) := by
      have := shr_lt (s := 64 - s) (by omega) hdi
      rwa [show 64 - (64 - s) = s by omega] at this
    have hbb : l.getD i 0 / 2 ^ s < 18446744073709551616 := Nat.lt_of_le_of_lt (Nat.div_le_self _ _) hdi
    obtain ⟨b, hbe⟩ : ∃ b, l.getD i 0 / 2 ^ s = b := ⟨_, rfl⟩
    have hset2 : ∀ x, ((dn ++ [b]) ++ List.replicate (n - (i + 1)) 0).set i x = (dn ++ [x]) ++ List.replicate (n - (i + 1)) 0 := fun x => sn_set q2
    have hget2 : ((dn ++ [b]) ++ List.replicate (n - (i + 1)) 0).getD i 0 = b := sn_get q2
    have hlen2 : i < ((dn ++ [b]) ++ List.replicate (n - (i + 1)) 0).length := sn_len q2
    by_cases h1 : i + 1 < n
    · have h1l : i + 1 < l.length := by omega
      have h1n : i + 1 ≤ n := by omega
      have h1m : i + 1 ≤ l.length := by omega
      have hw64 : IntKind.i64.wrap (64 - (s : Int)) = ((64 - s : Nat) : Int) := by rw [IntKind.wrap_i64]; omega
      have hm64 : min (64 - s) 64 = 64 - s := by omega
      by_cases hs0 : 0 < s
      · have hshl := wu_shl (l.getD (i + 1) 0) (64 - s)
        have hor := or_dn (x := l.getD (i + 1) 0) (t := 64 - s) (by omega) hb
        have hz := fin (l.getD (i + 1) 0 * 2 ^ (64 - s) % 18446744073709551616 + l.getD i 0 / 2 ^ s) (or_up_lt (by omega) hb) (dn_digit (by omega))
        rw [hbe] at hor hz
        generalize hcc : l.getD (i + 1) 0 * 2 ^ (64 - s) % 18446744073709551616 = c at hshl hor hz
        generalize hzz : c + b = z at hor hz
        simp (maxSteps := 1000000) only [go_sem, Nat.reduceBEq, Nat.reduceAdd, Nat.reduceLT, Nat.reduceMul, Nat.reduceSub, Nat.reduceLeDiff, Nat.reduceEqDiff, Int.reduceToNat, Nat.reduceBeqDiff, Nat.reduceBneDiff, decide_false, and_self, List.reduceReplicate, List.flatten_cons, List.flatten_nil, true_and, and_true, eq_self, decide_true, reduceIte, reduceCtorEq, List.any_toArray, Region.binds, Int.reduceBEq, Int.reduceBNe, Int.reduceLT, hi, hil, hil2, hil3, hwi, hnl, hnl3, hset, hset2, hget, hget2, hlen, hlen2, hsm, gU hil, gU' hil, gU hlen, gU hlen2, gU' h1l, h1, h1n, h1l, h1m, hs0, hw64, hm64, hshl, fd_pow, hbe, or_fix, hor, upd_upd, List.any_toArray, Region.binds]
        obtain ⟨x, rfl, hz⟩ := hz
        exact ⟨_, Kept.of rfl (by repeat (first | exact KT.nil | refine KT.upd rfl (by first | rfl | exact hr | exact hr2 | (simp only [go_sem]; done)) ?_)) (KM.p (by repeat (first | exact KMp.nil | refine KMp.upd rfl (by first | rfl | (simp only [go_sem]; done)) ?_))), hz⟩
      · have hs00 : s = 0 := by omega
        have hz := fin b (by omega) (by rw [← hbe]; have := dn_digit0 (s := s) (x := l.getD i 0); unfold edn; rw [hs00] at this ⊢; rw [Nat.pow_zero, Nat.mod_one (l.getD (i + 1) 0)]; exact this)
        simp (maxSteps := 1000000) only [go_sem, Nat.reduceBEq, Nat.reduceAdd, Nat.reduceLT, Nat.reduceMul, Nat.reduceSub, Nat.reduceLeDiff, Nat.reduceEqDiff, Int.reduceToNat, Nat.reduceBeqDiff, Nat.reduceBneDiff, decide_false, and_self, List.reduceReplicate, List.flatten_cons, List.flatten_nil, true_and, and_true, eq_self, decide_true, reduceIte, reduceCtorEq, List.any_toArray, Region.binds, Int.reduceBEq, Int.reduceBNe, Int.reduceLT, hi, hil, hil2, hil3, hwi, hnl, hnl3, hset, hget, hlen, hsm, gU hil, gU' hil, gU hlen, h1, hs0, fd_pow, hbe, upd_upd]
        obtain ⟨x, rfl, hz⟩ := hz
        exact ⟨_, Kept.of rfl (by repeat (first | exact KT.nil | refine KT.upd rfl (by first | rfl | exact hr | exact hr2 | (simp only [go_sem]; done)) ?_)) (KM.p (by repeat (first | exact KMp.nil | refine KMp.upd rfl (by first | rfl | (simp only [go_sem]; done)) ?_))), hz⟩
    · have hz := fin b (by omega) (by rw [← hbe]; unfold edn; rw [getD_ge (show l.length ≤ i + 1 by omega), Nat.zero_mod]; exact dn_digit0)
      simp (maxSteps := 1000000) only [go_sem, Nat.reduceBEq, Nat.reduceAdd, Nat.reduceLT, Nat.reduceMul, Nat.reduceSub, Nat.reduceLeDiff, Nat.reduceEqDiff, Int.reduceToNat, Nat.reduceBeqDiff, Nat.reduceBneDiff, decide_false, and_self, List.reduceReplicate, List.flatten_cons, List.flatten_nil, true_and, and_true, eq_self, decide_true, reduceIte, reduceCtorEq, List.any_toArray, Region.binds, Int.reduceBEq, Int.reduceBNe, Int.reduceLT, hi, hil, hil2, hil3, hwi, hnl, hnl3, hset, hget, hlen, hsm, gU hil, gU' hil, gU hlen, h1, fd_pow, hbe, upd_upd]
      obtain ⟨x, rfl, hz⟩ := hz
      exact ⟨_, Kept.of rfl (by repeat (first | exact KT.nil | refine KT.upd rfl (by first | rfl | exact hr | exact hr2 | (simp only [go_sem]; done)) ?_)) (KM.p (by repeat (first | exact KMp.nil | refine KMp.upd rfl (by first | rfl | (simp only [go_sem]; done)) ?_))), hz⟩
  · have hie : i = n := by omega
    subst hie
    have htk : dn.take i = dn := List.take_of_length_le (by omega)
    have hsl : i < 4611686018427387904 := by omega
    have hz3 : (∀ d ∈ dn, d < 18446744073709551616) = True := eq_true q3
    have e1 : edn l s i = 0 := by unfold edn; rw [getD_ge (by omega), Nat.zero_mod]
    have e2 : l.take i = l := List.take_of_length_le (by omega)
    rw [e1, e2, Nat.mul_zero, Nat.add_zero] at q4
    have := dn_end q4 (Nat.mod_lt _ (Nat.two_pow_pos s))
    simp (maxSteps := 1000000) only [go_sem, Nat.reduceBEq, Nat.reduceAdd, Nat.reduceLT, Nat.reduceMul, Nat.reduceSub, Nat.reduceLeDiff, Nat.reduceEqDiff, Int.reduceToNat, Nat.reduceBeqDiff, Nat.reduceBneDiff, decide_false, and_self, List.reduceReplicate, List.flatten_cons, List.flatten_nil, true_and, and_true, eq_self, decide_true, reduceIte, reduceCtorEq, List.any_toArray, Region.binds, Int.reduceBEq, Int.reduceBNe, Int.reduceLT, hi, htk, q2, hz3, hsl]
    rw [this]; exact .refl _
noncomputable def downS : List AV → Option (Prop × AV)
  | [.imm n cs, .int .i64 s] => some (cs = (List.map (fun d : Nat => AV.int .u64 (d : Int)) (cs.map ud)) ∧ n = cs.length ∧ (∀ d ∈ cs.map ud, d < 18446744073709551616) ∧ n ≤ 1099511627776 ∧ 0 ≤ s ∧ s.toNat ≤ 63, (.agg [.opq (.nat (dOf 18446744073709551616 (cs.map ud) / 2 ^ s.toNat)), .pad]))
  | _ => none
theorem downS_ok (hP : PrgOk P) (args p r) (h : downS args = some (p, r)) (hp : p) : CSpec P 61 args r := by
  unfold downS at h
  split at h
  · simp only [Option.some.injEq, Prod.mk.injEq] at h
    obtain ⟨rfl, rfl⟩ := h
    exact (by rename_i n cs s; obtain ⟨a1, a2, a3, a4, a5, a6⟩ := hp; have := down_spec hP (cs.map ud) n s.toNat a3 (by rw [List.length_map]; exact a2.symm) a4 a6; rw [nn a5, ← a1] at this; exact this)
  · simp at h
attribute [go_sem] downS
end Go.Proofs.Ytlgimmafejbmgaa.AM
