/- NatBack. -/
import Derived.Test.YtlgimmafejbmgaaNr
namespace Go.Proofs.Ytlgimmafejbmgaa.AM
set_option linter.all false
set_option autoImplicit true
set_option relaxedAutoImplicit true
open Go Go.Proofs
set_option maxRecDepth 100000
set_option maxHeartbeats 8000000
set_option linter.unusedSimpArgs false
variable {P : Program}

theorem parse_decL (a : Nat) (ha : blen a ≤ 255) : parseR (decL a) = .tup [(.agg [.opq (.nat (a)), .pad]), .int .i64 0] := by
  have := decL_len a
  rw [parse_ok (okD_decL a) (by omega), valL_decL]

theorem NatBack_spec (hP : PrgOk P) (s : ByteArray) (n : Nat) (hn : n < 18446744073709551616) : CSpec P 4 [.str s, .int .u64 (n : Int)] (.bool true) := by
  have HE := Si_ok hP
  refine CSpec_vc (E := ⟨T0, Si⟩) (fn4 hP) HE hP.mix rfl (by first | rfl | (simp only [go_sem]; done)) (by first | rfl | (simp only [go_sem]; done)) (Nat.le_of_ble_eq_true rfl) ?_
  by_cases hs : 4096 < s.size
  · simp (maxSteps := 1000000) only [go_sem, Nat.reduceBEq, Nat.reduceAdd, Nat.reduceLT, Nat.reduceMul, Nat.reduceSub, Nat.reduceLeDiff, Nat.reduceEqDiff, Int.reduceToNat, Nat.reduceBeqDiff, Nat.reduceBneDiff, decide_false, and_self, List.reduceReplicate, List.flatten_cons, List.flatten_nil, true_and, and_true, eq_self, decide_true, reduceIte, reduceCtorEq, List.any_toArray, Region.binds, Int.reduceBEq, Int.reduceBNe, Int.reduceLT, hs]
    exact .refl _
  · have hsb : (bl s).length ≤ 1099511627776 := by rw [← size_bl]; omega
    have hn64 : blen n ≤ 64 := (blen_le_iff n 64).2 hn
    have hnb : blen n ≤ 68719476736 := by omega
    have hnl : (decL n).length ≤ 1099511627776 := by have := decL_len n; omega
    have hpn := parse_decL n (by omega)
    have hc : cmpI n n = 0 := cmpI_eq n
    by_cases hok : okD (bl s)
    · by_cases hl : (bl s).length ≤ 256
      · have hp := parse_ok hok hl
        have hvb : blen (valL (bl s)) ≤ 68719476736 := by have := valL_blen hok hl; omega
        have hd := decS_val hok
        simp (maxSteps := 1000000) only [go_sem, Nat.reduceBEq, Nat.reduceAdd, Nat.reduceLT, Nat.reduceMul, Nat.reduceSub, Nat.reduceLeDiff, Nat.reduceEqDiff, Int.reduceToNat, Nat.reduceBeqDiff, Nat.reduceBneDiff, decide_false, and_self, List.reduceReplicate, List.flatten_cons, List.flatten_nil, true_and, and_true, eq_self, decide_true, reduceIte, reduceCtorEq, List.any_toArray, Region.binds, Int.reduceBEq, Int.reduceBNe, Int.reduceLT, hs, hsb, hp, hvb, hd, hn, hnb, hnl, bl_decS, hpn, hc]
        exact .refl _
      · have hp := parse_long hok (by omega)
        simp (maxSteps := 1000000) only [go_sem, Nat.reduceBEq, Nat.reduceAdd, Nat.reduceLT, Nat.reduceMul, Nat.reduceSub, Nat.reduceLeDiff, Nat.reduceEqDiff, Int.reduceToNat, Nat.reduceBeqDiff, Nat.reduceBneDiff, decide_false, and_self, List.reduceReplicate, List.flatten_cons, List.flatten_nil, true_and, and_true, eq_self, decide_true, reduceIte, reduceCtorEq, List.any_toArray, Region.binds, Int.reduceBEq, Int.reduceBNe, Int.reduceLT, hs, hsb, hp, hn, hnb, hnl, bl_decS, hpn, hc]
        exact .refl _
    · have hp := parse_bad hok
      simp (maxSteps := 1000000) only [go_sem, Nat.reduceBEq, Nat.reduceAdd, Nat.reduceLT, Nat.reduceMul, Nat.reduceSub, Nat.reduceLeDiff, Nat.reduceEqDiff, Int.reduceToNat, Nat.reduceBeqDiff, Nat.reduceBneDiff, decide_false, and_self, List.reduceReplicate, List.flatten_cons, List.flatten_nil, true_and, and_true, eq_self, decide_true, reduceIte, reduceCtorEq, List.any_toArray, Region.binds, Int.reduceBEq, Int.reduceBNe, Int.reduceLT, hs, hsb, hp, hn, hnb, hnl, bl_decS, hpn, hc]
      exact .refl _
end Go.Proofs.Ytlgimmafejbmgaa.AM
