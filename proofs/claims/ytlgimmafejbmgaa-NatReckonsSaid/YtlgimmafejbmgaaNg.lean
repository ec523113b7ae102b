/- Package nat: functions that write where they are told to. -/
import Derived.Test.YtlgimmafejbmgaaNf
namespace Go.Proofs.Ytlgimmafejbmgaa.AM
set_option linter.all false
set_option autoImplicit true
set_option relaxedAutoImplicit true
open Go Go.Proofs
set_option maxRecDepth 100000
set_option maxHeartbeats 8000000
set_option linter.unusedSimpArgs false
variable {P : Program}

noncomputable def Sc : Nat → List AV → Option (Prop × AV) := addS (addS Sb 23 MulS) 55 div64S
theorem Sc_ok (hP : PrgOk P) : EnvOk P ⟨T0, Sc⟩ := ((Sb_ok hP).add (MulS_ok hP)).add (div64S_ok hP)
attribute [go_sem] Sc

/-- A memory whose objects are among some. -/
def GenM (L : List Nat) (m : Nat → AObj) : Prop := Has L m ∧ ∀ q, objOnly L (m q) = true
theorem KM.gen {L : List Nat} {m : Nat → AObj} (h : GenM L m) : KM L m m := fun q => by
  by_cases hq : L.contains q = true
  · exact .inl ⟨hq, rfl, h.2 q⟩
  · refine .inr ⟨by simpa using hq, ?_⟩
    by_cases e : m q = .unused
    · exact e
    · exact absurd (h.1 q e) hq
theorem GenM.upd {L : List Nat} {m : Nat → AObj} (h : GenM L m) {r : Nat} {o : AObj} (hr : L.contains r = true) (ho : objOnly L o = true) : GenM L (upd m r o) := ⟨Has.upd hr h.1, fun q => by
  unfold AM.upd; split
  · exact ho
  · exact h.2 q⟩
theorem GenM.upd' {L : List Nat} {m : Nat → AObj} {r : Nat} {o o' : AObj} (h : GenM L (AM.upd m r o')) (hr : L.contains r = true) (ho : objOnly L o = true) : GenM L (AM.upd m r o) := by
  have := h.upd hr ho
  rwa [show AM.upd (AM.upd m r o') r o = AM.upd m r o from by funext j; unfold AM.upd; split <;> rfl] at this
theorem upd_upd {β : Type} (f : Nat → β) (i : Nat) (v v' : β) : upd (upd f i v) i v' = upd f i v' := by
  funext j; unfold AM.upd; split <;> rfl
theorem upd_self {β : Type} (f : Nat → β) (i : Nat) : upd f i (f i) = f := by
  funext j; unfold AM.upd; split
  · rename_i h; rw [h]
  · rfl
theorem objOnly_U {L : List Nat} {l : List Nat} {k : IntKind} : objOnly L (.live (l.map (fun d : Nat => AV.int k (d : Int)))) = true := by
  simp only [objOnly]; exact only_U
theorem GenM.nil {L : List Nat} : GenM L (fun _ => .unused) := ⟨Has.nil, fun _ => rfl⟩

theorem set_app {l R : List Nat} {x d k : Nat} (h : l.length = k) : (l ++ ([x] ++ R)).set k d = l ++ (d :: R) := by
  subst h; induction l with
  | nil => rfl
  | cons a l ih => simp [ih]
theorem get_app {l R : List Nat} {x k : Nat} (h : l.length = k) : (l ++ ([x] ++ R)).getD k 0 = x := by
  subst h; induction l with
  | nil => rfl
  | cons a l ih => simp
theorem len_take {w : List Nat} {k : Nat} (h : k < w.length) : (w.take k).length = k := by rw [List.length_take]; omega
theorem set_take {w : List Nat} {R : List Nat} {k : Nat} (h : k < w.length) (d : Nat) : (w.take (k + 1) ++ R).set k d = w.take k ++ (d :: R) := by
  rw [take_snoc h, List.append_assoc]; exact set_app (len_take h)
theorem get_take {w : List Nat} {R : List Nat} {k : Nat} (h : k < w.length) : (w.take (k + 1) ++ R).getD k 0 = w.getD k 0 := by
  rw [take_snoc h, List.append_assoc]; exact get_app (len_take h)
theorem drop_cons {w : List Nat} {k : Nat} (h : k < w.length) : w.drop k = w.getD k 0 :: w.drop (k + 1) := by
  rw [List.drop_eq_getElem_cons h, getD_get h]

theorem short_ic (hP : PrgOk P) {L : List Nat} {m : Nat → AObj} {K : Nat → AV → (Nat → AObj) → Prop} {r : Nat} {w tail : List Nat} {n y : Nat} (hm : GenM L m) (hr : L.contains r = true) (hmr : m r = .live (List.map (fun d : Nat => AV.int .u64 (d : Int)) (w ++ tail))) (hn : w.length = n) (hn2 : n < 4611686018427387904) (hw : ∀ d ∈ w, d < 18446744073709551616) (hy : y < 18446744073709551616) (hy0 : 0 < y)
    (k : ∀ (nx : Nat) (w' : List Nat) (c : Nat), w'.length = n → (∀ d ∈ w', d < 18446744073709551616) → c < y → dOf 18446744073709551616 w' * y + c = dOf 18446744073709551616 w → K nx (.int .u64 (c : Int)) (upd m r (.live (List.map (fun d : Nat => AV.int .u64 (d : Int)) (w' ++ tail))))) :
    icX (ICall P) 45 [.sl r 0 n 1, .int .u64 (y : Int)] m (K := ⟨K⟩) := by
  have HE := Sc_ok hP
  refine icX_vc (E := ⟨T0, Sc⟩) (fn45 hP) HE hP.mix rfl rfl (Nat.le_of_ble_eq_true rfl) 0 ?_
  have hwp := wi_pred' n (by omega)
  obtain ⟨m0, rfl⟩ : ∃ m0, m = upd m0 r (.live (List.map (fun d : Nat => AV.int .u64 (d : Int)) (w ++ tail))) := ⟨m, by rw [← hmr, upd_self]⟩
  clear hmr
  simp only [upd_upd] at k
  simp (maxSteps := 1000000) only [go_sem, Nat.reduceBEq, Nat.reduceAdd, Nat.reduceLT, Nat.reduceMul, Nat.reduceSub, Nat.reduceLeDiff, Nat.reduceEqDiff, Int.reduceToNat, Nat.reduceBeqDiff, Nat.reduceBneDiff, decide_false, and_self, List.reduceReplicate, List.flatten_cons, List.flatten_nil, true_and, and_true, eq_self, decide_true, reduceIte, reduceCtorEq, List.any_toArray, Region.binds, Int.reduceBEq, Int.reduceBNe, Int.reduceLT, hwp]
  refine trX_loop HE hP.mix L (fun q : Nat × List Nat × Nat => ⟨upd (upd (upd (upd (upd (fun _ => .junk) 0 (.sl r 0 n 1)) 1 (.int .u64 (y : Int))) 4 (.int .u64 0)) 5 (.int .u64 (q.2.2 : Int))) 6 (.int .i64 ((q.1 : Int) - 1)), upd m0 r (.live (List.map (fun d : Nat => AV.int .u64 (d : Int)) (w.take q.1 ++ (q.2.1 ++ tail)))), 28⟩)
    (fun q => q.1 ≤ n ∧ q.1 + q.2.1.length = n ∧ (∀ d ∈ q.2.1, d < 18446744073709551616) ∧ q.2.2 < y ∧ dOf 18446744073709551616 q.2.1 * y + q.2.2 = dOf 18446744073709551616 (w.drop q.1)) (fun q => q.1) (n, [], 0) 0
    hm.1 (Kept.of rfl (by repeat (first | exact KT.nil | refine KT.upd rfl (by first | rfl | exact hr | exact hr2 | (simp only [go_sem]; done)) ?_)) (by
      have e : w.take n ++ ([] ++ tail) = w ++ tail := by rw [List.take_of_length_le (by omega)]; rfl
      simp only []; rw [e]; exact KM.gen hm)) ⟨by simp, by simp, by simp, hy0, by simp [dOf, List.drop_of_length_le (Nat.le_of_eq hn)]⟩ 28 (by kernel_rfl) ?_
  rintro ⟨k', hi, c⟩ ⟨q1, q2, q3, q4, q5⟩
  simp only [] at q1 q2 q3 q4 q5
  cases k' with
  | zero =>
    have h0 : ((0 : Int) ≤ ((0 : Nat) : Int) - 1) = False := by simp
    simp (maxSteps := 1000000) only [go_sem, Nat.reduceBEq, Nat.reduceAdd, Nat.reduceLT, Nat.reduceMul, Nat.reduceSub, Nat.reduceLeDiff, Nat.reduceEqDiff, Int.reduceToNat, Nat.reduceBeqDiff, Nat.reduceBneDiff, decide_false, and_self, List.reduceReplicate, List.flatten_cons, List.flatten_nil, true_and, and_true, eq_self, decide_true, reduceIte, reduceCtorEq, List.any_toArray, Region.binds, Int.reduceBEq, Int.reduceBNe, Int.reduceLT, h0]
    exact k _ hi c (by omega) q3 q4 q5
  | succ k' =>
    have hk : k' < w.length := by omega
    have hkn : k' < n := by omega
    have hlen : k' < (w.take (k' + 1) ++ (hi ++ tail)).length := by simp [List.length_take]; omega
    have hlen' : k' < (w.take (k' + 1)).length + (hi.length + tail.length) := by simp [List.length_take]; omega
    have hd := hw _ (getD_mem hk)
    have hdrop := drop_cons hk
    have hset := set_take (R := hi ++ tail) hk
    have hq := divq_lt q4 hd
    have hr1 := divr_lt c (w.getD k' 0) hy0
    have hall := div_all c (w.getD k' 0) y
    have hwi := wi_pred' k' (by omega)
    simp (maxSteps := 1000000) only [go_sem, Nat.reduceBEq, Nat.reduceAdd, Nat.reduceLT, Nat.reduceMul, Nat.reduceSub, Nat.reduceLeDiff, Nat.reduceEqDiff, Int.reduceToNat, Nat.reduceBeqDiff, Nat.reduceBneDiff, decide_false, and_self, List.reduceReplicate, List.flatten_cons, List.flatten_nil, true_and, and_true, eq_self, decide_true, reduceIte, reduceCtorEq, List.any_toArray, Region.binds, Int.reduceBEq, Int.reduceBNe, Int.reduceLT, hlen, hlen', hkn, gU hlen, get_take hk, q4, hd, hy, hset, upd_upd, hwi]
    refine ⟨(k', divq c (w.getD k' 0) y :: hi, divr c (w.getD k' 0) y), Kept.of rfl (by repeat (first | exact KT.nil | refine KT.upd rfl (by first | rfl | exact hr | exact hr2 | (simp only [go_sem]; done)) ?_)) (KM.gen (hm.upd' hr objOnly_U)), ⟨by simp only []; omega, by simp only [List.length_cons]; omega, ?_, hr1, ?_⟩, by simp only []; omega⟩
    · intro d hd
      rcases List.mem_cons.1 hd with rfl | hd
      · exact hq
      · exact q3 d hd
    · simp only [dOf]
      rw [hdrop]; simp only [dOf]; rw [← q5, Nat.add_mul, Nat.mul_add, Nat.mul_assoc]
      generalize divq c (w.getD k' 0) y * y = A at *; generalize dOf 18446744073709551616 hi * y = B at *
      omega
end Go.Proofs.Ytlgimmafejbmgaa.AM
