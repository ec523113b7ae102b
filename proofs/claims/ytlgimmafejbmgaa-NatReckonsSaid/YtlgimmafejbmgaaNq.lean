/- Package nat: a text read as a number. -/
import Derived.Test.YtlgimmafejbmgaaNp
namespace Go.Proofs.Ytlgimmafejbmgaa.AM
set_option linter.all false
set_option autoImplicit true
set_option relaxedAutoImplicit true
open Go Go.Proofs
set_option maxRecDepth 100000
set_option maxHeartbeats 8000000
set_option linter.unusedSimpArgs false
variable {P : Program}

/-- The bytes of a text, as numbers. -/
def bl (s : ByteArray) : List Nat := s.data.toList.map UInt8.toNat
theorem size_bl (s : ByteArray) : s.size = (bl s).length := by unfold bl; rw [List.length_map, Array.length_toList]; rfl
theorem get_bl (s : ByteArray) (k : Nat) : (s.get! k).toNat = (bl s).getD k 0 := by
  obtain ⟨a⟩ := s
  show (a[k]!).toNat = _
  unfold bl
  rw [List.getD_eq_getElem?_getD, List.getElem?_map, Array.getElem?_toList, getElem!_def]
  have e : (ByteArray.mk a).data = a := rfl
  rw [e]
  cases a[k]? <;> rfl
theorem bl_lt (s : ByteArray) : ∀ c ∈ bl s, c < 256 := fun c hc => by
  obtain ⟨b, _, rfl⟩ := List.mem_map.1 hc
  exact b.toNat_lt
theorem bl_extract (s : ByteArray) (l h : Nat) : bl (s.extract l h) = ((bl s).drop l).take (h - l) := by
  unfold bl
  rw [ByteArray.data_extract, Array.toList_extract, List.extract_eq_take_drop]
  simp [List.map_drop, List.map_take]
def valL (l : List Nat) : Nat := l.foldl (fun v c => 10 * v + (c - 48)) 0
theorem valL_snoc (l : List Nat) (c : Nat) : valL (l ++ [c]) = 10 * valL l + (c - 48) := by simp [valL]
theorem valL_take_succ {l : List Nat} {k : Nat} (h : k < l.length) : valL (l.take (k + 1)) = 10 * valL (l.take k) + (l.getD k 0 - 48) := by rw [take_snoc h, valL_snoc]
def okD (l : List Nat) : Prop := l ≠ [] ∧ ¬ (1 < l.length ∧ l.getD 0 0 = 48) ∧ ∀ c ∈ l, 48 ≤ c ∧ c ≤ 57
theorem toList_nil (s : ByteArray) : (s.toList == ByteArray.toList ⟨#[]⟩) = (bl s).isEmpty := by
  rw [ByteArray.toList_eq, ByteArray.toList_eq]
  unfold bl
  cases s.data.toList <;> rfl
theorem valL_from (b : List Nat) : ∀ v : Nat, b.foldl (fun v c => 10 * v + (c - 48)) v = v * 10 ^ b.length + valL b := by
  induction b with
  | nil => intro v; simp [valL]
  | cons c b ih =>
    intro v
    unfold valL
    rw [List.foldl_cons, List.foldl_cons, ih, ih (10 * 0 + (c - 48)), List.length_cons, Nat.pow_succ, Nat.add_mul, Nat.mul_zero, Nat.zero_add, Nat.mul_comm 10 v, Nat.mul_assoc, Nat.mul_comm 10 (10 ^ _)]
    omega
theorem valL_app (a b : List Nat) : valL (a ++ b) = valL a * 10 ^ b.length + valL b := by
  have := valL_from b (valL a)
  unfold valL at this ⊢
  rw [List.foldl_append]; exact this
theorem valL_lt {l : List Nat} (h : ∀ c ∈ l, c ≤ 57) : valL l < 10 ^ l.length := by
  induction l with
  | nil => simp [valL]
  | cons c l ih =>
    have h1 := ih (fun d hd => h d (by simp [hd]))
    have h2 := h c (by simp)
    have e := valL_app [c] l
    simp only [List.singleton_append] at e
    have e2 : valL [c] = c - 48 := by simp [valL]
    have h3 : (c - 48 + 1) * 10 ^ l.length ≤ 10 * 10 ^ l.length := Nat.mul_le_mul_right _ (by omega)
    rw [e, e2, List.length_cons, Nat.pow_succ]
    rw [Nat.add_mul] at h3; omega
def pX (c : Nat) : OD → Nat
  | some (false, false) => 120 - c
  | _ => 110 - c
structure PS where
  s : ByteArray
  k : Nat
  D : OD
  n : Nat
  d : List Nat
theorem conv12 (e : Int) : Conv (.tup [.agg [.int .u64 0, .nils], .int .i64 e]) (.tup [(.agg [.opq (.nat (0)), .pad]), .int .i64 e]) := CvL.conv (CvL.tup (by have := CvL.natOut 0 (xs := [.int .i64 e]) (CvL.refl _); rw [natC_small (by decide)] at this; exact this) .nil)
noncomputable def parseR (l : List Nat) : AV := by classical exact if okD l then (if l.length ≤ 256 then .tup [(.agg [.opq (.nat (valL l)), .pad]), .int .i64 0] else .tup [(.agg [.opq (.nat (0)), .pad]), .int .i64 3]) else .tup [(.agg [.opq (.nat (0)), .pad]), .int .i64 12]
theorem parse_bad {l : List Nat} (h : ¬ okD l) : parseR l = .tup [(.agg [.opq (.nat (0)), .pad]), .int .i64 12] := by unfold parseR; rw [if_neg h]
theorem parse_long {l : List Nat} (h : okD l) (h2 : 256 < l.length) : parseR l = .tup [(.agg [.opq (.nat (0)), .pad]), .int .i64 3] := by unfold parseR; rw [if_pos h, if_neg (by omega)]
theorem parse_ok {l : List Nat} (h : okD l) (h2 : l.length ≤ 256) : parseR l = .tup [(.agg [.opq (.nat (valL l)), .pad]), .int .i64 0] := by unfold parseR; rw [if_pos h, if_pos h2]
theorem mul_acc {D p c V W x y z c' B : Nat} (h : D + p * c = V * y + W) (h1 : z + B * c' = x * y + c) : D + p * z + p * B * c' = (V + p * x) * y + W := by
  have e2 := congrArg (p * ·) h1
  simp only [Nat.mul_add, ← Nat.mul_assoc] at e2
  rw [Nat.add_mul]; omega
theorem cut_nil (hP : PrgOk P) : CSpec P 43 [.nils] (.agg [.opq (.nat (0)), .pad]) := by
  have HE := Sf_ok hP
  refine CSpec_vc (E := ⟨T0, Sf⟩) (fn43 hP) HE hP.mix rfl (by first | rfl | (simp only [go_sem]; done)) (by first | rfl | (simp only [go_sem]; done)) (Nat.le_of_ble_eq_true rfl) ?_
  simp (maxSteps := 1000000) only [go_sem, Nat.reduceBEq, Nat.reduceAdd, Nat.reduceLT, Nat.reduceMul, Nat.reduceSub, Nat.reduceLeDiff, Nat.reduceEqDiff, Int.reduceToNat, Nat.reduceBeqDiff, Nat.reduceBneDiff, decide_false, and_self, List.reduceReplicate, List.flatten_cons, List.flatten_nil, true_and, and_true, eq_self, decide_true, reduceIte, reduceCtorEq, List.any_toArray, Region.binds, Int.reduceBEq, Int.reduceBNe, Int.reduceLT]
  refine trX_loop HE hP.mix [0] (fun _ : Unit => ⟨upd (upd (upd (fun _ => .junk) 0 .nils) 2 (.ref 0 0)) 3 (.int .i64 0), upd (fun _ => .unused) 0 (.live [.int .u64 0, .nils]), 33⟩)
    (fun _ => True) (fun _ => 0) () 20 (by repeat (first | exact Has.nil | refine Has.upd rfl ?_)) (Kept.of rfl (by repeat (first | exact KT.nil | refine KT.upd rfl (by first | rfl | exact hr | exact hr2 | (simp only [go_sem]; done)) ?_)) (KM.p (by repeat (first | exact KMp.nil | refine KMp.upd rfl (by first | rfl | (simp only [go_sem]; done)) ?_)))) trivial 33 (by kernel_rfl) ?_
  intro _ _
  simp (maxSteps := 1000000) only [go_sem, Nat.reduceBEq, Nat.reduceAdd, Nat.reduceLT, Nat.reduceMul, Nat.reduceSub, Nat.reduceLeDiff, Nat.reduceEqDiff, Int.reduceToNat, Nat.reduceBeqDiff, Nat.reduceBneDiff, decide_false, and_self, List.reduceReplicate, List.flatten_cons, List.flatten_nil, true_and, and_true, eq_self, decide_true, reduceIte, reduceCtorEq, List.any_toArray, Region.binds, Int.reduceBEq, Int.reduceBNe, Int.reduceLT, Int.lt_irrefl]
  exact Conv.nat1 (by decide)
def cutS2 : List AV → Option (Prop × AV)
  | [.nils] => some (True, (.agg [.opq (.nat (0)), .pad]))
  | [.imm n cs] => cutS [.imm n cs]
  | _ => none
theorem cutS2_ok (hP : PrgOk P) (args p r) (h : cutS2 args = some (p, r)) (hp : p) : CSpec P 43 args r := by
  unfold cutS2 at h
  split at h
  · simp only [Option.some.injEq, Prod.mk.injEq] at h
    obtain ⟨rfl, rfl⟩ := h
    exact cut_nil hP
  · exact cutS_ok hP _ _ _ h hp
  · simp at h
attribute [go_sem] cutS2
noncomputable def Sg : Nat → List AV → Option (Prop × AV) := addS Sf 43 cutS2
theorem Sg_ok (hP : PrgOk P) : EnvOk P ⟨T0, Sg⟩ := (Sf_ok hP).add (cutS2_ok hP)
attribute [go_sem] Sg
theorem Parse_spec (hP : PrgOk P) (s : ByteArray) (hsz : (bl s).length ≤ 1099511627776) : CSpec P 20 [.str s] (parseR (bl s)) := by
  have HE := Sg_ok hP
  refine CSpec_vc (E := ⟨T0, Sg⟩) (fn20 hP) HE hP.mix rfl (by first | rfl | (simp only [go_sem]; done)) (by first | rfl | (simp only [go_sem]; done)) (Nat.le_of_ble_eq_true rfl) ?_
  obtain ⟨l, hl⟩ : ∃ l, bl s = l := ⟨_, rfl⟩
  rw [hl] at hsz ⊢
  by_cases h1 : l = []
  · have h1' : l.isEmpty = true := by rw [h1]; rfl
    have hno : ¬ okD l := fun h => h.1 h1
    simp (maxSteps := 1000000) only [go_sem, Nat.reduceBEq, Nat.reduceAdd, Nat.reduceLT, Nat.reduceMul, Nat.reduceSub, Nat.reduceLeDiff, Nat.reduceEqDiff, Int.reduceToNat, Nat.reduceBeqDiff, Nat.reduceBneDiff, decide_false, and_self, List.reduceReplicate, List.flatten_cons, List.flatten_nil, true_and, and_true, eq_self, decide_true, reduceIte, reduceCtorEq, List.any_toArray, Region.binds, Int.reduceBEq, Int.reduceBNe, Int.reduceLT, toList_nil, hl, h1']
    rw [parse_bad hno]; exact conv12 12
  · have h1' : l.isEmpty = false := by cases l <;> simp_all
    by_cases h2 : 1 < l.length
    · rcases (by cases (l.getD 0 0 == 48) <;> simp : (l.getD 0 0 == 48) = true ∨ (l.getD 0 0 == 48) = false) with h3 | h3
      · have hno : ¬ okD l := fun h => h.2.1 ⟨h2, by simpa using h3⟩
        simp (maxSteps := 1000000) only [go_sem, Nat.reduceBEq, Nat.reduceAdd, Nat.reduceLT, Nat.reduceMul, Nat.reduceSub, Nat.reduceLeDiff, Nat.reduceEqDiff, Int.reduceToNat, Nat.reduceBeqDiff, Nat.reduceBneDiff, decide_false, and_self, List.reduceReplicate, List.flatten_cons, List.flatten_nil, true_and, and_true, eq_self, decide_true, reduceIte, reduceCtorEq, List.any_toArray, Region.binds, Int.reduceBEq, Int.reduceBNe, Int.reduceLT, toList_nil, size_bl, get_bl, hl, h1', h2, h3]
        rw [parse_bad hno]; exact ⟨by omega, conv12 12⟩
      · have h0 : ¬ (1 < l.length ∧ l.getD 0 0 = 48) := fun h => by simp at h3; exact h3 (by simpa using h.2)
        simp (maxSteps := 1000000) only [go_sem, Nat.reduceBEq, Nat.reduceAdd, Nat.reduceLT, Nat.reduceMul, Nat.reduceSub, Nat.reduceLeDiff, Nat.reduceEqDiff, Int.reduceToNat, Nat.reduceBeqDiff, Nat.reduceBneDiff, decide_false, and_self, List.reduceReplicate, List.flatten_cons, List.flatten_nil, true_and, and_true, eq_self, decide_true, reduceIte, reduceCtorEq, List.any_toArray, Region.binds, Int.reduceBEq, Int.reduceBNe, Int.reduceLT, toList_nil, size_bl, get_bl, hl, h1', h2, h3]
        refine ⟨by omega, ?_⟩
        refine trX_loop HE hP.mix [0] (fun i : Nat => ⟨upd (upd (upd (upd (upd (fun _ => .junk) 0 (.str s)) 2 (.ref 0 0)) 3 (.int .i64 0)) 28 (.int .i64 (l.length : Int))) 29 (.int .i64 (i : Int)), upd (fun _ => .unused) 0 (.live [.int .u64 0, .nils]), 109⟩)
          (fun i => i ≤ l.length ∧ ∀ j, j < i → 48 ≤ l.getD j 0 ∧ l.getD j 0 ≤ 57) (fun i => l.length - i) 0 20
          (by repeat (first | exact Has.nil | refine Has.upd rfl ?_)) (Kept.of rfl (by repeat (first | exact KT.nil | refine KT.upd rfl (by first | rfl | exact hr | exact hr2 | (simp only [go_sem]; done)) ?_)) (KM.p (by repeat (first | exact KMp.nil | refine KMp.upd rfl (by first | rfl | (simp only [go_sem]; done)) ?_)))) ⟨Nat.zero_le _, fun j hj => absurd hj (Nat.not_lt_zero _)⟩ 109 (by kernel_rfl) ?_
        rintro i ⟨q1, q2⟩
        by_cases hi : i < l.length
        · have hwi := wi_add1 i (by omega)
          have hmem := getD_mem hi
          by_cases c1 : l.getD i 0 < 48
          · have hno : ¬ okD l := fun h => by have := h.2.2 _ hmem; omega
            simp (maxSteps := 1000000) only [go_sem, Nat.reduceBEq, Nat.reduceAdd, Nat.reduceLT, Nat.reduceMul, Nat.reduceSub, Nat.reduceLeDiff, Nat.reduceEqDiff, Int.reduceToNat, Nat.reduceBeqDiff, Nat.reduceBneDiff, decide_false, and_self, List.reduceReplicate, List.flatten_cons, List.flatten_nil, true_and, and_true, eq_self, decide_true, reduceIte, reduceCtorEq, List.any_toArray, Region.binds, Int.reduceBEq, Int.reduceBNe, Int.reduceLT, size_bl, get_bl, hl, hi, c1]
            rw [parse_bad hno]; exact conv12 12
          · by_cases c2 : 57 < l.getD i 0
            · have hno : ¬ okD l := fun h => by have := h.2.2 _ hmem; omega
              simp (maxSteps := 1000000) only [go_sem, Nat.reduceBEq, Nat.reduceAdd, Nat.reduceLT, Nat.reduceMul, Nat.reduceSub, Nat.reduceLeDiff, Nat.reduceEqDiff, Int.reduceToNat, Nat.reduceBeqDiff, Nat.reduceBneDiff, decide_false, and_self, List.reduceReplicate, List.flatten_cons, List.flatten_nil, true_and, and_true, eq_self, decide_true, reduceIte, reduceCtorEq, List.any_toArray, Region.binds, Int.reduceBEq, Int.reduceBNe, Int.reduceLT, size_bl, get_bl, hl, hi, c1, c2]
              rw [parse_bad hno]; exact conv12 12
            · simp (maxSteps := 1000000) only [go_sem, Nat.reduceBEq, Nat.reduceAdd, Nat.reduceLT, Nat.reduceMul, Nat.reduceSub, Nat.reduceLeDiff, Nat.reduceEqDiff, Int.reduceToNat, Nat.reduceBeqDiff, Nat.reduceBneDiff, decide_false, and_self, List.reduceReplicate, List.flatten_cons, List.flatten_nil, true_and, and_true, eq_self, decide_true, reduceIte, reduceCtorEq, List.any_toArray, Region.binds, Int.reduceBEq, Int.reduceBNe, Int.reduceLT, size_bl, get_bl, hl, hi, c1, c2, hwi]
              exact ⟨i + 1, Kept.of rfl (by repeat (first | exact KT.nil | refine KT.upd rfl (by first | rfl | exact hr | exact hr2 | (simp only [go_sem]; done)) ?_)) (KM.p (by repeat (first | exact KMp.nil | refine KMp.upd rfl (by first | rfl | (simp only [go_sem]; done)) ?_))), ⟨by omega, fun j hj => by
                rcases Nat.lt_or_ge j i with h | h
                · exact q2 j h
                · rw [show j = i by omega]; omega⟩, by omega⟩
        · have hok : okD l := ⟨h1, h0, fun c hc => by
            obtain ⟨j, hj, rfl⟩ := List.getElem_of_mem hc
            rw [← getD_get hj]; exact q2 j (by omega)⟩
          clear q1 q2
          by_cases hlg : 256 < l.length
          · simp (maxSteps := 1000000) only [go_sem, Nat.reduceBEq, Nat.reduceAdd, Nat.reduceLT, Nat.reduceMul, Nat.reduceSub, Nat.reduceLeDiff, Nat.reduceEqDiff, Int.reduceToNat, Nat.reduceBeqDiff, Nat.reduceBneDiff, decide_false, and_self, List.reduceReplicate, List.flatten_cons, List.flatten_nil, true_and, and_true, eq_self, decide_true, reduceIte, reduceCtorEq, List.any_toArray, Region.binds, Int.reduceBEq, Int.reduceBNe, Int.reduceLT, size_bl, hl, hi, hlg]
            rw [parse_long hok hlg]; exact conv12 3
          · rw [parse_ok hok (by omega)]
            simp (maxSteps := 1000000) only [go_sem, Nat.reduceBEq, Nat.reduceAdd, Nat.reduceLT, Nat.reduceMul, Nat.reduceSub, Nat.reduceLeDiff, Nat.reduceEqDiff, Int.reduceToNat, Nat.reduceBeqDiff, Nat.reduceBneDiff, decide_false, and_self, List.reduceReplicate, List.flatten_cons, List.flatten_nil, true_and, and_true, eq_self, decide_true, reduceIte, reduceCtorEq, List.any_toArray, Region.binds, Int.reduceBEq, Int.reduceBNe, Int.reduceLT, size_bl, hl, hi, hlg]
            refine trX_loopV HE hP.mix (fun y : PS => oL [0] y.D) (fun y => ⟨upd (upd (upd (upd (fun _ => .junk) 0 (.str y.s)) 2 (.ref 0 0)) 3 (.int .i64 0)) 5 (oV y.D y.n), oM .u64 (upd (fun _ => .unused) 0 (.live [.int .u64 0, .nils])) y.D y.d, 109⟩)
              (fun y => bl y.s = l.drop y.k ∧ y.k ≤ l.length ∧ y.d.length = y.n ∧ y.n ≤ y.k ∧ (∀ x ∈ y.d, x < 18446744073709551616) ∧ dOf 18446744073709551616 y.d = valL (l.take y.k) ∧ (y.D = none → y.d = [] ∧ y.n = 0) ∧ (∀ b, y.D ≠ some (true, b))) (fun y => l.length - y.k) ⟨s, 0, none, 0, []⟩ (fun _ => 20)
              (fun x r hr => oL_has (by repeat (first | exact Has.nil | refine Has.upd rfl ?_)) x.D r hr) (Kept.of rfl (by repeat (first | exact KT.nil | refine KT.upd rfl (by first | rfl | exact hr | exact hr2 | (simp only [go_sem]; done)) ?_)) (KM.p (by repeat (first | exact KMp.nil | refine KMp.upd rfl (by first | rfl | (simp only [go_sem]; done)) ?_)))) ⟨hl, Nat.zero_le _, rfl, Nat.le_refl _, by simp, rfl, fun _ => ⟨rfl, rfl⟩, by simp⟩ 109 (by kernel_rfl) ?_
            rintro ⟨s', k, D, nd, d⟩ ⟨p1, p2, p3, p4, p5, p6, p7, p8⟩
            simp only [] at p1 p2 p3 p4 p5 p6 p7 p8
            obtain ⟨l', hl'⟩ : ∃ l', bl s' = l' := ⟨_, rfl⟩
            rw [hl'] at p1
            have hll : l'.length = l.length - k := by rw [p1, List.length_drop]
            by_cases hk : k < l.length
            · have hl0 : 0 < l'.length := by omega
              obtain ⟨n, hn⟩ : ∃ n, (l'.length - 1) % 19 + 1 = n := ⟨_, rfl⟩
              have hnl : n ≤ l'.length := by have := Nat.mod_le (l'.length - 1) 19; omega
              have hn19 : n ≤ 19 := by have := Nat.mod_lt (l'.length - 1) (show 0 < 19 by decide); omega
              have hn0 : 0 < n := by omega
              have w1 : IntKind.i64.wrap ((l'.length : Int) - 1) = ((l'.length - 1 : Nat) : Int) := by rw [IntKind.wrap_i64]; omega
              have w2 : ((l'.length - 1 : Nat) : Int).tmod 19 = (((l'.length - 1) % 19 : Nat) : Int) := rfl
              have w3 : IntKind.i64.wrap ((((l'.length - 1) % 19 : Nat) : Int) + 1) = (n : Int) := by rw [IntKind.wrap_i64]; omega
              have hdig : ∀ i, i < l'.length → 48 ≤ l'.getD i 0 ∧ l'.getD i 0 ≤ 57 := fun i hi => hok.2.2 _ (by rw [p1] at hi ⊢; exact List.mem_of_mem_drop (getD_mem hi))
              have hp10 : ∀ i, i ≤ 19 → 10 ^ i < 18446744073709551616 := fun i hi => Nat.lt_of_le_of_lt (Nat.pow_le_pow_right (by decide) hi) (by decide)
              rcases D with _ | ⟨_ | _, _ | _⟩
              ·
                simp only [oV, oM, oNum]
                simp (maxSteps := 1000000) only [go_sem, Nat.reduceBEq, Nat.reduceAdd, Nat.reduceLT, Nat.reduceMul, Nat.reduceSub, Nat.reduceLeDiff, Nat.reduceEqDiff, Int.reduceToNat, Nat.reduceBeqDiff, Nat.reduceBneDiff, decide_false, and_self, List.reduceReplicate, List.flatten_cons, List.flatten_nil, true_and, and_true, eq_self, decide_true, reduceIte, reduceCtorEq, List.any_toArray, Region.binds, Int.reduceBEq, Int.reduceBNe, Int.reduceLT, size_bl, hl', hl0, w1, w2, w3]
                refine ⟨by decide, ?_⟩
                refine trX_loop HE hP.mix [0] (fun y : Nat × Nat × Nat => ⟨upd (upd (upd (upd (upd (upd (upd (upd (upd (fun _ => .junk) 0 (.str s')) 2 (.ref 0 0)) 3 (.int .i64 0)) 5 (oV none nd)) 6 (.int .i64 (n : Int))) 7 (.int .u64 (y.2.1 : Int))) 8 (.int .u64 (y.2.2 : Int))) 56 (.int .i64 (n : Int))) 57 (.int .i64 (y.1 : Int)), oM .u64 (upd (fun _ => .unused) 0 (.live [.int .u64 0, .nils])) none d, 109⟩)
                  (fun y => y.1 ≤ n ∧ y.2.1 = valL (l'.take y.1) ∧ y.2.1 < 10 ^ y.1 ∧ y.2.2 = 10 ^ y.1) (fun y => n - y.1) (0, 0, 1) 20 (by repeat (first | exact Has.nil | refine Has.upd rfl ?_)) (Kept.of rfl (by repeat (first | exact KT.nil | refine KT.upd rfl (by first | rfl | exact hr | exact hr2 | (simp only [go_sem]; done)) ?_)) (KM.p (by repeat (first | exact KMp.nil | refine KMp.upd rfl (by first | rfl | (simp only [go_sem]; done)) ?_)))) ⟨Nat.zero_le _, rfl, by decide, rfl⟩ 109 (by kernel_rfl) ?_
                rintro ⟨i, c, p⟩ ⟨q1, q2, q3, q4⟩
                simp only [] at q1 q2 q3 q4
                by_cases hin : i < n
                · have hil : i < l'.length := by omega
                  obtain ⟨g1, g2⟩ := hdig i hil
                  have g3 : 10 ^ i ≤ 10 ^ 18 := Nat.pow_le_pow_right (by decide) (by omega)
                  have f1 : IntKind.u64.wrap (10 * (c : Int)) = ((10 * c : Nat) : Int) := by rw [IntKind.wrap_u64]; omega
                  have f2 : IntKind.u8.wrap (((l'.getD i 0 : Nat) : Int) - 48) = ((l'.getD i 0 - 48 : Nat) : Int) := by rw [IntKind.wrap_u8]; omega
                  have f3 := u_nat (l'.getD i 0 - 48) (by omega)
                  have f4 := wu_add' (10 * c) (l'.getD i 0 - 48) (by omega)
                  have f5 : IntKind.u64.wrap (10 * (p : Int)) = ((10 * p : Nat) : Int) := by rw [IntKind.wrap_u64]; omega
                  have f6 := wi_add1 i (by omega)
                  simp only [oV, oM, oNum]
                  simp (maxSteps := 1000000) only [go_sem, Nat.reduceBEq, Nat.reduceAdd, Nat.reduceLT, Nat.reduceMul, Nat.reduceSub, Nat.reduceLeDiff, Nat.reduceEqDiff, Int.reduceToNat, Nat.reduceBeqDiff, Nat.reduceBneDiff, decide_false, and_self, List.reduceReplicate, List.flatten_cons, List.flatten_nil, true_and, and_true, eq_self, decide_true, reduceIte, reduceCtorEq, List.any_toArray, Region.binds, Int.reduceBEq, Int.reduceBNe, Int.reduceLT, size_bl, get_bl, hl', hin, hil, f1, f2, f3, f4, f5, f6]
                  exact ⟨(i + 1, 10 * c + (l'.getD i 0 - 48), 10 * p), Kept.of rfl (by repeat (first | exact KT.nil | refine KT.upd rfl (by first | rfl | exact hr | exact hr2 | (simp only [go_sem]; done)) ?_)) (KM.p (by repeat (first | exact KMp.nil | refine KMp.upd rfl (by first | rfl | (simp only [go_sem]; done)) ?_))), ⟨by simp only []; omega, by simp only []; rw [valL_take_succ hil, q2], by simp only []; rw [Nat.pow_succ]; omega, by simp only []; rw [q4, Nat.pow_succ, Nat.mul_comm]⟩, by simp only []; omega⟩
                · have hie : i = n := by omega
                  subst hie
                  have hpb := hp10 i hn19
                  rw [← q4] at hpb
                  have hcb : c < 18446744073709551616 := by omega
                  have hs'' : bl (s'.extract i l'.length) = l.drop (k + i) := by
                    rw [bl_extract, hl', p1, List.drop_drop, List.take_of_length_le (by rw [List.length_drop, List.length_drop]; omega)]
                  have hval : valL (l.take (k + i)) = dOf 18446744073709551616 d * p + c := by
                    have e : l.take (k + i) = l.take k ++ l'.take i := by rw [p1, List.take_add]
                    rw [e, valL_app, List.length_take, Nat.min_eq_left hnl, p6, q4, q2]
                  simp only [oV, oM, oNum]
                  simp (maxSteps := 1000000) only [go_sem, Nat.reduceBEq, Nat.reduceAdd, Nat.reduceLT, Nat.reduceMul, Nat.reduceSub, Nat.reduceLeDiff, Nat.reduceEqDiff, Int.reduceToNat, Nat.reduceBeqDiff, Nat.reduceBneDiff, decide_false, and_self, List.reduceReplicate, List.flatten_cons, List.flatten_nil, true_and, and_true, eq_self, decide_true, reduceIte, reduceCtorEq, List.any_toArray, Region.binds, Int.reduceBEq, Int.reduceBNe, Int.reduceLT, hin]
                  obtain ⟨hd0, hn0'⟩ := p7 rfl
                  refine trX_loop HE hP.mix [0] (fun _ : Unit => ⟨upd (upd (upd (upd (upd (upd (upd (upd (upd (fun _ => .junk) 0 (.str s')) 2 (.ref 0 0)) 3 (.int .i64 0)) 5 .nils) 6 (.int .i64 (i : Int))) 7 (.int .u64 (c : Int))) 8 (.int .u64 (p : Int))) 72 (.int .i64 0)) 73 (.int .i64 0), upd (fun _ => .unused) 0 (.live [.int .u64 0, .nils]), 109⟩)
                    (fun _ => True) (fun _ => 0) () 104 (by repeat (first | exact Has.nil | refine Has.upd rfl ?_)) (Kept.of rfl (by repeat (first | exact KT.nil | refine KT.upd rfl (by first | rfl | exact hr | exact hr2 | (simp only [go_sem]; done)) ?_)) (KM.p (by repeat (first | exact KMp.nil | refine KMp.upd rfl (by first | rfl | (simp only [go_sem]; done)) ?_)))) trivial 109 (by kernel_rfl) ?_
                  intro _ _
                  rw [hd0] at hval
                  have hval : valL (l.take (k + i)) = c := by rw [hval]; simp [dOf]
                  by_cases hc : 0 < c
                  · simp (maxSteps := 1000000) only [go_sem, Nat.reduceBEq, Nat.reduceAdd, Nat.reduceLT, Nat.reduceMul, Nat.reduceSub, Nat.reduceLeDiff, Nat.reduceEqDiff, Int.reduceToNat, Nat.reduceBeqDiff, Nat.reduceBneDiff, decide_false, and_self, List.reduceReplicate, List.flatten_cons, List.flatten_nil, true_and, and_true, eq_self, decide_true, reduceIte, reduceCtorEq, List.any_toArray, Region.binds, Int.reduceBEq, Int.reduceBNe, Int.reduceLT, Int.lt_irrefl, hc, size_bl, hl', hnl]
                    exact ⟨⟨by simp, fun _ => trivial⟩, ⟨s'.extract i l'.length, k + i, some (false, false), 1, [c]⟩, Kept.of rfl (by repeat (first | exact KT.nil | refine KT.upd rfl (by first | rfl | exact hr | exact hr2 | (simp only [go_sem]; done)) ?_)) (KM.p (by repeat (first | exact KMp.nil | refine KMp.upd rfl (by first | rfl | (simp only [go_sem]; done)) ?_))), ⟨hs'', by simp only []; omega, rfl, by simp only []; omega, fun x hx => by rw [List.mem_singleton.1 hx]; exact hcb, by simp only []; rw [hval]; simp [dOf], by simp, by simp⟩, by simp only []; omega⟩
                  · simp (maxSteps := 1000000) only [go_sem, Nat.reduceBEq, Nat.reduceAdd, Nat.reduceLT, Nat.reduceMul, Nat.reduceSub, Nat.reduceLeDiff, Nat.reduceEqDiff, Int.reduceToNat, Nat.reduceBeqDiff, Nat.reduceBneDiff, decide_false, and_self, List.reduceReplicate, List.flatten_cons, List.flatten_nil, true_and, and_true, eq_self, decide_true, reduceIte, reduceCtorEq, List.any_toArray, Region.binds, Int.reduceBEq, Int.reduceBNe, Int.reduceLT, Int.lt_irrefl, hc, size_bl, hl', hnl]
                    exact ⟨⟨s'.extract i l'.length, k + i, none, 0, []⟩, Kept.of rfl (by repeat (first | exact KT.nil | refine KT.upd rfl (by first | rfl | exact hr | exact hr2 | (simp only [go_sem]; done)) ?_)) (KM.p (by repeat (first | exact KMp.nil | refine KMp.upd rfl (by first | rfl | (simp only [go_sem]; done)) ?_))), ⟨hs'', by simp only []; omega, rfl, Nat.zero_le _, by simp, by simp only []; rw [hval]; simp [dOf]; omega, fun _ => ⟨rfl, rfl⟩, by simp⟩, by simp only []; omega⟩
              ·
                simp only [oV, oM, oNum]
                simp (maxSteps := 1000000) only [go_sem, Nat.reduceBEq, Nat.reduceAdd, Nat.reduceLT, Nat.reduceMul, Nat.reduceSub, Nat.reduceLeDiff, Nat.reduceEqDiff, Int.reduceToNat, Nat.reduceBeqDiff, Nat.reduceBneDiff, decide_false, and_self, List.reduceReplicate, List.flatten_cons, List.flatten_nil, true_and, and_true, eq_self, decide_true, reduceIte, reduceCtorEq, List.any_toArray, Region.binds, Int.reduceBEq, Int.reduceBNe, Int.reduceLT, size_bl, hl', hl0, w1, w2, w3]
                refine ⟨by decide, ?_⟩
                refine trX_loop HE hP.mix [110, 0] (fun y : Nat × Nat × Nat => ⟨upd (upd (upd (upd (upd (upd (upd (upd (upd (fun _ => .junk) 0 (.str s')) 2 (.ref 0 0)) 3 (.int .i64 0)) 5 (oV (some (false, false)) nd)) 6 (.int .i64 (n : Int))) 7 (.int .u64 (y.2.1 : Int))) 8 (.int .u64 (y.2.2 : Int))) 56 (.int .i64 (n : Int))) 57 (.int .i64 (y.1 : Int)), oM .u64 (upd (fun _ => .unused) 0 (.live [.int .u64 0, .nils])) (some (false, false)) d, 109⟩)
                  (fun y => y.1 ≤ n ∧ y.2.1 = valL (l'.take y.1) ∧ y.2.1 < 10 ^ y.1 ∧ y.2.2 = 10 ^ y.1) (fun y => n - y.1) (0, 0, 1) 20 (by repeat (first | exact Has.nil | refine Has.upd rfl ?_)) (Kept.of rfl (by repeat (first | exact KT.nil | refine KT.upd rfl (by first | rfl | exact hr | exact hr2 | (simp only [go_sem]; done)) ?_)) (KM.p (by repeat (first | exact KMp.nil | refine KMp.upd rfl (by first | rfl | (simp only [go_sem]; done)) ?_)))) ⟨Nat.zero_le _, rfl, by decide, rfl⟩ 109 (by kernel_rfl) ?_
                rintro ⟨i, c, p⟩ ⟨q1, q2, q3, q4⟩
                simp only [] at q1 q2 q3 q4
                by_cases hin : i < n
                · have hil : i < l'.length := by omega
                  obtain ⟨g1, g2⟩ := hdig i hil
                  have g3 : 10 ^ i ≤ 10 ^ 18 := Nat.pow_le_pow_right (by decide) (by omega)
                  have f1 : IntKind.u64.wrap (10 * (c : Int)) = ((10 * c : Nat) : Int) := by rw [IntKind.wrap_u64]; omega
                  have f2 : IntKind.u8.wrap (((l'.getD i 0 : Nat) : Int) - 48) = ((l'.getD i 0 - 48 : Nat) : Int) := by rw [IntKind.wrap_u8]; omega
                  have f3 := u_nat (l'.getD i 0 - 48) (by omega)
                  have f4 := wu_add' (10 * c) (l'.getD i 0 - 48) (by omega)
                  have f5 : IntKind.u64.wrap (10 * (p : Int)) = ((10 * p : Nat) : Int) := by rw [IntKind.wrap_u64]; omega
                  have f6 := wi_add1 i (by omega)
                  simp only [oV, oM, oNum]
                  simp (maxSteps := 1000000) only [go_sem, Nat.reduceBEq, Nat.reduceAdd, Nat.reduceLT, Nat.reduceMul, Nat.reduceSub, Nat.reduceLeDiff, Nat.reduceEqDiff, Int.reduceToNat, Nat.reduceBeqDiff, Nat.reduceBneDiff, decide_false, and_self, List.reduceReplicate, List.flatten_cons, List.flatten_nil, true_and, and_true, eq_self, decide_true, reduceIte, reduceCtorEq, List.any_toArray, Region.binds, Int.reduceBEq, Int.reduceBNe, Int.reduceLT, size_bl, get_bl, hl', hin, hil, f1, f2, f3, f4, f5, f6]
                  exact ⟨(i + 1, 10 * c + (l'.getD i 0 - 48), 10 * p), Kept.of rfl (by repeat (first | exact KT.nil | refine KT.upd rfl (by first | rfl | exact hr | exact hr2 | (simp only [go_sem]; done)) ?_)) (KM.p (by repeat (first | exact KMp.nil | refine KMp.upd rfl (by first | rfl | (simp only [go_sem]; done)) ?_))), ⟨by simp only []; omega, by simp only []; rw [valL_take_succ hil, q2], by simp only []; rw [Nat.pow_succ]; omega, by simp only []; rw [q4, Nat.pow_succ, Nat.mul_comm]⟩, by simp only []; omega⟩
                · have hie : i = n := by omega
                  subst hie
                  have hpb := hp10 i hn19
                  rw [← q4] at hpb
                  have hcb : c < 18446744073709551616 := by omega
                  have hs'' : bl (s'.extract i l'.length) = l.drop (k + i) := by
                    rw [bl_extract, hl', p1, List.drop_drop, List.take_of_length_le (by rw [List.length_drop, List.length_drop]; omega)]
                  have hval : valL (l.take (k + i)) = dOf 18446744073709551616 d * p + c := by
                    have e : l.take (k + i) = l.take k ++ l'.take i := by rw [p1, List.take_add]
                    rw [e, valL_app, List.length_take, Nat.min_eq_left hnl, p6, q4, q2]
                  simp only [oV, oM, oNum]
                  simp (maxSteps := 1000000) only [go_sem, Nat.reduceBEq, Nat.reduceAdd, Nat.reduceLT, Nat.reduceMul, Nat.reduceSub, Nat.reduceLeDiff, Nat.reduceEqDiff, Int.reduceToNat, Nat.reduceBeqDiff, Nat.reduceBneDiff, decide_false, and_self, List.reduceReplicate, List.flatten_cons, List.flatten_nil, true_and, and_true, eq_self, decide_true, reduceIte, reduceCtorEq, List.any_toArray, Region.binds, Int.reduceBEq, Int.reduceBNe, Int.reduceLT, hin]
                  refine trX_loop HE hP.mix [110, 0] (fun y : Nat × List Nat × Nat => ⟨upd (upd (upd (upd (upd (upd (upd (upd (upd (fun _ => .junk) 0 (.str s')) 2 (.ref 0 0)) 3 (.int .i64 0)) 5 (.sl 110 0 nd 1)) 6 (.int .i64 (i : Int))) 7 (.int .u64 (y.2.2 : Int))) 8 (.int .u64 (p : Int))) 72 (.int .i64 (nd : Int))) 73 (.int .i64 (y.1 : Int)), upd (upd (fun _ => .unused) 0 (.live [.int .u64 0, .nils])) 110 (.live (List.map (fun d : Nat => AV.int .u64 (d : Int)) (y.2.1 ++ d.drop y.1))), 109⟩)
                    (fun y => y.1 ≤ nd ∧ y.2.1.length = y.1 ∧ (∀ x ∈ y.2.1, x < 18446744073709551616) ∧ y.2.2 < 18446744073709551616 ∧ dOf 18446744073709551616 y.2.1 + 18446744073709551616 ^ y.1 * y.2.2 = dOf 18446744073709551616 (d.take y.1) * p + c) (fun y => nd - y.1) (0, [], c) 114 (by repeat (first | exact Has.nil | refine Has.upd rfl ?_)) (Kept.of rfl (by repeat (first | exact KT.nil | refine KT.upd rfl (by first | rfl | exact hr | exact hr2 | (simp only [go_sem]; done)) ?_)) (KM.p (by repeat (first | exact KMp.nil | refine KMp.upd rfl (by first | rfl | (simp only [go_sem]; done)) ?_)))) ⟨Nat.zero_le _, rfl, by simp, hcb, by simp [dOf]⟩ 109 (by kernel_rfl) ?_
                  rintro ⟨j, dn, e⟩ ⟨j1, j2, j3, j4, j5⟩
                  simp only [] at j1 j2 j3 j4 j5
                  by_cases hj : j < nd
                  · have hjd : j < d.length := by omega
                    have hxd := p5 _ (getD_mem hjd)
                    have hlen : j < (dn ++ d.drop j).length := by rw [List.length_append, List.length_drop]; omega
                    have hlen' : j < dn.length + (d.length - j) := by omega
                    have hget : (dn ++ d.drop j).getD j 0 = d.getD j 0 := by rw [drop_cons hjd]; exact get_app (R := d.drop (j + 1)) j2
                    have hset : ∀ z, (dn ++ d.drop j).set j z = (dn ++ [z]) ++ d.drop (j + 1) := fun z => by rw [drop_cons hjd, List.append_assoc]; exact set_app (R := d.drop (j + 1)) j2
                    have hcar := away_carry hxd hpb j4
                    have hw2 := wu_add' _ _ hcar
                    have hml := mull_lt (d.getD j 0) p
                    have hwj := wi_add1 j (by omega)
                    simp (maxSteps := 1000000) only [go_sem, Nat.reduceBEq, Nat.reduceAdd, Nat.reduceLT, Nat.reduceMul, Nat.reduceSub, Nat.reduceLeDiff, Nat.reduceEqDiff, Int.reduceToNat, Nat.reduceBeqDiff, Nat.reduceBneDiff, decide_false, and_self, List.reduceReplicate, List.flatten_cons, List.flatten_nil, true_and, and_true, eq_self, decide_true, reduceIte, reduceCtorEq, List.any_toArray, Region.binds, Int.reduceBEq, Int.reduceBNe, Int.reduceLT, hj, hlen, hlen', gU hlen, hget, hset, hxd, hpb, hml, hw2, hwj, upd_upd]
                    refine ⟨(j + 1, dn ++ [addl (mull (d.getD j 0) p) e 0], mulh (d.getD j 0) p + addh (mull (d.getD j 0) p) e 0), Kept.of rfl (by repeat (first | exact KT.nil | refine KT.upd rfl (by first | rfl | exact hr | exact hr2 | (simp only [go_sem]; done)) ?_)) (KM.p (by repeat (first | exact KMp.nil | refine KMp.upd rfl (by first | rfl | (simp only [go_sem]; done)) ?_))), ⟨by simp only []; omega, by simp only [List.length_append, List.length_singleton]; omega, ?_, hcar, ?_⟩, by simp only []; omega⟩
                    · intro x hx
                      rcases List.mem_append.1 hx with hx | hx
                      · exact j3 x hx
                      · rw [List.mem_singleton.1 hx]; exact addl_lt _ _ _
                    · simp only []
                      rw [dOf_snoc, j2, dOf_take_succ 18446744073709551616 d j hjd, Nat.pow_succ]
                      exact mul_acc j5 (away_digit (d.getD j 0) p e)
                  · have hje : j = nd := by omega
                    subst hje
                    have ht : d.take j = d := List.take_of_length_le (by omega)
                    have hdr : d.drop j = [] := List.drop_of_length_le (by omega)
                    rw [ht, ← hval] at j5
                    rw [hdr, List.append_nil]
                    by_cases hc : 0 < e
                    · have hjb : (j + 1) * 8 ≤ 1099511627776 := by omega
                      simp (maxSteps := 1000000) only [go_sem, Nat.reduceBEq, Nat.reduceAdd, Nat.reduceLT, Nat.reduceMul, Nat.reduceSub, Nat.reduceLeDiff, Nat.reduceEqDiff, Int.reduceToNat, Nat.reduceBeqDiff, Nat.reduceBneDiff, decide_false, and_self, List.reduceReplicate, List.flatten_cons, List.flatten_nil, true_and, and_true, eq_self, decide_true, reduceIte, reduceCtorEq, List.any_toArray, Region.binds, Int.reduceBEq, Int.reduceBNe, Int.reduceLT, hj, hc, size_bl, hl', hnl, map_snoc]
                      exact ⟨⟨j2, by simp, fun _ => trivial, hjb⟩, ⟨s'.extract i l'.length, k + i, some (false, true), j + 1, dn ++ [e]⟩, Kept.of rfl (by repeat (first | exact KT.nil | refine KT.upd rfl (by first | rfl | exact hr | exact hr2 | (simp only [go_sem]; done)) ?_)) (KM.p (by repeat (first | exact KMp.nil | refine KMp.upd rfl (by first | rfl | (simp only [go_sem]; done)) ?_))), ⟨hs'', by simp only []; omega, by simp only [List.length_append, List.length_singleton]; omega, by simp only []; omega, fun x hx => by
                        rcases List.mem_append.1 hx with hx | hx
                        · exact j3 x hx
                        · rw [List.mem_singleton.1 hx]; exact j4, by simp only []; rw [dOf_snoc, j2]; exact j5, by simp, by simp⟩, by simp only []; omega⟩
                    · have he0 : e = 0 := by omega
                      rw [he0, Nat.mul_zero, Nat.add_zero] at j5
                      simp (maxSteps := 1000000) only [go_sem, Nat.reduceBEq, Nat.reduceAdd, Nat.reduceLT, Nat.reduceMul, Nat.reduceSub, Nat.reduceLeDiff, Nat.reduceEqDiff, Int.reduceToNat, Nat.reduceBeqDiff, Nat.reduceBneDiff, decide_false, and_self, List.reduceReplicate, List.flatten_cons, List.flatten_nil, true_and, and_true, eq_self, decide_true, reduceIte, reduceCtorEq, List.any_toArray, Region.binds, Int.reduceBEq, Int.reduceBNe, Int.reduceLT, hj, hc, size_bl, hl', hnl]
                      exact ⟨⟨s'.extract i l'.length, k + i, some (false, false), j, dn⟩, Kept.of rfl (by repeat (first | exact KT.nil | refine KT.upd rfl (by first | rfl | exact hr | exact hr2 | (simp only [go_sem]; done)) ?_)) (KM.p (by repeat (first | exact KMp.nil | refine KMp.upd rfl (by first | rfl | (simp only [go_sem]; done)) ?_))), ⟨hs'', by simp only []; omega, j2, by simp only []; omega, j3, j5, by simp, by simp⟩, by simp only []; omega⟩
              ·
                simp only [oV, oM, oNum]
                simp (maxSteps := 1000000) only [go_sem, Nat.reduceBEq, Nat.reduceAdd, Nat.reduceLT, Nat.reduceMul, Nat.reduceSub, Nat.reduceLeDiff, Nat.reduceEqDiff, Int.reduceToNat, Nat.reduceBeqDiff, Nat.reduceBneDiff, decide_false, and_self, List.reduceReplicate, List.flatten_cons, List.flatten_nil, true_and, and_true, eq_self, decide_true, reduceIte, reduceCtorEq, List.any_toArray, Region.binds, Int.reduceBEq, Int.reduceBNe, Int.reduceLT, size_bl, hl', hl0, w1, w2, w3]
                refine ⟨by decide, ?_⟩
                refine trX_loop HE hP.mix [120, 0] (fun y : Nat × Nat × Nat => ⟨upd (upd (upd (upd (upd (upd (upd (upd (upd (fun _ => .junk) 0 (.str s')) 2 (.ref 0 0)) 3 (.int .i64 0)) 5 (oV (some (false, true)) nd)) 6 (.int .i64 (n : Int))) 7 (.int .u64 (y.2.1 : Int))) 8 (.int .u64 (y.2.2 : Int))) 56 (.int .i64 (n : Int))) 57 (.int .i64 (y.1 : Int)), oM .u64 (upd (fun _ => .unused) 0 (.live [.int .u64 0, .nils])) (some (false, true)) d, 109⟩)
                  (fun y => y.1 ≤ n ∧ y.2.1 = valL (l'.take y.1) ∧ y.2.1 < 10 ^ y.1 ∧ y.2.2 = 10 ^ y.1) (fun y => n - y.1) (0, 0, 1) 20 (by repeat (first | exact Has.nil | refine Has.upd rfl ?_)) (Kept.of rfl (by repeat (first | exact KT.nil | refine KT.upd rfl (by first | rfl | exact hr | exact hr2 | (simp only [go_sem]; done)) ?_)) (KM.p (by repeat (first | exact KMp.nil | refine KMp.upd rfl (by first | rfl | (simp only [go_sem]; done)) ?_)))) ⟨Nat.zero_le _, rfl, by decide, rfl⟩ 109 (by kernel_rfl) ?_
                rintro ⟨i, c, p⟩ ⟨q1, q2, q3, q4⟩
                simp only [] at q1 q2 q3 q4
                by_cases hin : i < n
                · have hil : i < l'.length := by omega
                  obtain ⟨g1, g2⟩ := hdig i hil
                  have g3 : 10 ^ i ≤ 10 ^ 18 := Nat.pow_le_pow_right (by decide) (by omega)
                  have f1 : IntKind.u64.wrap (10 * (c : Int)) = ((10 * c : Nat) : Int) := by rw [IntKind.wrap_u64]; omega
                  have f2 : IntKind.u8.wrap (((l'.getD i 0 : Nat) : Int) - 48) = ((l'.getD i 0 - 48 : Nat) : Int) := by rw [IntKind.wrap_u8]; omega
                  have f3 := u_nat (l'.getD i 0 - 48) (by omega)
                  have f4 := wu_add' (10 * c) (l'.getD i 0 - 48) (by omega)
                  have f5 : IntKind.u64.wrap (10 * (p : Int)) = ((10 * p : Nat) : Int) := by rw [IntKind.wrap_u64]; omega
                  have f6 := wi_add1 i (by omega)
                  simp only [oV, oM, oNum]
                  simp (maxSteps := 1000000) only [go_sem, Nat.reduceBEq, Nat.reduceAdd, Nat.reduceLT, Nat.reduceMul, Nat.reduceSub, Nat.reduceLeDiff, Nat.reduceEqDiff, Int.reduceToNat, Nat.reduceBeqDiff, Nat.reduceBneDiff, decide_false, and_self, List.reduceReplicate, List.flatten_cons, List.flatten_nil, true_and, and_true, eq_self, decide_true, reduceIte, reduceCtorEq, List.any_toArray, Region.binds, Int.reduceBEq, Int.reduceBNe, Int.reduceLT, size_bl, get_bl, hl', hin, hil, f1, f2, f3, f4, f5, f6]
                  exact ⟨(i + 1, 10 * c + (l'.getD i 0 - 48), 10 * p), Kept.of rfl (by repeat (first | exact KT.nil | refine KT.upd rfl (by first | rfl | exact hr | exact hr2 | (simp only [go_sem]; done)) ?_)) (KM.p (by repeat (first | exact KMp.nil | refine KMp.upd rfl (by first | rfl | (simp only [go_sem]; done)) ?_))), ⟨by simp only []; omega, by simp only []; rw [valL_take_succ hil, q2], by simp only []; rw [Nat.pow_succ]; omega, by simp only []; rw [q4, Nat.pow_succ, Nat.mul_comm]⟩, by simp only []; omega⟩
                · have hie : i = n := by omega
                  subst hie
                  have hpb := hp10 i hn19
                  rw [← q4] at hpb
                  have hcb : c < 18446744073709551616 := by omega
                  have hs'' : bl (s'.extract i l'.length) = l.drop (k + i) := by
                    rw [bl_extract, hl', p1, List.drop_drop, List.take_of_length_le (by rw [List.length_drop, List.length_drop]; omega)]
                  have hval : valL (l.take (k + i)) = dOf 18446744073709551616 d * p + c := by
                    have e : l.take (k + i) = l.take k ++ l'.take i := by rw [p1, List.take_add]
                    rw [e, valL_app, List.length_take, Nat.min_eq_left hnl, p6, q4, q2]
                  simp only [oV, oM, oNum]
                  simp (maxSteps := 1000000) only [go_sem, Nat.reduceBEq, Nat.reduceAdd, Nat.reduceLT, Nat.reduceMul, Nat.reduceSub, Nat.reduceLeDiff, Nat.reduceEqDiff, Int.reduceToNat, Nat.reduceBeqDiff, Nat.reduceBneDiff, decide_false, and_self, List.reduceReplicate, List.flatten_cons, List.flatten_nil, true_and, and_true, eq_self, decide_true, reduceIte, reduceCtorEq, List.any_toArray, Region.binds, Int.reduceBEq, Int.reduceBNe, Int.reduceLT, hin]
                  refine trX_loop HE hP.mix [120, 0] (fun y : Nat × List Nat × Nat => ⟨upd (upd (upd (upd (upd (upd (upd (upd (upd (fun _ => .junk) 0 (.str s')) 2 (.ref 0 0)) 3 (.int .i64 0)) 5 (.sl 120 0 nd 1)) 6 (.int .i64 (i : Int))) 7 (.int .u64 (y.2.2 : Int))) 8 (.int .u64 (p : Int))) 72 (.int .i64 (nd : Int))) 73 (.int .i64 (y.1 : Int)), upd (upd (fun _ => .unused) 0 (.live [.int .u64 0, .nils])) 120 (.live (List.map (fun d : Nat => AV.int .u64 (d : Int)) (y.2.1 ++ d.drop y.1))), 109⟩)
                    (fun y => y.1 ≤ nd ∧ y.2.1.length = y.1 ∧ (∀ x ∈ y.2.1, x < 18446744073709551616) ∧ y.2.2 < 18446744073709551616 ∧ dOf 18446744073709551616 y.2.1 + 18446744073709551616 ^ y.1 * y.2.2 = dOf 18446744073709551616 (d.take y.1) * p + c) (fun y => nd - y.1) (0, [], c) 104 (by repeat (first | exact Has.nil | refine Has.upd rfl ?_)) (Kept.of rfl (by repeat (first | exact KT.nil | refine KT.upd rfl (by first | rfl | exact hr | exact hr2 | (simp only [go_sem]; done)) ?_)) (KM.p (by repeat (first | exact KMp.nil | refine KMp.upd rfl (by first | rfl | (simp only [go_sem]; done)) ?_)))) ⟨Nat.zero_le _, rfl, by simp, hcb, by simp [dOf]⟩ 109 (by kernel_rfl) ?_
                  rintro ⟨j, dn, e⟩ ⟨j1, j2, j3, j4, j5⟩
                  simp only [] at j1 j2 j3 j4 j5
                  by_cases hj : j < nd
                  · have hjd : j < d.length := by omega
                    have hxd := p5 _ (getD_mem hjd)
                    have hlen : j < (dn ++ d.drop j).length := by rw [List.length_append, List.length_drop]; omega
                    have hlen' : j < dn.length + (d.length - j) := by omega
                    have hget : (dn ++ d.drop j).getD j 0 = d.getD j 0 := by rw [drop_cons hjd]; exact get_app (R := d.drop (j + 1)) j2
                    have hset : ∀ z, (dn ++ d.drop j).set j z = (dn ++ [z]) ++ d.drop (j + 1) := fun z => by rw [drop_cons hjd, List.append_assoc]; exact set_app (R := d.drop (j + 1)) j2
                    have hcar := away_carry hxd hpb j4
                    have hw2 := wu_add' _ _ hcar
                    have hml := mull_lt (d.getD j 0) p
                    have hwj := wi_add1 j (by omega)
                    simp (maxSteps := 1000000) only [go_sem, Nat.reduceBEq, Nat.reduceAdd, Nat.reduceLT, Nat.reduceMul, Nat.reduceSub, Nat.reduceLeDiff, Nat.reduceEqDiff, Int.reduceToNat, Nat.reduceBeqDiff, Nat.reduceBneDiff, decide_false, and_self, List.reduceReplicate, List.flatten_cons, List.flatten_nil, true_and, and_true, eq_self, decide_true, reduceIte, reduceCtorEq, List.any_toArray, Region.binds, Int.reduceBEq, Int.reduceBNe, Int.reduceLT, hj, hlen, hlen', gU hlen, hget, hset, hxd, hpb, hml, hw2, hwj, upd_upd]
                    refine ⟨(j + 1, dn ++ [addl (mull (d.getD j 0) p) e 0], mulh (d.getD j 0) p + addh (mull (d.getD j 0) p) e 0), Kept.of rfl (by repeat (first | exact KT.nil | refine KT.upd rfl (by first | rfl | exact hr | exact hr2 | (simp only [go_sem]; done)) ?_)) (KM.p (by repeat (first | exact KMp.nil | refine KMp.upd rfl (by first | rfl | (simp only [go_sem]; done)) ?_))), ⟨by simp only []; omega, by simp only [List.length_append, List.length_singleton]; omega, ?_, hcar, ?_⟩, by simp only []; omega⟩
                    · intro x hx
                      rcases List.mem_append.1 hx with hx | hx
                      · exact j3 x hx
                      · rw [List.mem_singleton.1 hx]; exact addl_lt _ _ _
                    · simp only []
                      rw [dOf_snoc, j2, dOf_take_succ 18446744073709551616 d j hjd, Nat.pow_succ]
                      exact mul_acc j5 (away_digit (d.getD j 0) p e)
                  · have hje : j = nd := by omega
                    subst hje
                    have ht : d.take j = d := List.take_of_length_le (by omega)
                    have hdr : d.drop j = [] := List.drop_of_length_le (by omega)
                    rw [ht, ← hval] at j5
                    rw [hdr, List.append_nil]
                    by_cases hc : 0 < e
                    · have hjb : (j + 1) * 8 ≤ 1099511627776 := by omega
                      simp (maxSteps := 1000000) only [go_sem, Nat.reduceBEq, Nat.reduceAdd, Nat.reduceLT, Nat.reduceMul, Nat.reduceSub, Nat.reduceLeDiff, Nat.reduceEqDiff, Int.reduceToNat, Nat.reduceBeqDiff, Nat.reduceBneDiff, decide_false, and_self, List.reduceReplicate, List.flatten_cons, List.flatten_nil, true_and, and_true, eq_self, decide_true, reduceIte, reduceCtorEq, List.any_toArray, Region.binds, Int.reduceBEq, Int.reduceBNe, Int.reduceLT, hj, hc, size_bl, hl', hnl, map_snoc]
                      exact ⟨⟨j2, by simp, fun _ => trivial, hjb⟩, ⟨s'.extract i l'.length, k + i, some (false, false), j + 1, dn ++ [e]⟩, Kept.of rfl (by repeat (first | exact KT.nil | refine KT.upd rfl (by first | rfl | exact hr | exact hr2 | (simp only [go_sem]; done)) ?_)) (KM.p (by repeat (first | exact KMp.nil | refine KMp.upd rfl (by first | rfl | (simp only [go_sem]; done)) ?_))), ⟨hs'', by simp only []; omega, by simp only [List.length_append, List.length_singleton]; omega, by simp only []; omega, fun x hx => by
                        rcases List.mem_append.1 hx with hx | hx
                        · exact j3 x hx
                        · rw [List.mem_singleton.1 hx]; exact j4, by simp only []; rw [dOf_snoc, j2]; exact j5, by simp, by simp⟩, by simp only []; omega⟩
                    · have he0 : e = 0 := by omega
                      rw [he0, Nat.mul_zero, Nat.add_zero] at j5
                      simp (maxSteps := 1000000) only [go_sem, Nat.reduceBEq, Nat.reduceAdd, Nat.reduceLT, Nat.reduceMul, Nat.reduceSub, Nat.reduceLeDiff, Nat.reduceEqDiff, Int.reduceToNat, Nat.reduceBeqDiff, Nat.reduceBneDiff, decide_false, and_self, List.reduceReplicate, List.flatten_cons, List.flatten_nil, true_and, and_true, eq_self, decide_true, reduceIte, reduceCtorEq, List.any_toArray, Region.binds, Int.reduceBEq, Int.reduceBNe, Int.reduceLT, hj, hc, size_bl, hl', hnl]
                      exact ⟨⟨s'.extract i l'.length, k + i, some (false, true), j, dn⟩, Kept.of rfl (by repeat (first | exact KT.nil | refine KT.upd rfl (by first | rfl | exact hr | exact hr2 | (simp only [go_sem]; done)) ?_)) (KM.p (by repeat (first | exact KMp.nil | refine KMp.upd rfl (by first | rfl | (simp only [go_sem]; done)) ?_))), ⟨hs'', by simp only []; omega, j2, by simp only []; omega, j3, j5, by simp, by simp⟩, by simp only []; omega⟩
              · exact absurd rfl (p8 false)
              · exact absurd rfl (p8 true)
            · have hl0 : ¬ 0 < l'.length := by omega
              rcases D with _ | ⟨_ | _, _ | _⟩
              · have hd := (p7 rfl).1
                simp only [oV, oM, oNum]
                have htk : d.take nd = d := List.take_of_length_le (by omega)
                have hz3 : (∀ x ∈ d, x < 18446744073709551616) = True := eq_true p5
                have hsl : nd < 4611686018427387904 := by omega
                have hkk : l.take k = l := List.take_of_length_le (by omega)
                rw [hkk] at p6
                simp (maxSteps := 1000000) only [go_sem, Nat.reduceBEq, Nat.reduceAdd, Nat.reduceLT, Nat.reduceMul, Nat.reduceSub, Nat.reduceLeDiff, Nat.reduceEqDiff, Int.reduceToNat, Nat.reduceBeqDiff, Nat.reduceBneDiff, decide_false, and_self, List.reduceReplicate, List.flatten_cons, List.flatten_nil, true_and, and_true, eq_self, decide_true, reduceIte, reduceCtorEq, List.any_toArray, Region.binds, Int.reduceBEq, Int.reduceBNe, Int.reduceLT, size_bl, hl', hl0, htk, hz3, p3, hsl]
                first
                  | (rw [← p6]; exact .refl _)
                  | (rw [← p6, hd]; exact .refl _)
              ·
                simp only [oV, oM, oNum]
                have htk : d.take nd = d := List.take_of_length_le (by omega)
                have hz3 : (∀ x ∈ d, x < 18446744073709551616) = True := eq_true p5
                have hsl : nd < 4611686018427387904 := by omega
                have hkk : l.take k = l := List.take_of_length_le (by omega)
                rw [hkk] at p6
                simp (maxSteps := 1000000) only [go_sem, Nat.reduceBEq, Nat.reduceAdd, Nat.reduceLT, Nat.reduceMul, Nat.reduceSub, Nat.reduceLeDiff, Nat.reduceEqDiff, Int.reduceToNat, Nat.reduceBeqDiff, Nat.reduceBneDiff, decide_false, and_self, List.reduceReplicate, List.flatten_cons, List.flatten_nil, true_and, and_true, eq_self, decide_true, reduceIte, reduceCtorEq, List.any_toArray, Region.binds, Int.reduceBEq, Int.reduceBNe, Int.reduceLT, size_bl, hl', hl0, htk, hz3, p3, hsl]
                first
                  | (rw [← p6]; exact .refl _)
                  | (rw [← p6, hd]; exact .refl _)
              ·
                simp only [oV, oM, oNum]
                have htk : d.take nd = d := List.take_of_length_le (by omega)
                have hz3 : (∀ x ∈ d, x < 18446744073709551616) = True := eq_true p5
                have hsl : nd < 4611686018427387904 := by omega
                have hkk : l.take k = l := List.take_of_length_le (by omega)
                rw [hkk] at p6
                simp (maxSteps := 1000000) only [go_sem, Nat.reduceBEq, Nat.reduceAdd, Nat.reduceLT, Nat.reduceMul, Nat.reduceSub, Nat.reduceLeDiff, Nat.reduceEqDiff, Int.reduceToNat, Nat.reduceBeqDiff, Nat.reduceBneDiff, decide_false, and_self, List.reduceReplicate, List.flatten_cons, List.flatten_nil, true_and, and_true, eq_self, decide_true, reduceIte, reduceCtorEq, List.any_toArray, Region.binds, Int.reduceBEq, Int.reduceBNe, Int.reduceLT, size_bl, hl', hl0, htk, hz3, p3, hsl]
                first
                  | (rw [← p6]; exact .refl _)
                  | (rw [← p6, hd]; exact .refl _)
              · exact absurd rfl (p8 false)
              · exact absurd rfl (p8 true)
    · have h0 : ¬ (1 < l.length ∧ l.getD 0 0 = 48) := fun h => h2 h.1
      simp (maxSteps := 1000000) only [go_sem, Nat.reduceBEq, Nat.reduceAdd, Nat.reduceLT, Nat.reduceMul, Nat.reduceSub, Nat.reduceLeDiff, Nat.reduceEqDiff, Int.reduceToNat, Nat.reduceBeqDiff, Nat.reduceBneDiff, decide_false, and_self, List.reduceReplicate, List.flatten_cons, List.flatten_nil, true_and, and_true, eq_self, decide_true, reduceIte, reduceCtorEq, List.any_toArray, Region.binds, Int.reduceBEq, Int.reduceBNe, Int.reduceLT, toList_nil, size_bl, get_bl, hl, h1', h2]
      refine trX_loop HE hP.mix [0] (fun i : Nat => ⟨upd (upd (upd (upd (upd (fun _ => .junk) 0 (.str s)) 2 (.ref 0 0)) 3 (.int .i64 0)) 28 (.int .i64 (l.length : Int))) 29 (.int .i64 (i : Int)), upd (fun _ => .unused) 0 (.live [.int .u64 0, .nils]), 109⟩)
        (fun i => i ≤ l.length ∧ ∀ j, j < i → 48 ≤ l.getD j 0 ∧ l.getD j 0 ≤ 57) (fun i => l.length - i) 0 20
        (by repeat (first | exact Has.nil | refine Has.upd rfl ?_)) (Kept.of rfl (by repeat (first | exact KT.nil | refine KT.upd rfl (by first | rfl | exact hr | exact hr2 | (simp only [go_sem]; done)) ?_)) (KM.p (by repeat (first | exact KMp.nil | refine KMp.upd rfl (by first | rfl | (simp only [go_sem]; done)) ?_)))) ⟨Nat.zero_le _, fun j hj => absurd hj (Nat.not_lt_zero _)⟩ 109 (by kernel_rfl) ?_
      rintro i ⟨q1, q2⟩
      by_cases hi : i < l.length
      · have hwi := wi_add1 i (by omega)
        have hmem := getD_mem hi
        by_cases c1 : l.getD i 0 < 48
        · have hno : ¬ okD l := fun h => by have := h.2.2 _ hmem; omega
          simp (maxSteps := 1000000) only [go_sem, Nat.reduceBEq, Nat.reduceAdd, Nat.reduceLT, Nat.reduceMul, Nat.reduceSub, Nat.reduceLeDiff, Nat.reduceEqDiff, Int.reduceToNat, Nat.reduceBeqDiff, Nat.reduceBneDiff, decide_false, and_self, List.reduceReplicate, List.flatten_cons, List.flatten_nil, true_and, and_true, eq_self, decide_true, reduceIte, reduceCtorEq, List.any_toArray, Region.binds, Int.reduceBEq, Int.reduceBNe, Int.reduceLT, size_bl, get_bl, hl, hi, c1]
          rw [parse_bad hno]; exact conv12 12
        · by_cases c2 : 57 < l.getD i 0
          · have hno : ¬ okD l := fun h => by have := h.2.2 _ hmem; omega
            simp (maxSteps := 1000000) only [go_sem, Nat.reduceBEq, Nat.reduceAdd, Nat.reduceLT, Nat.reduceMul, Nat.reduceSub, Nat.reduceLeDiff, Nat.reduceEqDiff, Int.reduceToNat, Nat.reduceBeqDiff, Nat.reduceBneDiff, decide_false, and_self, List.reduceReplicate, List.flatten_cons, List.flatten_nil, true_and, and_true, eq_self, decide_true, reduceIte, reduceCtorEq, List.any_toArray, Region.binds, Int.reduceBEq, Int.reduceBNe, Int.reduceLT, size_bl, get_bl, hl, hi, c1, c2]
            rw [parse_bad hno]; exact conv12 12
          · simp (maxSteps := 1000000) only [go_sem, Nat.reduceBEq, Nat.reduceAdd, Nat.reduceLT, Nat.reduceMul, Nat.reduceSub, Nat.reduceLeDiff, Nat.reduceEqDiff, Int.reduceToNat, Nat.reduceBeqDiff, Nat.reduceBneDiff, decide_false, and_self, List.reduceReplicate, List.flatten_cons, List.flatten_nil, true_and, and_true, eq_self, decide_true, reduceIte, reduceCtorEq, List.any_toArray, Region.binds, Int.reduceBEq, Int.reduceBNe, Int.reduceLT, size_bl, get_bl, hl, hi, c1, c2, hwi]
            exact ⟨i + 1, Kept.of rfl (by repeat (first | exact KT.nil | refine KT.upd rfl (by first | rfl | exact hr | exact hr2 | (simp only [go_sem]; done)) ?_)) (KM.p (by repeat (first | exact KMp.nil | refine KMp.upd rfl (by first | rfl | (simp only [go_sem]; done)) ?_))), ⟨by omega, fun j hj => by
              rcases Nat.lt_or_ge j i with h | h
              · exact q2 j h
              · rw [show j = i by omega]; omega⟩, by omega⟩
      · have hok : okD l := ⟨h1, h0, fun c hc => by
          obtain ⟨j, hj, rfl⟩ := List.getElem_of_mem hc
          rw [← getD_get hj]; exact q2 j (by omega)⟩
        clear q1 q2
        by_cases hlg : 256 < l.length
        · simp (maxSteps := 1000000) only [go_sem, Nat.reduceBEq, Nat.reduceAdd, Nat.reduceLT, Nat.reduceMul, Nat.reduceSub, Nat.reduceLeDiff, Nat.reduceEqDiff, Int.reduceToNat, Nat.reduceBeqDiff, Nat.reduceBneDiff, decide_false, and_self, List.reduceReplicate, List.flatten_cons, List.flatten_nil, true_and, and_true, eq_self, decide_true, reduceIte, reduceCtorEq, List.any_toArray, Region.binds, Int.reduceBEq, Int.reduceBNe, Int.reduceLT, size_bl, hl, hi, hlg]
          rw [parse_long hok hlg]; exact conv12 3
        · rw [parse_ok hok (by omega)]
          simp (maxSteps := 1000000) only [go_sem, Nat.reduceBEq, Nat.reduceAdd, Nat.reduceLT, Nat.reduceMul, Nat.reduceSub, Nat.reduceLeDiff, Nat.reduceEqDiff, Int.reduceToNat, Nat.reduceBeqDiff, Nat.reduceBneDiff, decide_false, and_self, List.reduceReplicate, List.flatten_cons, List.flatten_nil, true_and, and_true, eq_self, decide_true, reduceIte, reduceCtorEq, List.any_toArray, Region.binds, Int.reduceBEq, Int.reduceBNe, Int.reduceLT, size_bl, hl, hi, hlg]
          refine trX_loopV HE hP.mix (fun y : PS => oL [0] y.D) (fun y => ⟨upd (upd (upd (upd (fun _ => .junk) 0 (.str y.s)) 2 (.ref 0 0)) 3 (.int .i64 0)) 5 (oV y.D y.n), oM .u64 (upd (fun _ => .unused) 0 (.live [.int .u64 0, .nils])) y.D y.d, 109⟩)
            (fun y => bl y.s = l.drop y.k ∧ y.k ≤ l.length ∧ y.d.length = y.n ∧ y.n ≤ y.k ∧ (∀ x ∈ y.d, x < 18446744073709551616) ∧ dOf 18446744073709551616 y.d = valL (l.take y.k) ∧ (y.D = none → y.d = [] ∧ y.n = 0) ∧ (∀ b, y.D ≠ some (true, b))) (fun y => l.length - y.k) ⟨s, 0, none, 0, []⟩ (fun _ => 20)
            (fun x r hr => oL_has (by repeat (first | exact Has.nil | refine Has.upd rfl ?_)) x.D r hr) (Kept.of rfl (by repeat (first | exact KT.nil | refine KT.upd rfl (by first | rfl | exact hr | exact hr2 | (simp only [go_sem]; done)) ?_)) (KM.p (by repeat (first | exact KMp.nil | refine KMp.upd rfl (by first | rfl | (simp only [go_sem]; done)) ?_)))) ⟨hl, Nat.zero_le _, rfl, Nat.le_refl _, by simp, rfl, fun _ => ⟨rfl, rfl⟩, by simp⟩ 109 (by kernel_rfl) ?_
          rintro ⟨s', k, D, nd, d⟩ ⟨p1, p2, p3, p4, p5, p6, p7, p8⟩
          simp only [] at p1 p2 p3 p4 p5 p6 p7 p8
          obtain ⟨l', hl'⟩ : ∃ l', bl s' = l' := ⟨_, rfl⟩
          rw [hl'] at p1
          have hll : l'.length = l.length - k := by rw [p1, List.length_drop]
          by_cases hk : k < l.length
          · have hl0 : 0 < l'.length := by omega
            obtain ⟨n, hn⟩ : ∃ n, (l'.length - 1) % 19 + 1 = n := ⟨_, rfl⟩
            have hnl : n ≤ l'.length := by have := Nat.mod_le (l'.length - 1) 19; omega
            have hn19 : n ≤ 19 := by have := Nat.mod_lt (l'.length - 1) (show 0 < 19 by decide); omega
            have hn0 : 0 < n := by omega
            have w1 : IntKind.i64.wrap ((l'.length : Int) - 1) = ((l'.length - 1 : Nat) : Int) := by rw [IntKind.wrap_i64]; omega
            have w2 : ((l'.length - 1 : Nat) : Int).tmod 19 = (((l'.length - 1) % 19 : Nat) : Int) := rfl
            have w3 : IntKind.i64.wrap ((((l'.length - 1) % 19 : Nat) : Int) + 1) = (n : Int) := by rw [IntKind.wrap_i64]; omega
            have hdig : ∀ i, i < l'.length → 48 ≤ l'.getD i 0 ∧ l'.getD i 0 ≤ 57 := fun i hi => hok.2.2 _ (by rw [p1] at hi ⊢; exact List.mem_of_mem_drop (getD_mem hi))
            have hp10 : ∀ i, i ≤ 19 → 10 ^ i < 18446744073709551616 := fun i hi => Nat.lt_of_le_of_lt (Nat.pow_le_pow_right (by decide) hi) (by decide)
            rcases D with _ | ⟨_ | _, _ | _⟩
            ·
              simp only [oV, oM, oNum]
              simp (maxSteps := 1000000) only [go_sem, Nat.reduceBEq, Nat.reduceAdd, Nat.reduceLT, Nat.reduceMul, Nat.reduceSub, Nat.reduceLeDiff, Nat.reduceEqDiff, Int.reduceToNat, Nat.reduceBeqDiff, Nat.reduceBneDiff, decide_false, and_self, List.reduceReplicate, List.flatten_cons, List.flatten_nil, true_and, and_true, eq_self, decide_true, reduceIte, reduceCtorEq, List.any_toArray, Region.binds, Int.reduceBEq, Int.reduceBNe, Int.reduceLT, size_bl, hl', hl0, w1, w2, w3]
              refine ⟨by decide, ?_⟩
              refine trX_loop HE hP.mix [0] (fun y : Nat × Nat × Nat => ⟨upd (upd (upd (upd (upd (upd (upd (upd (upd (fun _ => .junk) 0 (.str s')) 2 (.ref 0 0)) 3 (.int .i64 0)) 5 (oV none nd)) 6 (.int .i64 (n : Int))) 7 (.int .u64 (y.2.1 : Int))) 8 (.int .u64 (y.2.2 : Int))) 56 (.int .i64 (n : Int))) 57 (.int .i64 (y.1 : Int)), oM .u64 (upd (fun _ => .unused) 0 (.live [.int .u64 0, .nils])) none d, 109⟩)
                (fun y => y.1 ≤ n ∧ y.2.1 = valL (l'.take y.1) ∧ y.2.1 < 10 ^ y.1 ∧ y.2.2 = 10 ^ y.1) (fun y => n - y.1) (0, 0, 1) 20 (by repeat (first | exact Has.nil | refine Has.upd rfl ?_)) (Kept.of rfl (by repeat (first | exact KT.nil | refine KT.upd rfl (by first | rfl | exact hr | exact hr2 | (simp only [go_sem]; done)) ?_)) (KM.p (by repeat (first | exact KMp.nil | refine KMp.upd rfl (by first | rfl | (simp only [go_sem]; done)) ?_)))) ⟨Nat.zero_le _, rfl, by decide, rfl⟩ 109 (by kernel_rfl) ?_
              rintro ⟨i, c, p⟩ ⟨q1, q2, q3, q4⟩
              simp only [] at q1 q2 q3 q4
              by_cases hin : i < n
              · have hil : i < l'.length := by omega
                obtain ⟨g1, g2⟩ := hdig i hil
                have g3 : 10 ^ i ≤ 10 ^ 18 := Nat.pow_le_pow_right (by decide) (by omega)
                have f1 : IntKind.u64.wrap (10 * (c : Int)) = ((10 * c : Nat) : Int) := by rw [IntKind.wrap_u64]; omega
                have f2 : IntKind.u8.wrap (((l'.getD i 0 : Nat) : Int) - 48) = ((l'.getD i 0 - 48 : Nat) : Int) := by rw [IntKind.wrap_u8]; omega
                have f3 := u_nat (l'.getD i 0 - 48) (by omega)
                have f4 := wu_add' (10 * c) (l'.getD i 0 - 48) (by omega)
                have f5 : IntKind.u64.wrap (10 * (p : Int)) = ((10 * p : Nat) : Int) := by rw [IntKind.wrap_u64]; omega
                have f6 := wi_add1 i (by omega)
                simp only [oV, oM, oNum]
                simp (maxSteps := 1000000) only [go_sem, Nat.reduceBEq, Nat.reduceAdd, Nat.reduceLT, Nat.reduceMul, Nat.reduceSub, Nat.reduceLeDiff, Nat.reduceEqDiff, Int.reduceToNat, Nat.reduceBeqDiff, Nat.reduceBneDiff, decide_false, and_self, List.reduceReplicate, List.flatten_cons, List.flatten_nil, true_and, and_true, eq_self, decide_true, reduceIte, reduceCtorEq, List.any_toArray, Region.binds, Int.reduceBEq, Int.reduceBNe, Int.reduceLT, size_bl, get_bl, hl', hin, hil, f1, f2, f3, f4, f5, f6]
                exact ⟨(i + 1, 10 * c + (l'.getD i 0 - 48), 10 * p), Kept.of rfl (by repeat (first | exact KT.nil | refine KT.upd rfl (by first | rfl | exact hr | exact hr2 | (simp only [go_sem]; done)) ?_)) (KM.p (by repeat (first | exact KMp.nil | refine KMp.upd rfl (by first | rfl | (simp only [go_sem]; done)) ?_))), ⟨by simp only []; omega, by simp only []; rw [valL_take_succ hil, q2], by simp only []; rw [Nat.pow_succ]; omega, by simp only []; rw [q4, Nat.pow_succ, Nat.mul_comm]⟩, by simp only []; omega⟩
              · have hie : i = n := by omega
                subst hie
                have hpb := hp10 i hn19
                rw [← q4] at hpb
                have hcb : c < 18446744073709551616 := by omega
                have hs'' : bl (s'.extract i l'.length) = l.drop (k + i) := by
                  rw [bl_extract, hl', p1, List.drop_drop, List.take_of_length_le (by rw [List.length_drop, List.length_drop]; omega)]
                have hval : valL (l.take (k + i)) = dOf 18446744073709551616 d * p + c := by
                  have e : l.take (k + i) = l.take k ++ l'.take i := by rw [p1, List.take_add]
                  rw [e, valL_app, List.length_take, Nat.min_eq_left hnl, p6, q4, q2]
                simp only [oV, oM, oNum]
                simp (maxSteps := 1000000) only [go_sem, Nat.reduceBEq, Nat.reduceAdd, Nat.reduceLT, Nat.reduceMul, Nat.reduceSub, Nat.reduceLeDiff, Nat.reduceEqDiff, Int.reduceToNat, Nat.reduceBeqDiff, Nat.reduceBneDiff, decide_false, and_self, List.reduceReplicate, List.flatten_cons, List.flatten_nil, true_and, and_true, eq_self, decide_true, reduceIte, reduceCtorEq, List.any_toArray, Region.binds, Int.reduceBEq, Int.reduceBNe, Int.reduceLT, hin]
                obtain ⟨hd0, hn0'⟩ := p7 rfl
                refine trX_loop HE hP.mix [0] (fun _ : Unit => ⟨upd (upd (upd (upd (upd (upd (upd (upd (upd (fun _ => .junk) 0 (.str s')) 2 (.ref 0 0)) 3 (.int .i64 0)) 5 .nils) 6 (.int .i64 (i : Int))) 7 (.int .u64 (c : Int))) 8 (.int .u64 (p : Int))) 72 (.int .i64 0)) 73 (.int .i64 0), upd (fun _ => .unused) 0 (.live [.int .u64 0, .nils]), 109⟩)
                  (fun _ => True) (fun _ => 0) () 104 (by repeat (first | exact Has.nil | refine Has.upd rfl ?_)) (Kept.of rfl (by repeat (first | exact KT.nil | refine KT.upd rfl (by first | rfl | exact hr | exact hr2 | (simp only [go_sem]; done)) ?_)) (KM.p (by repeat (first | exact KMp.nil | refine KMp.upd rfl (by first | rfl | (simp only [go_sem]; done)) ?_)))) trivial 109 (by kernel_rfl) ?_
                intro _ _
                rw [hd0] at hval
                have hval : valL (l.take (k + i)) = c := by rw [hval]; simp [dOf]
                by_cases hc : 0 < c
                · simp (maxSteps := 1000000) only [go_sem, Nat.reduceBEq, Nat.reduceAdd, Nat.reduceLT, Nat.reduceMul, Nat.reduceSub, Nat.reduceLeDiff, Nat.reduceEqDiff, Int.reduceToNat, Nat.reduceBeqDiff, Nat.reduceBneDiff, decide_false, and_self, List.reduceReplicate, List.flatten_cons, List.flatten_nil, true_and, and_true, eq_self, decide_true, reduceIte, reduceCtorEq, List.any_toArray, Region.binds, Int.reduceBEq, Int.reduceBNe, Int.reduceLT, Int.lt_irrefl, hc, size_bl, hl', hnl]
                  exact ⟨⟨by simp, fun _ => trivial⟩, ⟨s'.extract i l'.length, k + i, some (false, false), 1, [c]⟩, Kept.of rfl (by repeat (first | exact KT.nil | refine KT.upd rfl (by first | rfl | exact hr | exact hr2 | (simp only [go_sem]; done)) ?_)) (KM.p (by repeat (first | exact KMp.nil | refine KMp.upd rfl (by first | rfl | (simp only [go_sem]; done)) ?_))), ⟨hs'', by simp only []; omega, rfl, by simp only []; omega, fun x hx => by rw [List.mem_singleton.1 hx]; exact hcb, by simp only []; rw [hval]; simp [dOf], by simp, by simp⟩, by simp only []; omega⟩
                · simp (maxSteps := 1000000) only [go_sem, Nat.reduceBEq, Nat.reduceAdd, Nat.reduceLT, Nat.reduceMul, Nat.reduceSub, Nat.reduceLeDiff, Nat.reduceEqDiff, Int.reduceToNat, Nat.reduceBeqDiff, Nat.reduceBneDiff, decide_false, and_self, List.reduceReplicate, List.flatten_cons, List.flatten_nil, true_and, and_true, eq_self, decide_true, reduceIte, reduceCtorEq, List.any_toArray, Region.binds, Int.reduceBEq, Int.reduceBNe, Int.reduceLT, Int.lt_irrefl, hc, size_bl, hl', hnl]
                  exact ⟨⟨s'.extract i l'.length, k + i, none, 0, []⟩, Kept.of rfl (by repeat (first | exact KT.nil | refine KT.upd rfl (by first | rfl | exact hr | exact hr2 | (simp only [go_sem]; done)) ?_)) (KM.p (by repeat (first | exact KMp.nil | refine KMp.upd rfl (by first | rfl | (simp only [go_sem]; done)) ?_))), ⟨hs'', by simp only []; omega, rfl, Nat.zero_le _, by simp, by simp only []; rw [hval]; simp [dOf]; omega, fun _ => ⟨rfl, rfl⟩, by simp⟩, by simp only []; omega⟩
            ·
              simp only [oV, oM, oNum]
              simp (maxSteps := 1000000) only [go_sem, Nat.reduceBEq, Nat.reduceAdd, Nat.reduceLT, Nat.reduceMul, Nat.reduceSub, Nat.reduceLeDiff, Nat.reduceEqDiff, Int.reduceToNat, Nat.reduceBeqDiff, Nat.reduceBneDiff, decide_false, and_self, List.reduceReplicate, List.flatten_cons, List.flatten_nil, true_and, and_true, eq_self, decide_true, reduceIte, reduceCtorEq, List.any_toArray, Region.binds, Int.reduceBEq, Int.reduceBNe, Int.reduceLT, size_bl, hl', hl0, w1, w2, w3]
              refine ⟨by decide, ?_⟩
              refine trX_loop HE hP.mix [110, 0] (fun y : Nat × Nat × Nat => ⟨upd (upd (upd (upd (upd (upd (upd (upd (upd (fun _ => .junk) 0 (.str s')) 2 (.ref 0 0)) 3 (.int .i64 0)) 5 (oV (some (false, false)) nd)) 6 (.int .i64 (n : Int))) 7 (.int .u64 (y.2.1 : Int))) 8 (.int .u64 (y.2.2 : Int))) 56 (.int .i64 (n : Int))) 57 (.int .i64 (y.1 : Int)), oM .u64 (upd (fun _ => .unused) 0 (.live [.int .u64 0, .nils])) (some (false, false)) d, 109⟩)
                (fun y => y.1 ≤ n ∧ y.2.1 = valL (l'.take y.1) ∧ y.2.1 < 10 ^ y.1 ∧ y.2.2 = 10 ^ y.1) (fun y => n - y.1) (0, 0, 1) 20 (by repeat (first | exact Has.nil | refine Has.upd rfl ?_)) (Kept.of rfl (by repeat (first | exact KT.nil | refine KT.upd rfl (by first | rfl | exact hr | exact hr2 | (simp only [go_sem]; done)) ?_)) (KM.p (by repeat (first | exact KMp.nil | refine KMp.upd rfl (by first | rfl | (simp only [go_sem]; done)) ?_)))) ⟨Nat.zero_le _, rfl, by decide, rfl⟩ 109 (by kernel_rfl) ?_
              rintro ⟨i, c, p⟩ ⟨q1, q2, q3, q4⟩
              simp only [] at q1 q2 q3 q4
              by_cases hin : i < n
              · have hil : i < l'.length := by omega
                obtain ⟨g1, g2⟩ := hdig i hil
                have g3 : 10 ^ i ≤ 10 ^ 18 := Nat.pow_le_pow_right (by decide) (by omega)
                have f1 : IntKind.u64.wrap (10 * (c : Int)) = ((10 * c : Nat) : Int) := by rw [IntKind.wrap_u64]; omega
                have f2 : IntKind.u8.wrap (((l'.getD i 0 : Nat) : Int) - 48) = ((l'.getD i 0 - 48 : Nat) : Int) := by rw [IntKind.wrap_u8]; omega
                have f3 := u_nat (l'.getD i 0 - 48) (by omega)
                have f4 := wu_add' (10 * c) (l'.getD i 0 - 48) (by omega)
                have f5 : IntKind.u64.wrap (10 * (p : Int)) = ((10 * p : Nat) : Int) := by rw [IntKind.wrap_u64]; omega
                have f6 := wi_add1 i (by omega)
                simp only [oV, oM, oNum]
                simp (maxSteps := 1000000) only [go_sem, Nat.reduceBEq, Nat.reduceAdd, Nat.reduceLT, Nat.reduceMul, Nat.reduceSub, Nat.reduceLeDiff, Nat.reduceEqDiff, Int.reduceToNat, Nat.reduceBeqDiff, Nat.reduceBneDiff, decide_false, and_self, List.reduceReplicate, List.flatten_cons, List.flatten_nil, true_and, and_true, eq_self, decide_true, reduceIte, reduceCtorEq, List.any_toArray, Region.binds, Int.reduceBEq, Int.reduceBNe, Int.reduceLT, size_bl, get_bl, hl', hin, hil, f1, f2, f3, f4, f5, f6]
                exact ⟨(i + 1, 10 * c + (l'.getD i 0 - 48), 10 * p), Kept.of rfl (by repeat (first | exact KT.nil | refine KT.upd rfl (by first | rfl | exact hr | exact hr2 | (simp only [go_sem]; done)) ?_)) (KM.p (by repeat (first | exact KMp.nil | refine KMp.upd rfl (by first | rfl | (simp only [go_sem]; done)) ?_))), ⟨by simp only []; omega, by simp only []; rw [valL_take_succ hil, q2], by simp only []; rw [Nat.pow_succ]; omega, by simp only []; rw [q4, Nat.pow_succ, Nat.mul_comm]⟩, by simp only []; omega⟩
              · have hie : i = n := by omega
                subst hie
                have hpb := hp10 i hn19
                rw [← q4] at hpb
                have hcb : c < 18446744073709551616 := by omega
                have hs'' : bl (s'.extract i l'.length) = l.drop (k + i) := by
                  rw [bl_extract, hl', p1, List.drop_drop, List.take_of_length_le (by rw [List.length_drop, List.length_drop]; omega)]
                have hval : valL (l.take (k + i)) = dOf 18446744073709551616 d * p + c := by
                  have e : l.take (k + i) = l.take k ++ l'.take i := by rw [p1, List.take_add]
                  rw [e, valL_app, List.length_take, Nat.min_eq_left hnl, p6, q4, q2]
                simp only [oV, oM, oNum]
                simp (maxSteps := 1000000) only [go_sem, Nat.reduceBEq, Nat.reduceAdd, Nat.reduceLT, Nat.reduceMul, Nat.reduceSub, Nat.reduceLeDiff, Nat.reduceEqDiff, Int.reduceToNat, Nat.reduceBeqDiff, Nat.reduceBneDiff, decide_false, and_self, List.reduceReplicate, List.flatten_cons, List.flatten_nil, true_and, and_true, eq_self, decide_true, reduceIte, reduceCtorEq, List.any_toArray, Region.binds, Int.reduceBEq, Int.reduceBNe, Int.reduceLT, hin]
                refine trX_loop HE hP.mix [110, 0] (fun y : Nat × List Nat × Nat => ⟨upd (upd (upd (upd (upd (upd (upd (upd (upd (fun _ => .junk) 0 (.str s')) 2 (.ref 0 0)) 3 (.int .i64 0)) 5 (.sl 110 0 nd 1)) 6 (.int .i64 (i : Int))) 7 (.int .u64 (y.2.2 : Int))) 8 (.int .u64 (p : Int))) 72 (.int .i64 (nd : Int))) 73 (.int .i64 (y.1 : Int)), upd (upd (fun _ => .unused) 0 (.live [.int .u64 0, .nils])) 110 (.live (List.map (fun d : Nat => AV.int .u64 (d : Int)) (y.2.1 ++ d.drop y.1))), 109⟩)
                  (fun y => y.1 ≤ nd ∧ y.2.1.length = y.1 ∧ (∀ x ∈ y.2.1, x < 18446744073709551616) ∧ y.2.2 < 18446744073709551616 ∧ dOf 18446744073709551616 y.2.1 + 18446744073709551616 ^ y.1 * y.2.2 = dOf 18446744073709551616 (d.take y.1) * p + c) (fun y => nd - y.1) (0, [], c) 114 (by repeat (first | exact Has.nil | refine Has.upd rfl ?_)) (Kept.of rfl (by repeat (first | exact KT.nil | refine KT.upd rfl (by first | rfl | exact hr | exact hr2 | (simp only [go_sem]; done)) ?_)) (KM.p (by repeat (first | exact KMp.nil | refine KMp.upd rfl (by first | rfl | (simp only [go_sem]; done)) ?_)))) ⟨Nat.zero_le _, rfl, by simp, hcb, by simp [dOf]⟩ 109 (by kernel_rfl) ?_
                rintro ⟨j, dn, e⟩ ⟨j1, j2, j3, j4, j5⟩
                simp only [] at j1 j2 j3 j4 j5
                by_cases hj : j < nd
                · have hjd : j < d.length := by omega
                  have hxd := p5 _ (getD_mem hjd)
                  have hlen : j < (dn ++ d.drop j).length := by rw [List.length_append, List.length_drop]; omega
                  have hlen' : j < dn.length + (d.length - j) := by omega
                  have hget : (dn ++ d.drop j).getD j 0 = d.getD j 0 := by rw [drop_cons hjd]; exact get_app (R := d.drop (j + 1)) j2
                  have hset : ∀ z, (dn ++ d.drop j).set j z = (dn ++ [z]) ++ d.drop (j + 1) := fun z => by rw [drop_cons hjd, List.append_assoc]; exact set_app (R := d.drop (j + 1)) j2
                  have hcar := away_carry hxd hpb j4
                  have hw2 := wu_add' _ _ hcar
                  have hml := mull_lt (d.getD j 0) p
                  have hwj := wi_add1 j (by omega)
                  simp (maxSteps := 1000000) only [go_sem, Nat.reduceBEq, Nat.reduceAdd, Nat.reduceLT, Nat.reduceMul, Nat.reduceSub, Nat.reduceLeDiff, Nat.reduceEqDiff, Int.reduceToNat, Nat.reduceBeqDiff, Nat.reduceBneDiff, decide_false, and_self, List.reduceReplicate, List.flatten_cons, List.flatten_nil, true_and, and_true, eq_self, decide_true, reduceIte, reduceCtorEq, List.any_toArray, Region.binds, Int.reduceBEq, Int.reduceBNe, Int.reduceLT, hj, hlen, hlen', gU hlen, hget, hset, hxd, hpb, hml, hw2, hwj, upd_upd]
                  refine ⟨(j + 1, dn ++ [addl (mull (d.getD j 0) p) e 0], mulh (d.getD j 0) p + addh (mull (d.getD j 0) p) e 0), Kept.of rfl (by repeat (first | exact KT.nil | refine KT.upd rfl (by first | rfl | exact hr | exact hr2 | (simp only [go_sem]; done)) ?_)) (KM.p (by repeat (first | exact KMp.nil | refine KMp.upd rfl (by first | rfl | (simp only [go_sem]; done)) ?_))), ⟨by simp only []; omega, by simp only [List.length_append, List.length_singleton]; omega, ?_, hcar, ?_⟩, by simp only []; omega⟩
                  · intro x hx
                    rcases List.mem_append.1 hx with hx | hx
                    · exact j3 x hx
                    · rw [List.mem_singleton.1 hx]; exact addl_lt _ _ _
                  · simp only []
                    rw [dOf_snoc, j2, dOf_take_succ 18446744073709551616 d j hjd, Nat.pow_succ]
                    exact mul_acc j5 (away_digit (d.getD j 0) p e)
                · have hje : j = nd := by omega
                  subst hje
                  have ht : d.take j = d := List.take_of_length_le (by omega)
                  have hdr : d.drop j = [] := List.drop_of_length_le (by omega)
                  rw [ht, ← hval] at j5
                  rw [hdr, List.append_nil]
                  by_cases hc : 0 < e
                  · have hjb : (j + 1) * 8 ≤ 1099511627776 := by omega
                    simp (maxSteps := 1000000) only [go_sem, Nat.reduceBEq, Nat.reduceAdd, Nat.reduceLT, Nat.reduceMul, Nat.reduceSub, Nat.reduceLeDiff, Nat.reduceEqDiff, Int.reduceToNat, Nat.reduceBeqDiff, Nat.reduceBneDiff, decide_false, and_self, List.reduceReplicate, List.flatten_cons, List.flatten_nil, true_and, and_true, eq_self, decide_true, reduceIte, reduceCtorEq, List.any_toArray, Region.binds, Int.reduceBEq, Int.reduceBNe, Int.reduceLT, hj, hc, size_bl, hl', hnl, map_snoc]
                    exact ⟨⟨j2, by simp, fun _ => trivial, hjb⟩, ⟨s'.extract i l'.length, k + i, some (false, true), j + 1, dn ++ [e]⟩, Kept.of rfl (by repeat (first | exact KT.nil | refine KT.upd rfl (by first | rfl | exact hr | exact hr2 | (simp only [go_sem]; done)) ?_)) (KM.p (by repeat (first | exact KMp.nil | refine KMp.upd rfl (by first | rfl | (simp only [go_sem]; done)) ?_))), ⟨hs'', by simp only []; omega, by simp only [List.length_append, List.length_singleton]; omega, by simp only []; omega, fun x hx => by
                      rcases List.mem_append.1 hx with hx | hx
                      · exact j3 x hx
                      · rw [List.mem_singleton.1 hx]; exact j4, by simp only []; rw [dOf_snoc, j2]; exact j5, by simp, by simp⟩, by simp only []; omega⟩
                  · have he0 : e = 0 := by omega
                    rw [he0, Nat.mul_zero, Nat.add_zero] at j5
                    simp (maxSteps := 1000000) only [go_sem, Nat.reduceBEq, Nat.reduceAdd, Nat.reduceLT, Nat.reduceMul, Nat.reduceSub, Nat.reduceLeDiff, Nat.reduceEqDiff, Int.reduceToNat, Nat.reduceBeqDiff, Nat.reduceBneDiff, decide_false, and_self, List.reduceReplicate, List.flatten_cons, List.flatten_nil, true_and, and_true, eq_self, decide_true, reduceIte, reduceCtorEq, List.any_toArray, Region.binds, Int.reduceBEq, Int.reduceBNe, Int.reduceLT, hj, hc, size_bl, hl', hnl]
                    exact ⟨⟨s'.extract i l'.length, k + i, some (false, false), j, dn⟩, Kept.of rfl (by repeat (first | exact KT.nil | refine KT.upd rfl (by first | rfl | exact hr | exact hr2 | (simp only [go_sem]; done)) ?_)) (KM.p (by repeat (first | exact KMp.nil | refine KMp.upd rfl (by first | rfl | (simp only [go_sem]; done)) ?_))), ⟨hs'', by simp only []; omega, j2, by simp only []; omega, j3, j5, by simp, by simp⟩, by simp only []; omega⟩
            ·
              simp only [oV, oM, oNum]
              simp (maxSteps := 1000000) only [go_sem, Nat.reduceBEq, Nat.reduceAdd, Nat.reduceLT, Nat.reduceMul, Nat.reduceSub, Nat.reduceLeDiff, Nat.reduceEqDiff, Int.reduceToNat, Nat.reduceBeqDiff, Nat.reduceBneDiff, decide_false, and_self, List.reduceReplicate, List.flatten_cons, List.flatten_nil, true_and, and_true, eq_self, decide_true, reduceIte, reduceCtorEq, List.any_toArray, Region.binds, Int.reduceBEq, Int.reduceBNe, Int.reduceLT, size_bl, hl', hl0, w1, w2, w3]
              refine ⟨by decide, ?_⟩
              refine trX_loop HE hP.mix [120, 0] (fun y : Nat × Nat × Nat => ⟨upd (upd (upd (upd (upd (upd (upd (upd (upd (fun _ => .junk) 0 (.str s')) 2 (.ref 0 0)) 3 (.int .i64 0)) 5 (oV (some (false, true)) nd)) 6 (.int .i64 (n : Int))) 7 (.int .u64 (y.2.1 : Int))) 8 (.int .u64 (y.2.2 : Int))) 56 (.int .i64 (n : Int))) 57 (.int .i64 (y.1 : Int)), oM .u64 (upd (fun _ => .unused) 0 (.live [.int .u64 0, .nils])) (some (false, true)) d, 109⟩)
                (fun y => y.1 ≤ n ∧ y.2.1 = valL (l'.take y.1) ∧ y.2.1 < 10 ^ y.1 ∧ y.2.2 = 10 ^ y.1) (fun y => n - y.1) (0, 0, 1) 20 (by repeat (first | exact Has.nil | refine Has.upd rfl ?_)) (Kept.of rfl (by repeat (first | exact KT.nil | refine KT.upd rfl (by first | rfl | exact hr | exact hr2 | (simp only [go_sem]; done)) ?_)) (KM.p (by repeat (first | exact KMp.nil | refine KMp.upd rfl (by first | rfl | (simp only [go_sem]; done)) ?_)))) ⟨Nat.zero_le _, rfl, by decide, rfl⟩ 109 (by kernel_rfl) ?_
              rintro ⟨i, c, p⟩ ⟨q1, q2, q3, q4⟩
              simp only [] at q1 q2 q3 q4
              by_cases hin : i < n
              · have hil : i < l'.length := by omega
                obtain ⟨g1, g2⟩ := hdig i hil
                have g3 : 10 ^ i ≤ 10 ^ 18 := Nat.pow_le_pow_right (by decide) (by omega)
                have f1 : IntKind.u64.wrap (10 * (c : Int)) = ((10 * c : Nat) : Int) := by rw [IntKind.wrap_u64]; omega
                have f2 : IntKind.u8.wrap (((l'.getD i 0 : Nat) : Int) - 48) = ((l'.getD i 0 - 48 : Nat) : Int) := by rw [IntKind.wrap_u8]; omega
                have f3 := u_nat (l'.getD i 0 - 48) (by omega)
                have f4 := wu_add' (10 * c) (l'.getD i 0 - 48) (by omega)
                have f5 : IntKind.u64.wrap (10 * (p : Int)) = ((10 * p : Nat) : Int) := by rw [IntKind.wrap_u64]; omega
                have f6 := wi_add1 i (by omega)
                simp only [oV, oM, oNum]
                simp (maxSteps := 1000000) only [go_sem, Nat.reduceBEq, Nat.reduceAdd, Nat.reduceLT, Nat.reduceMul, Nat.reduceSub, Nat.reduceLeDiff, Nat.reduceEqDiff, Int.reduceToNat, Nat.reduceBeqDiff, Nat.reduceBneDiff, decide_false, and_self, List.reduceReplicate, List.flatten_cons, List.flatten_nil, true_and, and_true, eq_self, decide_true, reduceIte, reduceCtorEq, List.any_toArray, Region.binds, Int.reduceBEq, Int.reduceBNe, Int.reduceLT, size_bl, get_bl, hl', hin, hil, f1, f2, f3, f4, f5, f6]
                exact ⟨(i + 1, 10 * c + (l'.getD i 0 - 48), 10 * p), Kept.of rfl (by repeat (first | exact KT.nil | refine KT.upd rfl (by first | rfl | exact hr | exact hr2 | (simp only [go_sem]; done)) ?_)) (KM.p (by repeat (first | exact KMp.nil | refine KMp.upd rfl (by first | rfl | (simp only [go_sem]; done)) ?_))), ⟨by simp only []; omega, by simp only []; rw [valL_take_succ hil, q2], by simp only []; rw [Nat.pow_succ]; omega, by simp only []; rw [q4, Nat.pow_succ, Nat.mul_comm]⟩, by simp only []; omega⟩
              · have hie : i = n := by omega
                subst hie
                have hpb := hp10 i hn19
                rw [← q4] at hpb
                have hcb : c < 18446744073709551616 := by omega
                have hs'' : bl (s'.extract i l'.length) = l.drop (k + i) := by
                  rw [bl_extract, hl', p1, List.drop_drop, List.take_of_length_le (by rw [List.length_drop, List.length_drop]; omega)]
                have hval : valL (l.take (k + i)) = dOf 18446744073709551616 d * p + c := by
                  have e : l.take (k + i) = l.take k ++ l'.take i := by rw [p1, List.take_add]
                  rw [e, valL_app, List.length_take, Nat.min_eq_left hnl, p6, q4, q2]
                simp only [oV, oM, oNum]
                simp (maxSteps := 1000000) only [go_sem, Nat.reduceBEq, Nat.reduceAdd, Nat.reduceLT, Nat.reduceMul, Nat.reduceSub, Nat.reduceLeDiff, Nat.reduceEqDiff, Int.reduceToNat, Nat.reduceBeqDiff, Nat.reduceBneDiff, decide_false, and_self, List.reduceReplicate, List.flatten_cons, List.flatten_nil, true_and, and_true, eq_self, decide_true, reduceIte, reduceCtorEq, List.any_toArray, Region.binds, Int.reduceBEq, Int.reduceBNe, Int.reduceLT, hin]
                refine trX_loop HE hP.mix [120, 0] (fun y : Nat × List Nat × Nat => ⟨upd (upd (upd (upd (upd (upd (upd (upd (upd (fun _ => .junk) 0 (.str s')) 2 (.ref 0 0)) 3 (.int .i64 0)) 5 (.sl 120 0 nd 1)) 6 (.int .i64 (i : Int))) 7 (.int .u64 (y.2.2 : Int))) 8 (.int .u64 (p : Int))) 72 (.int .i64 (nd : Int))) 73 (.int .i64 (y.1 : Int)), upd (upd (fun _ => .unused) 0 (.live [.int .u64 0, .nils])) 120 (.live (List.map (fun d : Nat => AV.int .u64 (d : Int)) (y.2.1 ++ d.drop y.1))), 109⟩)
                  (fun y => y.1 ≤ nd ∧ y.2.1.length = y.1 ∧ (∀ x ∈ y.2.1, x < 18446744073709551616) ∧ y.2.2 < 18446744073709551616 ∧ dOf 18446744073709551616 y.2.1 + 18446744073709551616 ^ y.1 * y.2.2 = dOf 18446744073709551616 (d.take y.1) * p + c) (fun y => nd - y.1) (0, [], c) 104 (by repeat (first | exact Has.nil | refine Has.upd rfl ?_)) (Kept.of rfl (by repeat (first | exact KT.nil | refine KT.upd rfl (by first | rfl | exact hr | exact hr2 | (simp only [go_sem]; done)) ?_)) (KM.p (by repeat (first | exact KMp.nil | refine KMp.upd rfl (by first | rfl | (simp only [go_sem]; done)) ?_)))) ⟨Nat.zero_le _, rfl, by simp, hcb, by simp [dOf]⟩ 109 (by kernel_rfl) ?_
                rintro ⟨j, dn, e⟩ ⟨j1, j2, j3, j4, j5⟩
                simp only [] at j1 j2 j3 j4 j5
                by_cases hj : j < nd
                · have hjd : j < d.length := by omega
                  have hxd := p5 _ (getD_mem hjd)
                  have hlen : j < (dn ++ d.drop j).length := by rw [List.length_append, List.length_drop]; omega
                  have hlen' : j < dn.length + (d.length - j) := by omega
                  have hget : (dn ++ d.drop j).getD j 0 = d.getD j 0 := by rw [drop_cons hjd]; exact get_app (R := d.drop (j + 1)) j2
                  have hset : ∀ z, (dn ++ d.drop j).set j z = (dn ++ [z]) ++ d.drop (j + 1) := fun z => by rw [drop_cons hjd, List.append_assoc]; exact set_app (R := d.drop (j + 1)) j2
                  have hcar := away_carry hxd hpb j4
                  have hw2 := wu_add' _ _ hcar
                  have hml := mull_lt (d.getD j 0) p
                  have hwj := wi_add1 j (by omega)
                  simp (maxSteps := 1000000) only [go_sem, Nat.reduceBEq, Nat.reduceAdd, Nat.reduceLT, Nat.reduceMul, Nat.reduceSub, Nat.reduceLeDiff, Nat.reduceEqDiff, Int.reduceToNat, Nat.reduceBeqDiff, Nat.reduceBneDiff, decide_false, and_self, List.reduceReplicate, List.flatten_cons, List.flatten_nil, true_and, and_true, eq_self, decide_true, reduceIte, reduceCtorEq, List.any_toArray, Region.binds, Int.reduceBEq, Int.reduceBNe, Int.reduceLT, hj, hlen, hlen', gU hlen, hget, hset, hxd, hpb, hml, hw2, hwj, upd_upd]
                  refine ⟨(j + 1, dn ++ [addl (mull (d.getD j 0) p) e 0], mulh (d.getD j 0) p + addh (mull (d.getD j 0) p) e 0), Kept.of rfl (by repeat (first | exact KT.nil | refine KT.upd rfl (by first | rfl | exact hr | exact hr2 | (simp only [go_sem]; done)) ?_)) (KM.p (by repeat (first | exact KMp.nil | refine KMp.upd rfl (by first | rfl | (simp only [go_sem]; done)) ?_))), ⟨by simp only []; omega, by simp only [List.length_append, List.length_singleton]; omega, ?_, hcar, ?_⟩, by simp only []; omega⟩
                  · intro x hx
                    rcases List.mem_append.1 hx with hx | hx
                    · exact j3 x hx
                    · rw [List.mem_singleton.1 hx]; exact addl_lt _ _ _
                  · simp only []
                    rw [dOf_snoc, j2, dOf_take_succ 18446744073709551616 d j hjd, Nat.pow_succ]
                    exact mul_acc j5 (away_digit (d.getD j 0) p e)
                · have hje : j = nd := by omega
                  subst hje
                  have ht : d.take j = d := List.take_of_length_le (by omega)
                  have hdr : d.drop j = [] := List.drop_of_length_le (by omega)
                  rw [ht, ← hval] at j5
                  rw [hdr, List.append_nil]
                  by_cases hc : 0 < e
                  · have hjb : (j + 1) * 8 ≤ 1099511627776 := by omega
                    simp (maxSteps := 1000000) only [go_sem, Nat.reduceBEq, Nat.reduceAdd, Nat.reduceLT, Nat.reduceMul, Nat.reduceSub, Nat.reduceLeDiff, Nat.reduceEqDiff, Int.reduceToNat, Nat.reduceBeqDiff, Nat.reduceBneDiff, decide_false, and_self, List.reduceReplicate, List.flatten_cons, List.flatten_nil, true_and, and_true, eq_self, decide_true, reduceIte, reduceCtorEq, List.any_toArray, Region.binds, Int.reduceBEq, Int.reduceBNe, Int.reduceLT, hj, hc, size_bl, hl', hnl, map_snoc]
                    exact ⟨⟨j2, by simp, fun _ => trivial, hjb⟩, ⟨s'.extract i l'.length, k + i, some (false, false), j + 1, dn ++ [e]⟩, Kept.of rfl (by repeat (first | exact KT.nil | refine KT.upd rfl (by first | rfl | exact hr | exact hr2 | (simp only [go_sem]; done)) ?_)) (KM.p (by repeat (first | exact KMp.nil | refine KMp.upd rfl (by first | rfl | (simp only [go_sem]; done)) ?_))), ⟨hs'', by simp only []; omega, by simp only [List.length_append, List.length_singleton]; omega, by simp only []; omega, fun x hx => by
                      rcases List.mem_append.1 hx with hx | hx
                      · exact j3 x hx
                      · rw [List.mem_singleton.1 hx]; exact j4, by simp only []; rw [dOf_snoc, j2]; exact j5, by simp, by simp⟩, by simp only []; omega⟩
                  · have he0 : e = 0 := by omega
                    rw [he0, Nat.mul_zero, Nat.add_zero] at j5
                    simp (maxSteps := 1000000) only [go_sem, Nat.reduceBEq, Nat.reduceAdd, Nat.reduceLT, Nat.reduceMul, Nat.reduceSub, Nat.reduceLeDiff, Nat.reduceEqDiff, Int.reduceToNat, Nat.reduceBeqDiff, Nat.reduceBneDiff, decide_false, and_self, List.reduceReplicate, List.flatten_cons, List.flatten_nil, true_and, and_true, eq_self, decide_true, reduceIte, reduceCtorEq, List.any_toArray, Region.binds, Int.reduceBEq, Int.reduceBNe, Int.reduceLT, hj, hc, size_bl, hl', hnl]
                    exact ⟨⟨s'.extract i l'.length, k + i, some (false, true), j, dn⟩, Kept.of rfl (by repeat (first | exact KT.nil | refine KT.upd rfl (by first | rfl | exact hr | exact hr2 | (simp only [go_sem]; done)) ?_)) (KM.p (by repeat (first | exact KMp.nil | refine KMp.upd rfl (by first | rfl | (simp only [go_sem]; done)) ?_))), ⟨hs'', by simp only []; omega, j2, by simp only []; omega, j3, j5, by simp, by simp⟩, by simp only []; omega⟩
            · exact absurd rfl (p8 false)
            · exact absurd rfl (p8 true)
          · have hl0 : ¬ 0 < l'.length := by omega
            rcases D with _ | ⟨_ | _, _ | _⟩
            · have hd := (p7 rfl).1
              simp only [oV, oM, oNum]
              have htk : d.take nd = d := List.take_of_length_le (by omega)
              have hz3 : (∀ x ∈ d, x < 18446744073709551616) = True := eq_true p5
              have hsl : nd < 4611686018427387904 := by omega
              have hkk : l.take k = l := List.take_of_length_le (by omega)
              rw [hkk] at p6
              simp (maxSteps := 1000000) only [go_sem, Nat.reduceBEq, Nat.reduceAdd, Nat.reduceLT, Nat.reduceMul, Nat.reduceSub, Nat.reduceLeDiff, Nat.reduceEqDiff, Int.reduceToNat, Nat.reduceBeqDiff, Nat.reduceBneDiff, decide_false, and_self, List.reduceReplicate, List.flatten_cons, List.flatten_nil, true_and, and_true, eq_self, decide_true, reduceIte, reduceCtorEq, List.any_toArray, Region.binds, Int.reduceBEq, Int.reduceBNe, Int.reduceLT, size_bl, hl', hl0, htk, hz3, p3, hsl]
              first
                | (rw [← p6]; exact .refl _)
                | (rw [← p6, hd]; exact .refl _)
            ·
              simp only [oV, oM, oNum]
              have htk : d.take nd = d := List.take_of_length_le (by omega)
              have hz3 : (∀ x ∈ d, x < 18446744073709551616) = True := eq_true p5
              have hsl : nd < 4611686018427387904 := by omega
              have hkk : l.take k = l := List.take_of_length_le (by omega)
              rw [hkk] at p6
              simp (maxSteps := 1000000) only [go_sem, Nat.reduceBEq, Nat.reduceAdd, Nat.reduceLT, Nat.reduceMul, Nat.reduceSub, Nat.reduceLeDiff, Nat.reduceEqDiff, Int.reduceToNat, Nat.reduceBeqDiff, Nat.reduceBneDiff, decide_false, and_self, List.reduceReplicate, List.flatten_cons, List.flatten_nil, true_and, and_true, eq_self, decide_true, reduceIte, reduceCtorEq, List.any_toArray, Region.binds, Int.reduceBEq, Int.reduceBNe, Int.reduceLT, size_bl, hl', hl0, htk, hz3, p3, hsl]
              first
                | (rw [← p6]; exact .refl _)
                | (rw [← p6, hd]; exact .refl _)
            ·
              simp only [oV, oM, oNum]
              have htk : d.take nd = d := List.take_of_length_le (by omega)
              have hz3 : (∀ x ∈ d, x < 18446744073709551616) = True := eq_true p5
              have hsl : nd < 4611686018427387904 := by omega
              have hkk : l.take k = l := List.take_of_length_le (by omega)
              rw [hkk] at p6
              simp (maxSteps := 1000000) only [go_sem, Nat.reduceBEq, Nat.reduceAdd, Nat.reduceLT, Nat.reduceMul, Nat.reduceSub, Nat.reduceLeDiff, Nat.reduceEqDiff, Int.reduceToNat, Nat.reduceBeqDiff, Nat.reduceBneDiff, decide_false, and_self, List.reduceReplicate, List.flatten_cons, List.flatten_nil, true_and, and_true, eq_self, decide_true, reduceIte, reduceCtorEq, List.any_toArray, Region.binds, Int.reduceBEq, Int.reduceBNe, Int.reduceLT, size_bl, hl', hl0, htk, hz3, p3, hsl]
              first
                | (rw [← p6]; exact .refl _)
                | (rw [← p6, hd]; exact .refl _)
            · exact absurd rfl (p8 false)
            · exact absurd rfl (p8 true)
theorem valL_blen {l : List Nat} (h : okD l) (h2 : l.length ≤ 256) : blen (valL l) ≤ 1024 := by
  have h1 := valL_lt (l := l) (fun c hc => (h.2.2 c hc).2)
  have h4 : 10 ^ l.length ≤ 16 ^ l.length := Nat.pow_le_pow_left (by decide) _
  have h5 : (16 : Nat) ^ l.length = 2 ^ (4 * l.length) := by rw [show (16 : Nat) = 2 ^ 4 from rfl, ← Nat.pow_mul]
  have h6 : blen (valL l) ≤ 4 * l.length := by
    rw [blen_le_iff, ← h5]; exact Nat.lt_of_lt_of_le h1 h4
  omega
noncomputable def ParseS : List AV → Option (Prop × AV)
  | [.str s] => some ((bl s).length ≤ 1099511627776, parseR (bl s))
  | _ => none
theorem ParseS_ok (hP : PrgOk P) (args p r) (h : ParseS args = some (p, r)) (hp : p) : CSpec P 20 args r := by
  unfold ParseS at h
  split at h
  · simp only [Option.some.injEq, Prod.mk.injEq] at h
    obtain ⟨rfl, rfl⟩ := h
    exact Parse_spec hP _ hp
  · simp at h
attribute [go_sem] ParseS
end Go.Proofs.Ytlgimmafejbmgaa.AM
