/- The statements of layer 1: what they share. -/
import Derived.Test.YtlgimmafejbmgaaNq
namespace Go.Proofs.Ytlgimmafejbmgaa.AM
set_option linter.all false
set_option autoImplicit true
set_option relaxedAutoImplicit true
open Go Go.Proofs
set_option maxRecDepth 100000
set_option maxHeartbeats 8000000
set_option linter.unusedSimpArgs false
variable {P : Program}

theorem valL_dv {l : List Nat} (h : ∀ c ∈ l, 48 ≤ c) : valL l = dv l.reverse := by
  induction l with
  | nil => rfl
  | cons c t ih =>
    have e := valL_app [c] t
    simp only [List.singleton_append] at e
    have hc := h c (by simp)
    have e2 : valL [c] = c - 48 := by simp [valL]
    rw [e, e2, ih (fun d hd => h d (by simp [hd])), List.reverse_cons, show c = 48 + (c - 48) by omega, dv_snoc, List.length_reverse, Nat.mul_comm, Nat.add_comm]
    congr 2; omega
theorem decL_val {l : List Nat} (h : okD l) : decL (valL l) = l := by
  obtain ⟨h1, h2, h3⟩ := h
  have hb : byt l.reverse := fun c hc => by have := h3 c (by simpa using hc); omega
  have hv := valL_dv (l := l) (fun c hc => (h3 c hc).1)
  obtain ⟨c, t, rfl⟩ : ∃ c t, l = c :: t := by cases l with | nil => exact absurd rfl h1 | cons c t => exact ⟨c, t, rfl⟩
  have hc := h3 c (by simp)
  have e := valL_app [c] t
  simp only [List.singleton_append] at e
  have e2 : valL [c] = c - 48 := by simp [valL]
  rcases Nat.eq_zero_or_pos (c - 48) with h0 | h0
  · have ht : t = [] := by
      cases t with
      | nil => rfl
      | cons d t => exact absurd ⟨by simp, by simp; omega⟩ h2
    subst ht
    have hc48 : c = 48 := by omega
    subst hc48; rfl
  · have hp : 0 < valL (c :: t) := by
      rw [e, e2]; have : 0 < (c - 48) * 10 ^ t.length := Nat.mul_pos h0 (Nat.pow_pos (by decide))
      omega
    have := text_end hb hv (fun hne => by simp; omega) hp
    rw [this, List.reverse_reverse]
theorem bytesS_bl (s : ByteArray) : bytesS ((bl s).map fun d : Nat => AV.int .u8 (d : Int)) = s := by
  obtain ⟨a⟩ := s
  unfold bytesS bl
  congr 1
  rw [List.map_map, List.map_map]
  have : ((toB ∘ fun d : Nat => AV.int .u8 (d : Int)) ∘ UInt8.toNat) = id := by funext b; simp [toB]
  rw [this, List.map_id]
theorem decS_val {s : ByteArray} (h : okD (bl s)) : decS (valL (bl s)) = s := by
  unfold decS; rw [decL_val h, bytesS_bl]
theorem bl_bytesS {m : List Nat} (h : ∀ c ∈ m, c < 256) : bl (bytesS (m.map fun d : Nat => AV.int .u8 (d : Int))) = m := by
  unfold bytesS bl
  simp only [List.map_map]
  conv => rhs; rw [← List.map_id m]
  refine List.map_congr_left fun c hc => ?_
  have := h c hc
  simp [toB]; omega
theorem dig10 (a : Nat) : ∀ d ∈ digs 10 a, d < 10 := digs_lt 10 a (by decide)
theorem okD_decL (a : Nat) : okD (decL a) := by
  unfold decL
  split
  · exact ⟨by simp, by simp, by simp⟩
  · rename_i ha
    have hne : digs 10 a ≠ [] := by intro e; have := dOf_digs 10 a (by decide); rw [e] at this; simp [dOf] at this; omega
    have hc := digs_canon 10 a (by decide) hne
    have hall : ∀ c ∈ dec10 a, 48 ≤ c ∧ c ≤ 57 := fun c hc => by
      obtain ⟨d, hd, rfl⟩ := List.mem_map.1 hc
      have := dig10 a d hd; omega
    refine ⟨by simp [dec10, hne], ?_, fun c hc => hall c (by simpa using hc)⟩
    rintro ⟨_, h2⟩
    have hne2 : dec10 a ≠ [] := by simp [dec10, hne]
    have e : (dec10 a).reverse.getD 0 0 = (dec10 a).getLast hne2 := by
      rw [List.getD_eq_getElem?_getD, List.getElem?_reverse (List.length_pos_iff.2 hne2), Nat.sub_zero, List.getLast_eq_getElem, List.getElem?_eq_getElem]; rfl
    rw [e] at h2
    have h3 : (dec10 a).getLast hne2 = 48 + (digs 10 a).getLast hne := by
      have : dec10 a = (digs 10 a).map (48 + ·) := rfl
      simp only [this]; exact List.getLast_map ..
    omega
theorem valL_decL (a : Nat) : valL (decL a) = a := by
  have h := okD_decL a
  rw [valL_dv (fun c hc => (h.2.2 c hc).1)]
  unfold decL
  split
  · rename_i ha; subst ha; rfl
  · rw [List.reverse_reverse]
    unfold dv dec10
    rw [List.map_map]
    have : ((fun x => x - 48) ∘ fun x => 48 + x) = (id : Nat → Nat) := by funext d; simp
    rw [this, List.map_id, dOf_digs 10 a (by decide)]
theorem bl_decS (a : Nat) : bl (decS a) = decL a := bl_bytesS fun c hc => by have := (okD_decL a).2.2 c hc; omega
theorem decL_len (a : Nat) : (decL a).length ≤ blen a + 1 := by
  unfold decL; split
  · simp
  · rw [List.length_reverse]; unfold dec10; rw [List.length_map]
    have := digs_length_le 10 a (blen a) (by decide) (Nat.lt_of_lt_of_le (blen_lt a) (Nat.pow_le_pow_left (by decide) _))
    omega
theorem str_same (x y : ByteArray) : (x.toList == y.toList) = decide (x = y) := by
  rw [ByteArray.toList_eq, ByteArray.toList_eq, Bool.eq_iff_iff, beq_iff_eq, decide_eq_true_eq]
  constructor
  · intro h; cases x; cases y; congr 1; exact Array.ext' h
  · intro h; rw [h]

theorem strs_only (f) : ∀ l : List ByteArray, onlyL f (l.map AV.str) = true
  | [] => rfl
  | s :: l => by simp only [List.map_cons, onlyL, AV.only, Bool.true_and]; exact strs_only f l
theorem strs_plain (l : List ByteArray) : (l.map AV.str).all AV.plain = true := by rw [List.all_map]; simp [AV.plain]
theorem strs_get {l : List ByteArray} {i : Nat} (h : i < l.length) : ((l.drop i).map AV.str).getD 0 .junk = .str (l.getD i ⟨#[]⟩) := by simp [h]
theorem strs_drop (l : List ByteArray) (i : Nat) : (l.map AV.str).drop i = (l.drop i).map AV.str := List.map_drop.symm
theorem strs_head (l : List ByteArray) : AV.head (l.map AV.str) = true := by cases l <;> rfl
attribute [go_sem] strs_only strs_drop strs_head
theorem beyond_spec (hP : PrgOk P) (l : List ByteArray) (hl : l.length ≤ 1099511627776) : CSpec P 11 [.imm l.length (l.map .str)] (.bool (l.any fun s => decide (4096 < s.size))) := by
  have HE := Sg_ok hP
  refine CSpec_vc (E := ⟨T0, Sg⟩) (fn11 hP) HE hP.mix rfl (by first | rfl | (simp only [go_sem]; done)) (by first | rfl | (simp only [go_sem]; done)) (Nat.le_of_ble_eq_true rfl) ?_
  simp (maxSteps := 1000000) only [go_sem, Nat.reduceBEq, Nat.reduceAdd, Nat.reduceLT, Nat.reduceMul, Nat.reduceSub, Nat.reduceLeDiff, Nat.reduceEqDiff, Int.reduceToNat, Nat.reduceBeqDiff, Nat.reduceBneDiff, decide_false, and_self, List.reduceReplicate, List.flatten_cons, List.flatten_nil, true_and, and_true, eq_self, decide_true, reduceIte, reduceCtorEq, List.any_toArray, Region.binds, Int.reduceBEq, Int.reduceBNe, Int.reduceLT]
  refine trX_loop HE hP.mix [] (fun i : Nat => ⟨upd (upd (upd (upd (fun _ => .junk) 0 (.imm l.length (l.map .str))) 2 (.bool false)) 5 (.int .i64 (l.length : Int))) 6 (.int .i64 (i : Int)), fun _ => .unused, 16⟩)
    (fun i => i ≤ l.length ∧ ∀ j, j < i → (l.getD j ⟨#[]⟩).size ≤ 4096) (fun i => l.length - i) 0 20 (by repeat (first | exact Has.nil | refine Has.upd rfl ?_)) (Kept.of rfl (by repeat (first | exact KT.nil | refine KT.upd rfl (by first | rfl | exact hr | exact hr2 | (simp only [go_sem]; done)) ?_)) (KM.p (by repeat (first | exact KMp.nil | refine KMp.upd rfl (by first | rfl | (simp only [go_sem]; done)) ?_)))) ⟨Nat.zero_le _, fun j hj => absurd hj (Nat.not_lt_zero _)⟩ 16 (by kernel_rfl) ?_
  rintro i ⟨q1, q2⟩
  by_cases hi : i < l.length
  · have hwi := wi_add1 i (by omega)
    by_cases hb : 4096 < (l.getD i ⟨#[]⟩).size
    · simp (maxSteps := 1000000) only [go_sem, Nat.reduceBEq, Nat.reduceAdd, Nat.reduceLT, Nat.reduceMul, Nat.reduceSub, Nat.reduceLeDiff, Nat.reduceEqDiff, Int.reduceToNat, Nat.reduceBeqDiff, Nat.reduceBneDiff, decide_false, and_self, List.reduceReplicate, List.flatten_cons, List.flatten_nil, true_and, and_true, eq_self, decide_true, reduceIte, reduceCtorEq, List.any_toArray, Region.binds, Int.reduceBEq, Int.reduceBNe, Int.reduceLT, hi, hb, strs_get hi, hwi]
      have e : (l.any fun s => decide (4096 < s.size)) = true := List.any_eq_true.2 ⟨l.getD i ⟨#[]⟩, by rw [List.getD_eq_getElem?_getD, List.getElem?_eq_getElem hi]; exact List.getElem_mem hi, by simpa using hb⟩
      rw [e]; exact ⟨by omega, .refl _⟩
    · simp (maxSteps := 1000000) only [go_sem, Nat.reduceBEq, Nat.reduceAdd, Nat.reduceLT, Nat.reduceMul, Nat.reduceSub, Nat.reduceLeDiff, Nat.reduceEqDiff, Int.reduceToNat, Nat.reduceBeqDiff, Nat.reduceBneDiff, decide_false, and_self, List.reduceReplicate, List.flatten_cons, List.flatten_nil, true_and, and_true, eq_self, decide_true, reduceIte, reduceCtorEq, List.any_toArray, Region.binds, Int.reduceBEq, Int.reduceBNe, Int.reduceLT, hi, hb, strs_get hi, hwi]
      exact ⟨by omega, i + 1, Kept.of rfl (by repeat (first | exact KT.nil | refine KT.upd rfl (by first | rfl | exact hr | exact hr2 | (simp only [go_sem]; done)) ?_)) (KM.p (by repeat (first | exact KMp.nil | refine KMp.upd rfl (by first | rfl | (simp only [go_sem]; done)) ?_))), ⟨by omega, fun j hj => by
        rcases Nat.lt_or_ge j i with h | h
        · exact q2 j h
        · rw [show j = i by omega]; omega⟩, by omega⟩
  · simp (maxSteps := 1000000) only [go_sem, Nat.reduceBEq, Nat.reduceAdd, Nat.reduceLT, Nat.reduceMul, Nat.reduceSub, Nat.reduceLeDiff, Nat.reduceEqDiff, Int.reduceToNat, Nat.reduceBeqDiff, Nat.reduceBneDiff, decide_false, and_self, List.reduceReplicate, List.flatten_cons, List.flatten_nil, true_and, and_true, eq_self, decide_true, reduceIte, reduceCtorEq, List.any_toArray, Region.binds, Int.reduceBEq, Int.reduceBNe, Int.reduceLT, hi]
    have e : (l.any fun s => decide (4096 < s.size)) = false := List.any_eq_false.2 fun s hs => by
      obtain ⟨j, hj, rfl⟩ := List.getElem_of_mem hs
      have := q2 j (by omega)
      rw [List.getD_eq_getElem?_getD, List.getElem?_eq_getElem hj] at this
      simpa using this
    rw [e]; exact .refl _
def beyondS : List AV → Option (Prop × AV)
  | [.imm 1 [.str a]] => some (True, .bool (decide (4096 < a.size)))
  | [.imm 2 [.str a, .str b]] => some (True, .bool (decide (4096 < a.size) || decide (4096 < b.size)))
  | [.imm 3 [.str a, .str b, .str c]] => some (True, .bool (decide (4096 < a.size) || decide (4096 < b.size) || decide (4096 < c.size)))
  | [.imm 4 [.str a, .str b, .str c, .str d]] => some (True, .bool (decide (4096 < a.size) || decide (4096 < b.size) || decide (4096 < c.size) || decide (4096 < d.size)))
  | _ => none
theorem beyondS_ok (hP : PrgOk P) (args p r) (h : beyondS args = some (p, r)) (hp : p) : CSpec P 11 args r := by
  unfold beyondS at h
  split at h
  · rename_i a
    simp only [Option.some.injEq, Prod.mk.injEq] at h
    obtain ⟨_, rfl⟩ := h
    have := beyond_spec hP [a] (by simp)
    simpa using this
  · rename_i a b
    simp only [Option.some.injEq, Prod.mk.injEq] at h
    obtain ⟨_, rfl⟩ := h
    have := beyond_spec hP [a, b] (by simp)
    simpa using this
  · rename_i a b c
    simp only [Option.some.injEq, Prod.mk.injEq] at h
    obtain ⟨_, rfl⟩ := h
    have := beyond_spec hP [a, b, c] (by simp)
    simpa [Bool.or_assoc] using this
  · rename_i a b c d
    simp only [Option.some.injEq, Prod.mk.injEq] at h
    obtain ⟨_, rfl⟩ := h
    have := beyond_spec hP [a, b, c, d] (by simp)
    simpa [Bool.or_assoc] using this
  · simp at h
attribute [go_sem] beyondS
noncomputable def Sh : Nat → List AV → Option (Prop × AV) := addS (addS (addS (addS Sg 20 ParseS) 21 TextS) 32 GcdS) 11 beyondS
theorem Sh_ok (hP : PrgOk P) : EnvOk P ⟨T0, Sh⟩ := ((((Sg_ok hP).add (ParseS_ok hP)).add (TextS_ok hP)).add (GcdS_ok hP)).add (beyondS_ok hP)
attribute [go_sem] Sh

theorem works_spec (hP : PrgOk P) : CSpec P 10 [] (.bool true) := by
  have HE := Sh_ok hP
  refine CSpec_vc (E := ⟨T0, Sh⟩) (fn10 hP) HE hP.mix rfl (by first | rfl | (simp only [go_sem]; done)) (by first | rfl | (simp only [go_sem]; done)) (Nat.le_of_ble_eq_true rfl) ?_
  have w1 : bl ⟨#[51, 52, 48, 50, 56, 50, 51, 54, 54, 57, 50, 48, 57, 51, 56, 52, 54, 51, 52, 54, 51, 51, 55, 52, 54, 48, 55, 52, 51, 49, 55, 54, 56, 50, 49, 49, 52, 53, 54]⟩ = [51, 52, 48, 50, 56, 50, 51, 54, 54, 57, 50, 48, 57, 51, 56, 52, 54, 51, 52, 54, 51, 51, 55, 52, 54, 48, 55, 52, 51, 49, 55, 54, 56, 50, 49, 49, 52, 53, 54] := by rfl
  obtain ⟨A, hA⟩ : ∃ A : Nat, A = 340282366920938463463374607431768211456 := ⟨_, rfl⟩
  have w2 : parseR [51, 52, 48, 50, 56, 50, 51, 54, 54, 57, 50, 48, 57, 51, 56, 52, 54, 51, 52, 54, 51, 51, 55, 52, 54, 48, 55, 52, 51, 49, 55, 54, 56, 50, 49, 49, 52, 53, 54] = .tup [(.agg [.opq (.nat (A)), .pad]), .int .i64 0] := by
    rw [parse_ok ⟨by decide, by decide, by decide⟩ (by decide), hA]; rfl
  have wb : blen A = 129 := by rw [hA]; decide +kernel
  have wb2 : blen A ≤ 68719476736 := by omega
  have b10 : blen 10 ≤ 68719476736 := by decide +kernel
  have b3 : blen 3 ≤ 68719476736 := by decide +kernel
  have b5 : blen 5 ≤ 68719476736 := by decide +kernel
  have b4 : blen 4 ≤ 68719476736 := by decide +kernel
  have b63 : blen 9223372036854775808 ≤ 68719476736 := by decide +kernel
  have bq : blen (A / 10) ≤ 68719476736 := by rw [hA]; decide +kernel
  have br : blen (A % 10) ≤ 68719476736 := by rw [hA]; decide +kernel
  have ws1 : ((decS (A / 10)).toList == (ByteArray.mk #[51, 52, 48, 50, 56, 50, 51, 54, 54, 57, 50, 48, 57, 51, 56, 52, 54, 51, 52, 54, 51, 51, 55, 52, 54, 48, 55, 52, 51, 49, 55, 54, 56, 50, 49, 49, 52, 53]).toList) = true := by
    have h := decS_val (s := ByteArray.mk #[51, 52, 48, 50, 56, 50, 51, 54, 54, 57, 50, 48, 57, 51, 56, 52, 54, 51, 52, 54, 51, 51, 55, 52, 54, 48, 55, 52, 51, 49, 55, 54, 56, 50, 49, 49, 52, 53]) (show okD [51, 52, 48, 50, 56, 50, 51, 54, 54, 57, 50, 48, 57, 51, 56, 52, 54, 51, 52, 54, 51, 51, 55, 52, 54, 48, 55, 52, 51, 49, 55, 54, 56, 50, 49, 49, 52, 53] from ⟨by decide, by decide, by decide⟩)
    rw [show valL (bl (ByteArray.mk #[51, 52, 48, 50, 56, 50, 51, 54, 54, 57, 50, 48, 57, 51, 56, 52, 54, 51, 52, 54, 51, 51, 55, 52, 54, 48, 55, 52, 51, 49, 55, 54, 56, 50, 49, 49, 52, 53])) = A / 10 by rw [hA]; rfl] at h
    rw [h]; exact beq_self_eq_true _
  have ws2 : ((decS (A % 10)).toList == (ByteArray.mk #[54]).toList) = true := by
    have h := decS_val (s := ByteArray.mk #[54]) (show okD [54] from ⟨by decide, by decide, by decide⟩)
    rw [show valL (bl (ByteArray.mk #[54])) = A % 10 by rw [hA]; rfl] at h
    rw [h]; exact beq_self_eq_true _
  have bm : blen 85070591730234615865843651857942052864 ≤ 68719476736 := by decide +kernel
  have b340 : blen 340282366920938463463374607431768211456 ≤ 68719476736 := by decide +kernel
  have hcm : cmpI 340282366920938463463374607431768211456 A = 0 := by rw [hA]; exact cmpI_eq _
  simp (maxSteps := 1000000) only [go_sem, Nat.reduceBEq, Nat.reduceAdd, Nat.reduceLT, Nat.reduceMul, Nat.reduceSub, Nat.reduceLeDiff, Nat.reduceEqDiff, Int.reduceToNat, Nat.reduceBeqDiff, Nat.reduceBneDiff, decide_false, and_self, List.reduceReplicate, List.flatten_cons, List.flatten_nil, true_and, and_true, eq_self, decide_true, reduceIte, reduceCtorEq, List.any_toArray, Region.binds, Int.reduceBEq, Int.reduceBNe, Int.reduceLT, w1, w2, wb, wb2, b10, b3, b5, b4, b63, bq, br, ws1, ws2, bm, b340, hcm]
  exact ⟨by decide, by decide, by decide, by decide, by decide, by decide, .refl _⟩
def worksS : List AV → Option (Prop × AV)
  | [] => some (True, .bool true)
  | _ => none
theorem worksS_ok (hP : PrgOk P) (args p r) (h : worksS args = some (p, r)) (hp : p) : CSpec P 10 args r := by
  unfold worksS at h
  split at h
  · simp only [Option.some.injEq, Prod.mk.injEq] at h
    obtain ⟨rfl, rfl⟩ := h
    exact works_spec hP
  · simp at h
attribute [go_sem] worksS
noncomputable def Si : Nat → List AV → Option (Prop × AV) := addS Sh 10 worksS
theorem Si_ok (hP : PrgOk P) : EnvOk P ⟨T0, Si⟩ := (Sh_ok hP).add (worksS_ok hP)
attribute [go_sem] Si
end Go.Proofs.Ytlgimmafejbmgaa.AM
