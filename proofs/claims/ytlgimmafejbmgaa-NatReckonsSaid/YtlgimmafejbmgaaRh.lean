/- The laws' helpers: read, tells. -/
import Derived.Test.YtlgimmafejbmgaaRg
namespace Go.Proofs.Ytlgimmafejbmgaa.AM
set_option linter.all false
set_option autoImplicit true
set_option relaxedAutoImplicit true
open Go Go.Proofs
set_option maxRecDepth 100000
set_option maxHeartbeats 8000000
set_option linter.unusedSimpArgs false
variable {P : Program}

noncomputable def Sp : Nat → List AV → Option (Prop × AV) := addS So 38 rParseS
theorem Sp_ok (hP : PrgOk P) : EnvOk P ⟨T0, Sp⟩ := (So_ok hP).add (rParseS_ok hP)
attribute [go_sem] Sp

/-- The number that a text tells; 0 if none. -/
noncomputable def rdv (s : ByteArray) : Nat := by classical exact if okP s then val s else 0
theorem rdv_yes {s : ByteArray} (h : okP s) : rdv s = val s := by unfold rdv; rw [if_pos h]
theorem rdv_no {s : ByteArray} (h : ¬ okP s) : rdv s = 0 := by unfold rdv; rw [if_neg h]
theorem rdv_blen (s : ByteArray) : blen (rdv s) ≤ 1024 := by
  by_cases h : okP s
  · rw [rdv_yes h]; exact val_blen h
  · rw [rdv_no h]; decide
theorem decS_zero : decS 0 = ⟨#[48]⟩ := rfl
theorem decS_zero_eq : ((decS 0).toList == ByteArray.toList ⟨#[48]⟩) = true := by rw [decS_zero]; exact beq_self_eq_true _
theorem decS_inj {a b : Nat} (h : decS a = decS b) : a = b := by
  rw [← valL_decL a, ← valL_decL b, ← bl_decS, ← bl_decS, h]
theorem decS_eq (a b : Nat) : ((decS a).toList == (decS b).toList) = decide (a = b) := by
  rw [str_same]
  exact decide_eq_decide.2 ⟨decS_inj, fun h => h ▸ rfl⟩
theorem tells_spec (hP : PrgOk P) (a b : Nat) (ha : blen a ≤ 68719476736) (hb : blen b ≤ 68719476736) : CSpec P 18 [(.agg [.opq (.nat (a)), .pad]), (.imm (digs 65536 (b)).length (List.map (fun d : Nat => AV.int .u32 (d : Int)) (digs 65536 (b))))] (.bool (decide (a = b))) := by
  have HE := Sp_ok hP
  refine CSpec_vc (E := ⟨T0, Sp⟩) (fn18 hP) HE hP.mix rfl (by first | rfl | (simp only [go_sem]; done)) (by first | rfl | (simp only [go_sem]; done)) (Nat.le_of_ble_eq_true rfl) ?_
  simp (maxSteps := 1000000) only [go_sem, Nat.reduceBEq, Nat.reduceAdd, Nat.reduceLT, Nat.reduceMul, Nat.reduceSub, Nat.reduceLeDiff, Nat.reduceEqDiff, Int.reduceToNat, Nat.reduceBeqDiff, Nat.reduceBneDiff, decide_false, and_self, List.reduceReplicate, List.flatten_cons, List.flatten_nil, true_and, and_true, eq_self, decide_true, reduceIte, reduceCtorEq, List.any_toArray, Region.binds, Int.reduceBEq, Int.reduceBNe, Int.reduceLT, ha, hb, decS_eq]
  exact .refl _
def tellsS : List AV → Option (Prop × AV)
  | [x, y] => (rawN x).bind fun a => (rawR y).map fun b => (a.1 ∧ b.1 ∧ blen a.2 ≤ 68719476736 ∧ blen b.2 ≤ 68719476736, .bool (decide (a.2 = b.2)))
  | _ => none
theorem tellsS_eq (x y) : tellsS [x, y] = (rawN x).bind fun a => (rawR y).map fun b => (a.1 ∧ b.1 ∧ blen a.2 ≤ 68719476736 ∧ blen b.2 ≤ 68719476736, .bool (decide (a.2 = b.2))) := rfl
theorem tellsS_ok (hP : PrgOk P) (args p r) (he : tellsS args = some (p, r)) (hp : p) : CSpec P 18 args r := by
  unfold tellsS at he
  split at he
  · simp only [Option.bind_eq_some_iff, Option.map_eq_some_iff, Prod.exists, Prod.mk.injEq] at he
    obtain ⟨q, a, h1, q', b, h2, rfl, rfl⟩ := he
    exact (tells_spec hP a b hp.2.2.1 hp.2.2.2).cv (rawN_cv h1 hp.1 (rawR_cv h2 hp.2.1 .nil))
  · simp at he
attribute [go_sem] tellsS_eq
theorem read_spec (hP : PrgOk P) (s : ByteArray) (hs : s.size ≤ 4096) : CSpec P 12 [.str s] (.tup [(.agg [.opq (.nat (rdv s)), .pad]), (.imm (digs 65536 (rdv s)).length (List.map (fun d : Nat => AV.int .u32 (d : Int)) (digs 65536 (rdv s)))), .bool true]) := by
  have HE := Sp_ok hP
  have z : (bl s).length ≤ 1099511627776 := by rw [← size_bl]; omega
  have z2 : (bl s).length ≤ 8589934592 := by rw [← size_bl]; omega
  have hsb := size_bl s
  have e0 : digs 65536 0 = [] := digs_zero _
  have b0 : blen 0 ≤ 68719476736 := by decide
  have fin : Conv (.tup [(.agg [.opq (.nat (0)), .pad]), .nils, .bool true]) (.tup [(.agg [.opq (.nat (0)), .pad]), (.imm (digs 65536 (0)).length (List.map (fun d : Nat => AV.int .u32 (d : Int)) (digs 65536 (0)))), .bool true]) := CvL.conv (CvL.tup (CvL.agg (.refl _) (by rw [e0]; exact .nilR (.refl _))) .nil)
  refine CSpec_vc (E := ⟨T0, Sp⟩) (fn12 hP) HE hP.mix rfl (by first | rfl | (simp only [go_sem]; done)) (by first | rfl | (simp only [go_sem]; done)) (Nat.le_of_ble_eq_true rfl) ?_
  by_cases h1 : okD (bl s)
  · have d1 : decide (okD (bl s)) = true := decide_eq_true h1
    by_cases h2 : (bl s).length ≤ 256
    · have d2 : ¬ 256 < s.size := by omega
      rw [rdv_yes ⟨h1, h2⟩]
      have hd := eq_true h1.2.2
      simp (maxSteps := 1000000) only [go_sem, Nat.reduceBEq, Nat.reduceAdd, Nat.reduceLT, Nat.reduceMul, Nat.reduceSub, Nat.reduceLeDiff, Nat.reduceEqDiff, Int.reduceToNat, Nat.reduceBeqDiff, Nat.reduceBneDiff, decide_false, and_self, List.reduceReplicate, List.flatten_cons, List.flatten_nil, true_and, and_true, eq_self, decide_true, reduceIte, reduceCtorEq, List.any_toArray, Region.binds, Int.reduceBEq, Int.reduceBNe, Int.reduceLT, z, z2, d1, d2, parse_ok h1 h2, hd]
      exact .refl _
    · have d2 : 256 < s.size := by omega
      rw [rdv_no (fun h => h2 h.2)]
      simp (maxSteps := 1000000) only [go_sem, Nat.reduceBEq, Nat.reduceAdd, Nat.reduceLT, Nat.reduceMul, Nat.reduceSub, Nat.reduceLeDiff, Nat.reduceEqDiff, Int.reduceToNat, Nat.reduceBeqDiff, Nat.reduceBneDiff, decide_false, and_self, List.reduceReplicate, List.flatten_cons, List.flatten_nil, true_and, and_true, eq_self, decide_true, reduceIte, reduceCtorEq, List.any_toArray, Region.binds, Int.reduceBEq, Int.reduceBNe, Int.reduceLT, z, z2, d1, d2, parse_long h1 (Nat.lt_of_not_le h2), decS_zero_eq, b0]
      exact fin
  · have d1 : decide (okD (bl s)) = false := decide_eq_false h1
    rw [rdv_no (fun h => h1 h.1)]
    simp (maxSteps := 1000000) only [go_sem, Nat.reduceBEq, Nat.reduceAdd, Nat.reduceLT, Nat.reduceMul, Nat.reduceSub, Nat.reduceLeDiff, Nat.reduceEqDiff, Int.reduceToNat, Nat.reduceBeqDiff, Nat.reduceBneDiff, decide_false, and_self, List.reduceReplicate, List.flatten_cons, List.flatten_nil, true_and, and_true, eq_self, decide_true, reduceIte, reduceCtorEq, List.any_toArray, Region.binds, Int.reduceBEq, Int.reduceBNe, Int.reduceLT, z, z2, d1, parse_bad h1, decS_zero_eq, b0]
    exact fin
noncomputable def readS : List AV → Option (Prop × AV)
  | [.str s] => some (s.size ≤ 4096, .tup [(.agg [.opq (.nat (rdv s)), .pad]), (.imm (digs 65536 (rdv s)).length (List.map (fun d : Nat => AV.int .u32 (d : Int)) (digs 65536 (rdv s)))), .bool true])
  | _ => none
theorem readS_ok (hP : PrgOk P) (args p r) (h : readS args = some (p, r)) (hp : p) : CSpec P 12 args r := by
  unfold readS at h
  split at h
  · simp only [Option.some.injEq, Prod.mk.injEq] at h
    obtain ⟨rfl, rfl⟩ := h
    exact read_spec hP _ hp
  · simp at h
attribute [go_sem] readS
noncomputable def Sq : Nat → List AV → Option (Prop × AV) := addS (addS Sp 18 tellsS) 12 readS
theorem Sq_ok (hP : PrgOk P) : EnvOk P ⟨T0, Sq⟩ := ((Sp_ok hP).add (tellsS_ok hP)).add (readS_ok hP)
attribute [go_sem] Sq

theorem NatReads_spec (hP : PrgOk P) (s : ByteArray) (n : Nat) (hn : n < 18446744073709551616) : CSpec P 3 [.str s, .int .u64 (n : Int)] (.bool true) := by
  have HE := Sq_ok hP
  refine CSpec_vc (E := ⟨T0, Sq⟩) (fn3 hP) HE hP.mix rfl (by first | rfl | (simp only [go_sem]; done)) (by first | rfl | (simp only [go_sem]; done)) (Nat.le_of_ble_eq_true rfl) ?_
  by_cases h1 : 4096 < s.size
  · simp (maxSteps := 1000000) only [go_sem, Nat.reduceBEq, Nat.reduceAdd, Nat.reduceLT, Nat.reduceMul, Nat.reduceSub, Nat.reduceLeDiff, Nat.reduceEqDiff, Int.reduceToNat, Nat.reduceBeqDiff, Nat.reduceBneDiff, decide_false, and_self, List.reduceReplicate, List.flatten_cons, List.flatten_nil, true_and, and_true, eq_self, decide_true, reduceIte, reduceCtorEq, List.any_toArray, Region.binds, Int.reduceBEq, Int.reduceBNe, Int.reduceLT, h1]
    exact .refl _
  · have h1' : s.size ≤ 4096 := by omega
    have b1 := rdv_blen s
    have b2 := le_big b1 (by decide)
    have b3 : blen n ≤ 68719476736 := le_big ((blen_le_iff n 64).2 hn) (by decide)
    have b4 : (digs 65536 (rdv s)).length ≤ 1099511627776 := by have := rlen_blen (rdv s); omega
    have hn0 : ((0 : Int) ≤ (n : Int)) = True := eq_true (by omega)
    have hnB : ((n : Int) < 18446744073709551616) = True := eq_true (by omega)
    simp (maxSteps := 1000000) only [go_sem, Nat.reduceBEq, Nat.reduceAdd, Nat.reduceLT, Nat.reduceMul, Nat.reduceSub, Nat.reduceLeDiff, Nat.reduceEqDiff, Int.reduceToNat, Nat.reduceBeqDiff, Nat.reduceBneDiff, decide_false, and_self, List.reduceReplicate, List.flatten_cons, List.flatten_nil, true_and, and_true, eq_self, decide_true, reduceIte, reduceCtorEq, List.any_toArray, Region.binds, Int.reduceBEq, Int.reduceBNe, Int.reduceLT, h1, h1', b2, b3, b4, hn, hn0, hnB, Int.toNat_natCast, beq_self_eq_true]
    exact .refl _

theorem NatGreat_spec (hP : PrgOk P) (s t u v : ByteArray) : CSpec P 5 [.str s, .str t, .str u, .str v] (.bool true) := by
  have HE := Sq_ok hP
  refine CSpec_vc (E := ⟨T0, Sq⟩) (fn5 hP) HE hP.mix rfl (by first | rfl | (simp only [go_sem]; done)) (by first | rfl | (simp only [go_sem]; done)) (Nat.le_of_ble_eq_true rfl) ?_
  by_cases h1 : 4096 < s.size
  · simp (maxSteps := 1000000) only [go_sem, Nat.reduceBEq, Nat.reduceAdd, Nat.reduceLT, Nat.reduceMul, Nat.reduceSub, Nat.reduceLeDiff, Nat.reduceEqDiff, Int.reduceToNat, Nat.reduceBeqDiff, Nat.reduceBneDiff, decide_false, and_self, List.reduceReplicate, List.flatten_cons, List.flatten_nil, true_and, and_true, eq_self, decide_true, reduceIte, reduceCtorEq, List.any_toArray, Region.binds, Int.reduceBEq, Int.reduceBNe, Int.reduceLT, h1]
    exact .refl _
  by_cases h2 : 4096 < t.size
  · simp (maxSteps := 1000000) only [go_sem, Nat.reduceBEq, Nat.reduceAdd, Nat.reduceLT, Nat.reduceMul, Nat.reduceSub, Nat.reduceLeDiff, Nat.reduceEqDiff, Int.reduceToNat, Nat.reduceBeqDiff, Nat.reduceBneDiff, decide_false, and_self, List.reduceReplicate, List.flatten_cons, List.flatten_nil, true_and, and_true, eq_self, decide_true, reduceIte, reduceCtorEq, List.any_toArray, Region.binds, Int.reduceBEq, Int.reduceBNe, Int.reduceLT, h1, h2]
    exact .refl _
  by_cases h3 : 4096 < u.size
  · simp (maxSteps := 1000000) only [go_sem, Nat.reduceBEq, Nat.reduceAdd, Nat.reduceLT, Nat.reduceMul, Nat.reduceSub, Nat.reduceLeDiff, Nat.reduceEqDiff, Int.reduceToNat, Nat.reduceBeqDiff, Nat.reduceBneDiff, decide_false, and_self, List.reduceReplicate, List.flatten_cons, List.flatten_nil, true_and, and_true, eq_self, decide_true, reduceIte, reduceCtorEq, List.any_toArray, Region.binds, Int.reduceBEq, Int.reduceBNe, Int.reduceLT, h1, h2, h3]
    exact .refl _
  by_cases h4 : 4096 < v.size
  · simp (maxSteps := 1000000) only [go_sem, Nat.reduceBEq, Nat.reduceAdd, Nat.reduceLT, Nat.reduceMul, Nat.reduceSub, Nat.reduceLeDiff, Nat.reduceEqDiff, Int.reduceToNat, Nat.reduceBeqDiff, Nat.reduceBneDiff, decide_false, and_self, List.reduceReplicate, List.flatten_cons, List.flatten_nil, true_and, and_true, eq_self, decide_true, reduceIte, reduceCtorEq, List.any_toArray, Region.binds, Int.reduceBEq, Int.reduceBNe, Int.reduceLT, h1, h2, h3, h4]
    exact .refl _
  have e1 : s.size ≤ 4096 := by omega
  have e2 : t.size ≤ 4096 := by omega
  have e3 : u.size ≤ 4096 := by omega
  have e4 : v.size ≤ 4096 := by omega
  have a0 := rdv_blen s
  have b0 := rdv_blen t
  have c0 := rdv_blen u
  have d0 := rdv_blen v
  have ab0 := blen_mul_le a0 b0
  have cd0 := blen_mul_le c0 d0
  have p0 := blen_mul_le ab0 cd0
  have bd0 := blen_mul_le b0 d0
  have o0 : blen 1 ≤ 1 := by decide
  have v0 := blen_add_le bd0 (show blen 1 ≤ 1024 + 1024 by decide)
  have a1 := le_big a0 (by decide)
  have b1 := le_big b0 (by decide)
  have c1 := le_big c0 (by decide)
  have d1 := le_big d0 (by decide)
  have ab1 := le_big ab0 (by decide)
  have cd1 := le_big cd0 (by decide)
  have p1 := le_big p0 (by decide)
  have bd1 := le_big bd0 (by decide)
  have o1 := le_big o0 (by decide)
  have v1 := le_big v0 (by decide)
  have v2 := Nat.le_trans v0 (show _ ≤ 34359738368 by decide)
  have i1 : (1 : Int).toNat = 1 := rfl
  have dv : 0 < rdv t * rdv v + 1 := Nat.succ_pos _
  have dz : (rdv t * rdv v + 1 = 0) = False := eq_false (by omega)
  have q0 := blen_le_of (Nat.div_le_self (rdv s * rdv t * (rdv u * rdv v)) (rdv t * rdv v + 1)) p1
  have r0 := blen_le_of (Nat.le_of_lt (Nat.mod_lt (rdv s * rdv t * (rdv u * rdv v)) dv)) v1
  simp (maxSteps := 1000000) only [go_sem, Nat.reduceBEq, Nat.reduceAdd, Nat.reduceLT, Nat.reduceMul, Nat.reduceSub, Nat.reduceLeDiff, Nat.reduceEqDiff, Int.reduceToNat, Nat.reduceBeqDiff, Nat.reduceBneDiff, decide_false, and_self, List.reduceReplicate, List.flatten_cons, List.flatten_nil, true_and, and_true, eq_self, decide_true, reduceIte, reduceCtorEq, List.any_toArray, Region.binds, Int.reduceBEq, Int.reduceBNe, Int.reduceLT, h1, h2, h3, h4, e1, e2, e3, e4, a1, b1, c1, d1, ab1, cd1, p1, bd1, o1, v1, v2, i1, q0, r0, dv, dz, beq_self_eq_true, bne_self_eq_false]
  exact ⟨by decide, by decide, .refl _⟩
theorem NatReckons_spec (hP : PrgOk P) (s t : ByteArray) : CSpec P 7 [.str s, .str t] (.bool true) := by
  have HE := Sq_ok hP
  refine CSpec_vc (E := ⟨T0, Sq⟩) (fn7 hP) HE hP.mix rfl (by first | rfl | (simp only [go_sem]; done)) (by first | rfl | (simp only [go_sem]; done)) (Nat.le_of_ble_eq_true rfl) ?_
  by_cases h1 : 4096 < s.size
  · simp (maxSteps := 1000000) only [go_sem, Nat.reduceBEq, Nat.reduceAdd, Nat.reduceLT, Nat.reduceMul, Nat.reduceSub, Nat.reduceLeDiff, Nat.reduceEqDiff, Int.reduceToNat, Nat.reduceBeqDiff, Nat.reduceBneDiff, decide_false, and_self, List.reduceReplicate, List.flatten_cons, List.flatten_nil, true_and, and_true, eq_self, decide_true, reduceIte, reduceCtorEq, List.any_toArray, Region.binds, Int.reduceBEq, Int.reduceBNe, Int.reduceLT, h1]
    exact .refl _
  by_cases h2 : 4096 < t.size
  · simp (maxSteps := 1000000) only [go_sem, Nat.reduceBEq, Nat.reduceAdd, Nat.reduceLT, Nat.reduceMul, Nat.reduceSub, Nat.reduceLeDiff, Nat.reduceEqDiff, Int.reduceToNat, Nat.reduceBeqDiff, Nat.reduceBneDiff, decide_false, and_self, List.reduceReplicate, List.flatten_cons, List.flatten_nil, true_and, and_true, eq_self, decide_true, reduceIte, reduceCtorEq, List.any_toArray, Region.binds, Int.reduceBEq, Int.reduceBNe, Int.reduceLT, h1, h2]
    exact .refl _
  have e1 : s.size ≤ 4096 := by omega
  have e2 : t.size ≤ 4096 := by omega
  have a0 := rdv_blen s
  have b0 := rdv_blen t
  have a1 := le_big a0 (by decide)
  have b1 := le_big b0 (by decide)
  have a2 := Nat.le_trans a0 (show _ ≤ 34359738368 by decide)
  have b2 := Nat.le_trans b0 (show _ ≤ 34359738368 by decide)
  have s1 := le_big (blen_add_le a0 b0) (by decide)
  have p1 := le_big (blen_mul_le a0 b0) (by decide)
  have g1 := le_big (gcd_blen a0 b0) (by decide)
  have z1 : blen 0 ≤ 68719476736 := by decide
  have hcs := bne_self_eq_false (cmpI (rdv s) (rdv t))
  have hgm := gcd_blen a0 b0
  by_cases hz : rdv t = 0
  · have z2 : ((digs 65536 0).length == 0) = true := by rw [digs_zero]; rfl
    have c1 : decide (cmpI (rdv s) 0 < 0) = false := cmp_ge (Nat.zero_le _)
    have hnl : (rdv s < 0) = False := eq_false (by omega)
    have z3 : blen 0 ≤ 34359738368 := by decide
    have d1 := le_big (blen_le_of (Nat.sub_le (rdv s) 0) a0) (by decide)
    rw [hz] at s1 p1 g1
    simp (maxSteps := 1000000) only [go_sem, Nat.reduceBEq, Nat.reduceAdd, Nat.reduceLT, Nat.reduceMul, Nat.reduceSub, Nat.reduceLeDiff, Nat.reduceEqDiff, Int.reduceToNat, Nat.reduceBeqDiff, Nat.reduceBneDiff, decide_false, and_self, List.reduceReplicate, List.flatten_cons, List.flatten_nil, true_and, and_true, eq_self, decide_true, reduceIte, reduceCtorEq, List.any_toArray, Region.binds, Int.reduceBEq, Int.reduceBNe, Int.reduceLT, h1, h2, e1, e2, a1, a2, hz, s1, p1, g1, c1, z1, z2, z3, hnl, decS_zero_eq, d1, beq_self_eq_true, bne_self_eq_false]
    exact .refl _
  · have hp : 0 < rdv t := by omega
    have z2 : ((digs 65536 (rdv t)).length == 0) = false := by
      have := rlen_pos.2 hp
      exact beq_eq_false_iff_ne.2 (by omega)
    have hzf : (rdv t = 0) = False := eq_false hz
    have q1 := le_big (blen_le_of (Nat.div_le_self (rdv s) (rdv t)) a0) (by decide)
    have r1 := le_big (blen_le_of (Nat.mod_le (rdv s) (rdv t)) a0) (by decide)
    rcases Nat.lt_or_ge (rdv s) (rdv t) with hlt | hge
    · have c1 : cmpI (rdv s) (rdv t) = -1 := cmpI_lt hlt
      simp (maxSteps := 1000000) only [go_sem, Nat.reduceBEq, Nat.reduceAdd, Nat.reduceLT, Nat.reduceMul, Nat.reduceSub, Nat.reduceLeDiff, Nat.reduceEqDiff, Int.reduceToNat, Nat.reduceBeqDiff, Nat.reduceBneDiff, decide_false, and_self, List.reduceReplicate, List.flatten_cons, List.flatten_nil, true_and, and_true, eq_self, decide_true, reduceIte, reduceCtorEq, List.any_toArray, Region.binds, Int.reduceBEq, Int.reduceBNe, Int.reduceLT, h1, h2, e1, e2, a1, b1, a2, b2, s1, p1, g1, c1, hlt, z1, z2, hp, hzf, q1, r1, decS_zero_eq, beq_self_eq_true, bne_self_eq_false]
      exact .refl _
    · have c1 : decide (cmpI (rdv s) (rdv t) < 0) = false := cmp_ge hge
      have hnl : (rdv s < rdv t) = False := eq_false (by omega)
      have d1 := le_big (blen_le_of (Nat.sub_le (rdv s) (rdv t)) a0) (by decide)
      simp (maxSteps := 1000000) only [go_sem, Nat.reduceBEq, Nat.reduceAdd, Nat.reduceLT, Nat.reduceMul, Nat.reduceSub, Nat.reduceLeDiff, Nat.reduceEqDiff, Int.reduceToNat, Nat.reduceBeqDiff, Nat.reduceBneDiff, decide_false, and_self, List.reduceReplicate, List.flatten_cons, List.flatten_nil, true_and, and_true, eq_self, decide_true, reduceIte, reduceCtorEq, List.any_toArray, Region.binds, Int.reduceBEq, Int.reduceBNe, Int.reduceLT, h1, h2, e1, e2, a1, b1, a2, b2, s1, p1, g1, c1, hnl, hge, z1, z2, hp, hzf, q1, r1, d1, decS_zero_eq, beq_self_eq_true, bne_self_eq_false]
      exact .refl _
end Go.Proofs.Ytlgimmafejbmgaa.AM
