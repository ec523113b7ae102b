/- The document's numbers: their digits. -/
import Derived.Test.YtlgimmafejbmgaaNw
namespace Go.Proofs.Ytlgimmafejbmgaa.AM
set_option linter.all false
set_option autoImplicit true
set_option relaxedAutoImplicit true
open Go Go.Proofs
set_option maxRecDepth 100000
set_option maxHeartbeats 8000000
set_option linter.unusedSimpArgs false
variable {P : Program}

def isR (n : Nat) (cs : List AV) : Prop := cs = (List.map (fun d : Nat => AV.int .u32 (d : Int)) (cs.map ud)) ∧ n = cs.length ∧ (∀ d ∈ cs.map ud, d < 65536) ∧ Canon (cs.map ud)
def rawR : AV → Option (Prop × Nat)
  | .nils => some (True, 0)
  | .imm n cs => some (isR n cs, dOf 65536 (cs.map ud))
  | _ => none
theorem rawR_nils : rawR .nils = some (True, 0) := rfl
theorem rawR_imm (n cs) : rawR (.imm n cs) = some (isR n cs, dOf 65536 (cs.map ud)) := rfl
theorem isR_digs (a : Nat) : isR (digs 65536 a).length (List.map (fun d : Nat => AV.int .u32 (d : Int)) (digs 65536 a)) = True := by
  unfold isR
  rw [map_ud32]
  exact eq_true ⟨rfl, by rw [List.length_map], digs_lt 65536 a (by decide), digs_canon 65536 a (by decide)⟩
theorem isR_nil : isR 0 [] = True := eq_true ⟨rfl, rfl, by simp, by intro h; exact absurd rfl h⟩
theorem dOf_digs16 (a : Nat) : dOf 65536 (digs 65536 a) = a := dOf_digs _ _ (by decide)
theorem CvL.nilR {xs bs} (k : CvL xs bs) : CvL (.nils :: xs) (.imm 0 [] :: bs) := fun _ _ _ _ hl => by
  obtain ⟨v, vs, rfl, h1, h2⟩ := hl.uncons rfl
  rw [h1.nils_inv]
  exact .imm0 _ _ (k _ _ _ _ h2)
theorem rawR_cv {v : AV} {p a} (h : rawR v = some (p, a)) (hp : p) {xs bs} (k : CvL xs bs) : CvL (v :: xs) ((.imm (digs 65536 (a)).length (List.map (fun d : Nat => AV.int .u32 (d : Int)) (digs 65536 (a)))) :: bs) := by
  unfold rawR at h
  split at h
  · simp only [Option.some.injEq, Prod.mk.injEq] at h
    obtain ⟨rfl, rfl⟩ := h
    have e : digs 65536 0 = [] := digs_zero _
    rw [e]; exact .nilR k
  · simp only [Option.some.injEq, Prod.mk.injEq] at h
    obtain ⟨rfl, rfl⟩ := h
    rename_i n cs
    obtain ⟨h1, h2, h3, h4⟩ := hp
    have e := digs_dOf 65536 (by decide) (cs.map ud) h3 h4
    rw [e, List.length_map, ← h2, ← h1]
    exact .cons rfl k
  · simp at h
def onR1 (f : Nat → Prop × AV) : List AV → Option (Prop × AV)
  | [x] => (rawR x).map fun a => (a.1 ∧ (f a.2).1, (f a.2).2)
  | _ => none
def onR2 (f : Nat → Nat → Prop × AV) : List AV → Option (Prop × AV)
  | [x, y] => (rawR x).bind fun a => (rawR y).map fun b => (a.1 ∧ b.1 ∧ (f a.2 b.2).1, (f a.2 b.2).2)
  | _ => none
theorem onR1_ok {P : Program} {fi : Nat} {f : Nat → Prop × AV} (h : ∀ a, (f a).1 → CSpec P fi [(.imm (digs 65536 (a)).length (List.map (fun d : Nat => AV.int .u32 (d : Int)) (digs 65536 (a))))] (f a).2) (args p r) (he : onR1 f args = some (p, r)) (hp : p) : CSpec P fi args r := by
  unfold onR1 at he
  split at he
  · simp only [Option.map_eq_some_iff, Prod.exists, Prod.mk.injEq] at he
    obtain ⟨q, a, h1, rfl, rfl⟩ := he
    exact (h a hp.2).cv (rawR_cv h1 hp.1 .nil)
  · simp at he
theorem onR2_ok {P : Program} {fi : Nat} {f : Nat → Nat → Prop × AV} (h : ∀ a b, (f a b).1 → CSpec P fi [(.imm (digs 65536 (a)).length (List.map (fun d : Nat => AV.int .u32 (d : Int)) (digs 65536 (a)))), (.imm (digs 65536 (b)).length (List.map (fun d : Nat => AV.int .u32 (d : Int)) (digs 65536 (b))))] (f a b).2) (args p r) (he : onR2 f args = some (p, r)) (hp : p) : CSpec P fi args r := by
  unfold onR2 at he
  split at he
  · simp only [Option.bind_eq_some_iff, Option.map_eq_some_iff, Prod.exists, Prod.mk.injEq] at he
    obtain ⟨q, a, h1, q', b, h2, rfl, rfl⟩ := he
    exact (h a b hp.2.2).cv (rawR_cv h1 hp.1 (rawR_cv h2 hp.2.1 .nil))
  · simp at he
theorem onR1_eq (f x) : onR1 f [x] = (rawR x).map fun a => (a.1 ∧ (f a.2).1, (f a.2).2) := rfl
theorem onR2_eq (f x y) : onR2 f [x, y] = (rawR x).bind fun a => (rawR y).map fun b => (a.1 ∧ b.1 ∧ (f a.2 b.2).1, (f a.2 b.2).2) := rfl
attribute [go_sem] rawR_nils rawR_imm isR_digs isR_nil dOf_digs16 onR1_eq onR2_eq

theorem rcut_spec (hP : PrgOk P) (l : List Nat) (hd : ∀ d ∈ l, d < 65536) (hn : l.length < 4611686018427387904) : CSpec P 46 [.imm l.length (List.map (fun d : Nat => AV.int .u32 (d : Int)) (l))] (.imm (digs 65536 (dOf 65536 l)).length (List.map (fun d : Nat => AV.int .u32 (d : Int)) (digs 65536 (dOf 65536 l)))) := by
  have HE := Sj_ok hP
  refine CSpec_vc (E := ⟨T0, Sj⟩) (fn46 hP) HE hP.mix rfl (by first | rfl | (simp only [go_sem]; done)) (by first | rfl | (simp only [go_sem]; done)) (Nat.le_of_ble_eq_true rfl) ?_
  simp (maxSteps := 1000000) only [go_sem, Nat.reduceBEq, Nat.reduceAdd, Nat.reduceLT, Nat.reduceMul, Nat.reduceSub, Nat.reduceLeDiff, Nat.reduceEqDiff, Int.reduceToNat, Nat.reduceBeqDiff, Nat.reduceBneDiff, decide_false, and_self, List.reduceReplicate, List.flatten_cons, List.flatten_nil, true_and, and_true, eq_self, decide_true, reduceIte, reduceCtorEq, List.any_toArray, Region.binds, Int.reduceBEq, Int.reduceBNe, Int.reduceLT]
  refine trX_loop HE hP.mix [] (fun k : Nat => ⟨upd (upd (upd (fun _ => .junk) 0 (.imm l.length (List.map (fun d : Nat => AV.int .u32 (d : Int)) (l)))) 2 .nils) 3 (.int .i64 (k : Int)), fun _ => .unused, 21⟩) (fun k => k ≤ l.length ∧ dOf 65536 (l.take k) = dOf 65536 l) (fun k => k) l.length 1
    (by repeat (first | exact Has.nil | refine Has.upd rfl ?_)) (Kept.of rfl (by repeat (first | exact KT.nil | refine KT.upd rfl (by first | rfl | exact hr | exact hr2 | (simp only [go_sem]; done)) ?_)) (KM.p (by repeat (first | exact KMp.nil | refine KMp.upd rfl (by first | rfl | (simp only [go_sem]; done)) ?_)))) ⟨Nat.le_refl _, by simp⟩ 21 (by kernel_rfl) ?_
  intro k ⟨hk, he⟩
  have fin : Canon (l.take k) → (digs 65536 (dOf 65536 l)) = l.take k := fun hc => by
    rw [← he]; exact digs_dOf 65536 (by decide) _ (fun d hd' => hd d (List.mem_of_mem_take hd')) hc
  have hkl : (l.take k).length = k := by rw [List.length_take]; omega
  cases k with
  | zero =>
    simp (maxSteps := 1000000) only [go_sem, Nat.reduceBEq, Nat.reduceAdd, Nat.reduceLT, Nat.reduceMul, Nat.reduceSub, Nat.reduceLeDiff, Nat.reduceEqDiff, Int.reduceToNat, Nat.reduceBeqDiff, Nat.reduceBneDiff, decide_false, and_self, List.reduceReplicate, List.flatten_cons, List.flatten_nil, true_and, and_true, eq_self, decide_true, reduceIte, reduceCtorEq, List.any_toArray, Region.binds, Int.reduceBEq, Int.reduceBNe, Int.reduceLT, Int.lt_irrefl]
    rw [fin (by intro h; exact absurd rfl h)]
    exact .refl _
  | succ k =>
    have h2 := wi_nat k (by omega)
    have hk' : k < l.length := by omega
    have hk2 : k ≤ l.length := by omega
    have htk := take_snoc hk'
    simp (maxSteps := 1000000) only [go_sem, Nat.reduceBEq, Nat.reduceAdd, Nat.reduceLT, Nat.reduceMul, Nat.reduceSub, Nat.reduceLeDiff, Nat.reduceEqDiff, Int.reduceToNat, Nat.reduceBeqDiff, Nat.reduceBneDiff, decide_false, and_self, List.reduceReplicate, List.flatten_cons, List.flatten_nil, true_and, and_true, eq_self, decide_true, reduceIte, reduceCtorEq, List.any_toArray, Region.binds, Int.reduceBEq, Int.reduceBNe, Int.reduceLT, h2, gU' hk', hk', hk2]
    refine if_split (fun hz => ?_) (fun hz => ?_)
    · simp (maxSteps := 1000000) only [go_sem, Nat.reduceBEq, Nat.reduceAdd, Nat.reduceLT, Nat.reduceMul, Nat.reduceSub, Nat.reduceLeDiff, Nat.reduceEqDiff, Int.reduceToNat, Nat.reduceBeqDiff, Nat.reduceBneDiff, decide_false, and_self, List.reduceReplicate, List.flatten_cons, List.flatten_nil, true_and, and_true, eq_self, decide_true, reduceIte, reduceCtorEq, List.any_toArray, Region.binds, Int.reduceBEq, Int.reduceBNe, Int.reduceLT, h2]
      have hz := eq_of_beq hz
      refine ⟨k, Kept.of rfl (by repeat (first | exact KT.nil | refine KT.upd rfl (by first | rfl | exact hr | exact hr2 | (simp only [go_sem]; done)) ?_)) (KM.p (by repeat (first | exact KMp.nil | refine KMp.upd rfl (by first | rfl | (simp only [go_sem]; done)) ?_))), ⟨by omega, ?_⟩, by omega⟩
      rw [← he, htk, hz, dOf_append]; simp [dOf]
    · have hz : l.getD k 0 ≠ 0 := by simpa using hz
      simp (maxSteps := 1000000) only [go_sem, Nat.reduceBEq, Nat.reduceAdd, Nat.reduceLT, Nat.reduceMul, Nat.reduceSub, Nat.reduceLeDiff, Nat.reduceEqDiff, Int.reduceToNat, Nat.reduceBeqDiff, Nat.reduceBneDiff, decide_false, and_self, List.reduceReplicate, List.flatten_cons, List.flatten_nil, true_and, and_true, eq_self, decide_true, reduceIte, reduceCtorEq, List.any_toArray, Region.binds, Int.reduceBEq, Int.reduceBNe, Int.reduceLT, hk]
      rw [fin (canon_take hk hz), hkl]
      exact .refl _
def rcutS : List AV → Option (Prop × AV)
  | [.nils] => some (True, (.imm (digs 65536 (0)).length (List.map (fun d : Nat => AV.int .u32 (d : Int)) (digs 65536 (0)))))
  | [.imm n cs] => some (cs = (List.map (fun d : Nat => AV.int .u32 (d : Int)) (cs.map ud)) ∧ n = cs.length ∧ (∀ d ∈ cs.map ud, d < 65536) ∧ n < 4611686018427387904, (.imm (digs 65536 (dOf 65536 (cs.map ud))).length (List.map (fun d : Nat => AV.int .u32 (d : Int)) (digs 65536 (dOf 65536 (cs.map ud))))))
  | _ => none
theorem rcutS_ok (hP : PrgOk P) (args p r) (h : rcutS args = some (p, r)) (hp : p) : CSpec P 46 args r := by
  unfold rcutS at h
  split at h
  · simp only [Option.some.injEq, Prod.mk.injEq] at h
    obtain ⟨rfl, rfl⟩ := h
    exact (rcut_spec hP [] (by simp) (by decide)).cv (.nilR .nil)
  · simp only [Option.some.injEq, Prod.mk.injEq] at h
    obtain ⟨rfl, rfl⟩ := h
    obtain ⟨h1, h2, h3, h4⟩ := hp
    have := rcut_spec hP _ h3 (by simp; omega)
    rw [← h1, List.length_map, ← h2] at this
    exact this
  · simp at h
attribute [go_sem] rcutS
end Go.Proofs.Ytlgimmafejbmgaa.AM
