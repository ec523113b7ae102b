/- Package nat: the greatest divisor. -/
import Derived.Test.YtlgimmafejbmgaaNn
namespace Go.Proofs.Ytlgimmafejbmgaa.AM
set_option linter.all false
set_option autoImplicit true
set_option relaxedAutoImplicit true
open Go Go.Proofs
set_option maxRecDepth 100000
set_option maxHeartbeats 8000000
set_option linter.unusedSimpArgs false
variable {P : Program}

noncomputable def Sf : Nat → List AV → Option (Prop × AV) := addS (addS Se 27 DivS) 31 SubS
theorem Sf_ok (hP : PrgOk P) : EnvOk P ⟨T0, Sf⟩ := ((Se_ok hP).add (DivS_ok hP)).add (SubS_ok hP)
attribute [go_sem] Sf

theorem gcd_step (a b : Nat) : Nat.gcd a b = Nat.gcd b (a % b) := by rw [Nat.gcd_comm a b, Nat.gcd_rec b a, Nat.gcd_comm]
theorem natC_ck (a : Nat) : (natC a).all AV.ck = true := by
  by_cases h : a < 18446744073709551616
  · rw [natC_small h]; rfl
  · rw [natC_great h]; rfl
theorem natC_len (a : Nat) : (natC a).length = 2 := by
  by_cases h : a < 18446744073709551616
  · rw [natC_small h]; rfl
  · rw [natC_great h]; rfl
theorem natC_only (a : Nat) {f} : onlyL f (natC a) = true := by
  by_cases h : a < 18446744073709551616
  · rw [natC_small h]; rfl
  · rw [natC_great h]; simp only [onlyL, AV.only, Bool.true_and, Bool.and_true]; exact only_U
theorem CvL.un (a : Nat) : CvL [.opq (.nat a), .pad] (natC a) := by have := CvL.unnat a []; simpa using this

/-- The cells of a number, told so or so. -/
def cel : Bool → Nat → List AV
  | true, x => natC x
  | false, x => [.opq (.nat x), .pad]
theorem CvL.cel (f : Bool) (a : Nat) : CvL (cel f a) (natC a) := by
  cases f
  · exact CvL.un a
  · exact CvL.refl _
theorem CvL.lec (f : Bool) (a : Nat) : CvL (AM.cel f a) [.opq (.nat a), .pad] := by
  cases f
  · exact CvL.refl _
  · have := CvL.nat a [] rfl; simpa [AM.cel] using this
theorem cel_len (f : Bool) (a : Nat) : (cel f a).length = 2 := by
  cases f
  · rfl
  · exact natC_len a
theorem Gcd_spec (hP : PrgOk P) (a b : Nat) (ha : blen a ≤ 68719476736) (hb : blen b ≤ 68719476736) : CSpec P 32 [(.agg [.opq (.nat (a)), .pad]), (.agg [.opq (.nat (b)), .pad])] (.agg [.opq (.nat (Nat.gcd a b)), .pad]) := by
  have HE := Sf_ok hP
  refine CSpec_vc (E := ⟨T0, Sf⟩) (fn32 hP) HE hP.mix rfl (by first | rfl | (simp only [go_sem]; done)) (by first | rfl | (simp only [go_sem]; done)) (Nat.le_of_ble_eq_true rfl) ?_
  simp (maxSteps := 1000000) only [go_sem, Nat.reduceBEq, Nat.reduceAdd, Nat.reduceLT, Nat.reduceMul, Nat.reduceSub, Nat.reduceLeDiff, Nat.reduceEqDiff, Int.reduceToNat, Nat.reduceBeqDiff, Nat.reduceBneDiff, decide_false, and_self, List.reduceReplicate, List.flatten_cons, List.flatten_nil, true_and, and_true, eq_self, decide_true, reduceIte, reduceCtorEq, List.any_toArray, Region.binds, Int.reduceBEq, Int.reduceBNe, Int.reduceLT]
  refine trX_loopT [2, 1, 0] (fun q : Nat × Nat × Bool => ⟨upd (upd (upd (fun _ => .junk) 2 (.ref 0 0)) 3 (.ref 1 0)) 4 (.ref 2 0), upd (upd (upd (fun _ => .unused) 0 (.live (cel q.2.2 q.1))) 1 (.live [.opq (.nat q.2.1), .pad])) 2 (.live [.int .u64 0, .nils]), 43⟩)
    (fun q => blen q.1 ≤ 68719476736 ∧ blen q.2.1 ≤ 68719476736 ∧ Nat.gcd q.1 q.2.1 = Nat.gcd a b) (fun q => q.2.1) (a, b, false)
    (by repeat (first | exact Has.nil | refine Has.upd rfl ?_)) (Kept.of rfl (by repeat (first | exact KT.nil | refine KT.upd rfl (by first | rfl | exact hr | exact hr2 | (simp only [go_sem]; done)) ?_)) (KM.p (by repeat (first | exact KMp.nil | refine KMp.upd rfl (by first | rfl | (simp only [go_sem]; done)) ?_)))) ⟨ha, hb, rfl⟩ ?_
  rintro ⟨x, y, f⟩ ⟨h1, h2, h3⟩
  simp only [] at h1 h2 h3
  by_cases hy : y = 0
  · subst hy
    refine Tri_cv (m' := upd (upd (upd (fun _ => .unused) 0 (.live [.opq (.nat x), .pad])) 1 (.live [.opq (.nat 0), .pad])) 2 (.live [.int .u64 0, .nils])) ((((CvM.refl _).upd (CvL.lec f x) (cel_len f x).symm rfl).same _ _).same _ _) ?_
    refine Tri_vcX HE hP.mix 43 10 (by kernel_rfl) ?_
    have hb0 : blen 0 = 0 := by decide
    have hb1 : blen 0 ≤ 68719476736 := by decide
    simp (maxSteps := 1000000) only [go_sem, Nat.reduceBEq, Nat.reduceAdd, Nat.reduceLT, Nat.reduceMul, Nat.reduceSub, Nat.reduceLeDiff, Nat.reduceEqDiff, Int.reduceToNat, Nat.reduceBeqDiff, Nat.reduceBneDiff, decide_false, and_self, List.reduceReplicate, List.flatten_cons, List.flatten_nil, true_and, and_true, eq_self, decide_true, reduceIte, reduceCtorEq, List.any_toArray, Region.binds, Int.reduceBEq, Int.reduceBNe, Int.reduceLT, hb0, hb1]
    rw [Nat.gcd_zero_right] at h3
    rw [h3]; exact .refl _
  · have hyp : 0 < y := by omega
    have hbp : 0 < blen y := by
      have : blen y ≠ 0 := by rw [Ne, blen_zero_iff]; exact hy
      omega
    have hyz : (y = 0) = False := eq_false hy
    refine Tri_cv (m' := upd (upd (upd (fun _ => .unused) 0 (.live (natC x))) 1 (.live (natC y))) 2 (.live [.int .u64 0, .nils])) (((CvM.refl _).upd (CvL.cel f x) ((natC_len x).trans (cel_len f x).symm) (natC_ck x)).upd (CvL.un y) (natC_len y) (natC_ck y) |>.same _ _) ?_
    refine Tri_vcX HE hP.mix 43 10 (by kernel_rfl) ?_
    by_cases hxs : x < 18446744073709551616
    · by_cases hys : y < 18446744073709551616
      · rw [natC_small hxs, natC_small hys]
        simp (maxSteps := 1000000) only [go_sem, Nat.reduceBEq, Nat.reduceAdd, Nat.reduceLT, Nat.reduceMul, Nat.reduceSub, Nat.reduceLeDiff, Nat.reduceEqDiff, Int.reduceToNat, Nat.reduceBeqDiff, Nat.reduceBneDiff, decide_false, and_self, List.reduceReplicate, List.flatten_cons, List.flatten_nil, true_and, and_true, eq_self, decide_true, reduceIte, reduceCtorEq, List.any_toArray, Region.binds, Int.reduceBEq, Int.reduceBNe, Int.reduceLT, h2, hys, hbp]
        refine trX_loop HE hP.mix [2, 1, 0] (fun q : Nat × Nat => ⟨upd (upd (upd (fun _ => .junk) 4 (.ref 2 0)) 5 (.int .u64 (q.1 : Int))) 6 (.int .u64 (q.2 : Int)), upd (upd (upd (fun _ => .unused) 0 (.live [.int .u64 (x : Int), .nils])) 1 (.live [.int .u64 (y : Int), .nils])) 2 (.live [.int .u64 0, .nils]), 43⟩)
          (fun q => q.1 < 18446744073709551616 ∧ q.2 < 18446744073709551616 ∧ Nat.gcd q.1 q.2 = Nat.gcd a b) (fun q => q.2) (x, y) 10
          (by repeat (first | exact Has.nil | refine Has.upd rfl ?_)) (Kept.of rfl (by repeat (first | exact KT.nil | refine KT.upd rfl (by first | rfl | exact hr | exact hr2 | (simp only [go_sem]; done)) ?_)) (KM.p (by repeat (first | exact KMp.nil | refine KMp.upd rfl (by first | rfl | (simp only [go_sem]; done)) ?_)))) ⟨hxs, hys, h3⟩ 43 (by kernel_rfl) ?_
        rintro ⟨u, v⟩ ⟨k1, k2, k3⟩
        simp only [] at k1 k2 k3
        by_cases hv : 0 < v
        · have hm := u_mod u v
          have hml := Nat.mod_lt u hv
          simp (maxSteps := 1000000) only [go_sem, Nat.reduceBEq, Nat.reduceAdd, Nat.reduceLT, Nat.reduceMul, Nat.reduceSub, Nat.reduceLeDiff, Nat.reduceEqDiff, Int.reduceToNat, Nat.reduceBeqDiff, Nat.reduceBneDiff, decide_false, and_self, List.reduceReplicate, List.flatten_cons, List.flatten_nil, true_and, and_true, eq_self, decide_true, reduceIte, reduceCtorEq, List.any_toArray, Region.binds, Int.reduceBEq, Int.reduceBNe, Int.reduceLT, hv, hm]
          exact ⟨by omega, (v, u % v), Kept.of rfl (by repeat (first | exact KT.nil | refine KT.upd rfl (by first | rfl | exact hr | exact hr2 | (simp only [go_sem]; done)) ?_)) (KM.p (by repeat (first | exact KMp.nil | refine KMp.upd rfl (by first | rfl | (simp only [go_sem]; done)) ?_))), ⟨k2, by simp only []; omega, by simp only []; rw [← gcd_step]; exact k3⟩, by simp only []; omega⟩
        · have hv0 : v = 0 := by omega
          subst hv0
          simp (maxSteps := 1000000) only [go_sem, Nat.reduceBEq, Nat.reduceAdd, Nat.reduceLT, Nat.reduceMul, Nat.reduceSub, Nat.reduceLeDiff, Nat.reduceEqDiff, Int.reduceToNat, Nat.reduceBeqDiff, Nat.reduceBneDiff, decide_false, and_self, List.reduceReplicate, List.flatten_cons, List.flatten_nil, true_and, and_true, eq_self, decide_true, reduceIte, reduceCtorEq, List.any_toArray, Region.binds, Int.reduceBEq, Int.reduceBNe, Int.reduceLT, hv]
          rw [Nat.gcd_zero_right] at k3
          rw [← k3]
          exact Conv.nat1 k1
      · have hm2 := digs_length_gt 18446744073709551616 y 1 (by decide) (by omega)
        have hm2 : 2 ≤ (digs 18446744073709551616 y).length := by omega
        have hm3 : ((digs 18446744073709551616 y).length ≠ 0) = True := eq_true (by omega)
        rw [natC_small hxs, natC_great hys]
        simp (maxSteps := 1000000) only [go_sem, Nat.reduceBEq, Nat.reduceAdd, Nat.reduceLT, Nat.reduceMul, Nat.reduceSub, Nat.reduceLeDiff, Nat.reduceEqDiff, Int.reduceToNat, Nat.reduceBeqDiff, Nat.reduceBneDiff, decide_false, and_self, List.reduceReplicate, List.flatten_cons, List.flatten_nil, true_and, and_true, eq_self, decide_true, reduceIte, reduceCtorEq, List.any_toArray, Region.binds, Int.reduceBEq, Int.reduceBNe, Int.reduceLT, h1, h2, hm2, hm3, hxs, hbp, hyz]
        rw [← natC_great hys]
        have hml := Nat.mod_lt x hyp
        have hcl : objOnly [2, 1, 0] (.live (natC y)) = true := by simp only [objOnly]; exact natC_only y
        refine ⟨(y, x % y, true), Kept.of rfl (by repeat (first | exact KT.nil | refine KT.upd rfl (by first | rfl | exact hr | exact hr2 | (simp only [go_sem]; done)) ?_)) (KM.p (by repeat (first | exact KMp.nil | refine KMp.upd rfl (by first | rfl | exact hcl) ?_))), ⟨h2, blen_le_of (Nat.le_of_lt hml) h2, by simp only []; rw [← gcd_step]; exact h3⟩, by simp only []; exact hml⟩
    · have hl2 := digs_length_gt 18446744073709551616 x 1 (by decide) (by omega)
      have hl2 : 2 ≤ (digs 18446744073709551616 x).length := by omega
      have hl3 : ((digs 18446744073709551616 x).length ≠ 0) = True := eq_true (by omega)
      by_cases hys : y < 18446744073709551616
      · rw [natC_great hxs, natC_small hys]
        simp (maxSteps := 1000000) only [go_sem, Nat.reduceBEq, Nat.reduceAdd, Nat.reduceLT, Nat.reduceMul, Nat.reduceSub, Nat.reduceLeDiff, Nat.reduceEqDiff, Int.reduceToNat, Nat.reduceBeqDiff, Nat.reduceBneDiff, decide_false, and_self, List.reduceReplicate, List.flatten_cons, List.flatten_nil, true_and, and_true, eq_self, decide_true, reduceIte, reduceCtorEq, List.any_toArray, Region.binds, Int.reduceBEq, Int.reduceBNe, Int.reduceLT, h1, h2, hl2, hl3, hys, hbp, hyz]
        rw [← natC_small hys]
        have hml := Nat.mod_lt x hyp
        have hcl : objOnly [2, 1, 0] (.live (natC y)) = true := by simp only [objOnly]; exact natC_only y
        refine ⟨(y, x % y, true), Kept.of rfl (by repeat (first | exact KT.nil | refine KT.upd rfl (by first | rfl | exact hr | exact hr2 | (simp only [go_sem]; done)) ?_)) (KM.p (by repeat (first | exact KMp.nil | refine KMp.upd rfl (by first | rfl | exact hcl) ?_))), ⟨h2, blen_le_of (Nat.le_of_lt hml) h2, by simp only []; rw [← gcd_step]; exact h3⟩, by simp only []; exact hml⟩
      · have hm2 := digs_length_gt 18446744073709551616 y 1 (by decide) (by omega)
        have hm2 : 2 ≤ (digs 18446744073709551616 y).length := by omega
        have hm3 : ((digs 18446744073709551616 y).length ≠ 0) = True := eq_true (by omega)
        rw [natC_great hxs, natC_great hys]
        simp (maxSteps := 1000000) only [go_sem, Nat.reduceBEq, Nat.reduceAdd, Nat.reduceLT, Nat.reduceMul, Nat.reduceSub, Nat.reduceLeDiff, Nat.reduceEqDiff, Int.reduceToNat, Nat.reduceBeqDiff, Nat.reduceBneDiff, decide_false, and_self, List.reduceReplicate, List.flatten_cons, List.flatten_nil, true_and, and_true, eq_self, decide_true, reduceIte, reduceCtorEq, List.any_toArray, Region.binds, Int.reduceBEq, Int.reduceBNe, Int.reduceLT, h1, h2, hl2, hl3, hm2, hm3, hbp, hyz]
        rw [← natC_great hys]
        have hml := Nat.mod_lt x hyp
        have hcl : objOnly [2, 1, 0] (.live (natC y)) = true := by simp only [objOnly]; exact natC_only y
        refine ⟨(y, x % y, true), Kept.of rfl (by repeat (first | exact KT.nil | refine KT.upd rfl (by first | rfl | exact hr | exact hr2 | (simp only [go_sem]; done)) ?_)) (KM.p (by repeat (first | exact KMp.nil | refine KMp.upd rfl (by first | rfl | exact hcl) ?_))), ⟨h2, blen_le_of (Nat.le_of_lt hml) h2, by simp only []; rw [← gcd_step]; exact h3⟩, by simp only []; exact hml⟩
def GcdS : List AV → Option (Prop × AV) := on2 fun a b => (blen a ≤ 68719476736 ∧ blen b ≤ 68719476736, (.agg [.opq (.nat (Nat.gcd a b)), .pad]))
theorem GcdS_ok (hP : PrgOk P) (args p r) : GcdS args = some (p, r) → p → CSpec P 32 args r := on2_ok (fun a b h => by exact Gcd_spec hP a b h.1 h.2) args p r
attribute [go_sem] GcdS
end Go.Proofs.Ytlgimmafejbmgaa.AM
