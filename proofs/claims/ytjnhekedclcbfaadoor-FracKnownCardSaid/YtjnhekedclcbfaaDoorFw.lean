/- FracKnown. -/
import Derived.Test.YtjnhekedclcbfaaDoorB9
import Derived.Test.YtjnhekedclcbfaaDoorRp
namespace Go.Proofs.YtjnhekedclcbfaaDoor.AM
set_option linter.all false
set_option autoImplicit true
set_option relaxedAutoImplicit true
open Go Go.Proofs
set_option maxRecDepth 100000
set_option maxHeartbeats 8000000
set_option linter.unusedSimpArgs false
variable {P : Program}

theorem rr_sl1 (s : St) (t x h) : readsR s (.slice t x none (some h) none) = ids (aev s x) ++ ids (aev s h) := by simp [readsR, reads, looks, Op.operands]
attribute [go_sem] rr_sl1
noncomputable def Kz0 : Nat → List AV → Option (Prop × AV) := addS Jt0 30 repS
theorem Kz0_all (hP : PrgOk P) (hR : RepOk P) (T) (hT : TyOk P T) : EnvOk P ⟨T, Kz0⟩ := ((Jt0_all hP T hT).add (repS_ok hR))
theorem Kz0_at (f a) : Kz0 f a = (addS Jt0 30 repS) f a := rfl
attribute [go_sem] Kz0_at
theorem bl_rep (n k : Nat) (h : k ≤ n) : bl ((repB n).extract 0 k) = List.replicate k 57 := by
  rw [bl_extract, bl_repB, List.drop_zero, List.take_replicate]; congr 1; omega
theorem rep_no (n c : Nat) (h : c ≠ 57) : c ∉ List.replicate n 57 := fun e => h (List.eq_of_mem_replicate e)
theorem rep_odd (n : Nat) : valL (List.replicate (n + 1) 57) % 2 = 1 ∧ 2 ≤ valL (List.replicate (n + 1) 57) := by
  rw [List.replicate_succ', valL_snoc]; omega
theorem rep_dgs (n : Nat) : dgs (List.replicate n 57) := fun c hc => by rw [List.eq_of_mem_replicate hc]; decide
theorem kn_1 : parF (List.replicate 257 57) = (0, 3) := by
  have hs : 47 ∉ List.replicate 257 57 := rep_no _ _ (by decide)
  have e1 : hdL 47 (List.replicate 257 57) = List.replicate 257 57 := (hd_no hs).1
  have e0 : (List.replicate 257 57).getD 0 0 = 57 := rfl
  have e2 : szL (List.replicate 257 57) = List.replicate 257 57 := by unfold szL; rw [e1, e0]; rfl
  have e3 : mnL (List.replicate 257 57) = false := by unfold mnL; rw [e1, e0]; rfl
  refine parF_2 ?_ ?_
  · rw [e2, e3, den_one hs]
    rintro (h | h | h)
    · exact h (okD_rep _ (by decide))
    · exact h (by decide)
    · exact absurd h.1 (by decide)
  · rw [e2, List.length_replicate]; exact .inl (by decide)
theorem kn_two (c : Nat) (hc : okD [c]) (hc2 : c ≠ 45) (hc3 : c ≠ 47) (l : List Nat) : szL (c :: 47 :: l) = [c] ∧ mnL (c :: 47 :: l) = false ∧ denL (c :: 47 :: l) = l ∧ 47 ∈ (c :: 47 :: l) := by
  have e : c :: 47 :: l = [c] ++ 47 :: l := rfl
  have h : 47 ∉ [c] := by simp; exact fun e => hc3 e.symm
  have h1 := (hd_app (b := l) h).1
  have h2 := (hd_app (b := l) h).2
  have h3 : 47 ∈ (c :: 47 :: l) := by simp
  have e0 : [c].getD 0 0 = c := rfl
  rw [← e] at h1 h2
  refine ⟨?_, ?_, ?_, h3⟩
  · unfold szL; rw [h1, e0, if_neg hc2]
  · unfold mnL; rw [h1, e0]; exact decide_eq_false hc2
  · unfold denL; rw [if_pos h3, h2]
theorem kn_2 : parF (49 :: 47 :: List.replicate 257 57) = (0, 3) := by
  obtain ⟨e1, e2, e3, _⟩ := kn_two 49 (by decide) (by decide) (by decide) (List.replicate 257 57)
  refine parF_2 ?_ ?_
  · rw [e1, e2, e3]
    rintro (h | h | h)
    · exact h (by decide)
    · exact h (okD_rep _ (by decide))
    · exact absurd h.1 (by decide)
  · rw [e3, List.length_replicate]; exact .inr (by decide)
theorem kn_3 : (parF (50 :: 47 :: List.replicate 256 57)).2 = 0 := by
  obtain ⟨e1, e2, e3, _⟩ := kn_two 50 (by decide) (by decide) (by decide) (List.replicate 256 57)
  obtain ⟨o1, o2⟩ := rep_odd 255
  rw [parF_4]
  · rw [e1, e2, e3]
    rintro (h | h | h)
    · exact h (by decide)
    · exact h (okD_rep _ (by decide))
    · exact absurd h.1 (by decide)
  · rw [e1, e3, List.length_replicate]; decide
  · rw [e1, e3]
    rintro ⟨_, h | h⟩
    · have o2' : 2 ≤ valL (List.replicate 256 57) := o2
      omega
    · refine h ?_
      show Nat.gcd 2 _ = 1
      rw [Nat.gcd_rec, o1]; decide
theorem kn_lit (a b : Nat) (ha : 0 < a) (hb : 0 < b) : litF (List.replicate a 57 ++ 46 :: List.replicate b 57) = if 256 < a + b then (0, 3) else (qlow (valL (List.replicate a 57 ++ List.replicate b 57)) (10 ^ b), 0) := by
  have hn : 46 ∉ List.replicate a 57 := rep_no _ _ (by decide)
  obtain ⟨h1, h2⟩ := hd_app (b := List.replicate b 57) hn
  have hno : ¬ (hdL 46 (List.replicate a 57 ++ 46 :: List.replicate b 57) = [] ∨ (46 ∈ (List.replicate a 57 ++ 46 :: List.replicate b 57) ∧ tlL 46 (List.replicate a 57 ++ 46 :: List.replicate b 57) = []) ∨ ¬ dgs (hdL 46 (List.replicate a 57 ++ 46 :: List.replicate b 57) ++ tlL 46 (List.replicate a 57 ++ 46 :: List.replicate b 57))) := by
    rw [h1, h2]
    rintro (h | h | h)
    · have := congrArg List.length h; simp at this; omega
    · have := congrArg List.length h.2; simp at this; omega
    · exact h fun c hc => by
        rcases List.mem_append.1 hc with hc | hc
        · exact rep_dgs _ c hc
        · exact rep_dgs _ c hc
  split
  · exact litF_2 hno (by rw [h1, h2, List.length_append, List.length_replicate, List.length_replicate]; assumption)
  · rw [litF_3 hno (by rw [h1, h2, List.length_append, List.length_replicate, List.length_replicate]; assumption), h1, h2, List.length_replicate]
theorem kp_0 : parF [52, 47, 50] = (0, 12) := by first | exact parF_1 (by decide) | exact parF_3 (by decide) (by decide) (by decide)
theorem kp_1 : parF [49, 47, 48] = (0, 12) := by first | exact parF_1 (by decide) | exact parF_3 (by decide) (by decide) (by decide)
theorem kp_2 : parF [49, 47, 49] = (0, 12) := by first | exact parF_1 (by decide) | exact parF_3 (by decide) (by decide) (by decide)
theorem kp_3 : parF [45, 48] = (0, 12) := by first | exact parF_1 (by decide) | exact parF_3 (by decide) (by decide) (by decide)
theorem kp_4 : parF [] = (0, 12) := by first | exact parF_1 (by decide) | exact parF_3 (by decide) (by decide) (by decide)
theorem kp_5 : parF [47] = (0, 12) := by first | exact parF_1 (by decide) | exact parF_3 (by decide) (by decide) (by decide)
theorem kp_6 : parF [49, 47] = (0, 12) := by first | exact parF_1 (by decide) | exact parF_3 (by decide) (by decide) (by decide)
theorem kp_7 : parF [47, 50] = (0, 12) := by first | exact parF_1 (by decide) | exact parF_3 (by decide) (by decide) (by decide)
theorem kp_8 : parF [48, 47, 51] = (0, 12) := by first | exact parF_1 (by decide) | exact parF_3 (by decide) (by decide) (by decide)
theorem kp_9 : parF [49, 47, 45, 50] = (0, 12) := by first | exact parF_1 (by decide) | exact parF_3 (by decide) (by decide) (by decide)
theorem kp_10 : parF [45, 45, 49] = (0, 12) := by first | exact parF_1 (by decide) | exact parF_3 (by decide) (by decide) (by decide)
theorem kp_11 : parF [49, 47, 50, 47, 51] = (0, 12) := by first | exact parF_1 (by decide) | exact parF_3 (by decide) (by decide) (by decide)
theorem kp_12 : parF [48, 49] = (0, 12) := by first | exact parF_1 (by decide) | exact parF_3 (by decide) (by decide) (by decide)
theorem kp_13 : parF [49, 47, 48, 50] = (0, 12) := by first | exact parF_1 (by decide) | exact parF_3 (by decide) (by decide) (by decide)
theorem kp_14 : parF [43, 49] = (0, 12) := by first | exact parF_1 (by decide) | exact parF_3 (by decide) (by decide) (by decide)
theorem kl_0 : litF [] = (0, 12) := litF_1 (by decide)
theorem kl_1 : litF [46] = (0, 12) := litF_1 (by decide)
theorem kl_2 : litF [46, 53] = (0, 12) := litF_1 (by decide)
theorem kl_3 : litF [53, 46] = (0, 12) := litF_1 (by decide)
theorem kl_4 : litF [45, 49] = (0, 12) := litF_1 (by decide)
theorem kl_5 : litF [49, 46, 50, 46, 51] = (0, 12) := litF_1 (by decide)
theorem kl_6 : litF [49, 101, 53] = (0, 12) := litF_1 (by decide)
theorem kb_0 : bl ⟨#[52, 47, 50]⟩ = [52, 47, 50] := rfl
theorem kb_1 : bl ⟨#[49, 47, 48]⟩ = [49, 47, 48] := rfl
theorem kb_2 : bl ⟨#[49, 47, 49]⟩ = [49, 47, 49] := rfl
theorem kb_3 : bl ⟨#[45, 48]⟩ = [45, 48] := rfl
theorem kb_4 : bl ⟨#[]⟩ = [] := rfl
theorem kb_5 : bl ⟨#[47]⟩ = [47] := rfl
theorem kb_6 : bl ⟨#[49, 47]⟩ = [49, 47] := rfl
theorem kb_7 : bl ⟨#[47, 50]⟩ = [47, 50] := rfl
theorem kb_8 : bl ⟨#[48, 47, 51]⟩ = [48, 47, 51] := rfl
theorem kb_9 : bl ⟨#[49, 47, 45, 50]⟩ = [49, 47, 45, 50] := rfl
theorem kb_10 : bl ⟨#[45, 45, 49]⟩ = [45, 45, 49] := rfl
theorem kb_11 : bl ⟨#[49, 47, 50, 47, 51]⟩ = [49, 47, 50, 47, 51] := rfl
theorem kb_12 : bl ⟨#[48, 49]⟩ = [48, 49] := rfl
theorem kb_13 : bl ⟨#[49, 47, 48, 50]⟩ = [49, 47, 48, 50] := rfl
theorem kb_14 : bl ⟨#[43, 49]⟩ = [43, 49] := rfl
theorem kc_0 : bl ⟨#[]⟩ = [] := rfl
theorem kc_1 : bl ⟨#[46]⟩ = [46] := rfl
theorem kc_2 : bl ⟨#[46, 53]⟩ = [46, 53] := rfl
theorem kc_3 : bl ⟨#[53, 46]⟩ = [53, 46] := rfl
theorem kc_4 : bl ⟨#[45, 49]⟩ = [45, 49] := rfl
theorem kc_5 : bl ⟨#[49, 46, 50, 46, 51]⟩ = [49, 46, 50, 46, 51] := rfl
theorem kc_6 : bl ⟨#[49, 101, 53]⟩ = [49, 101, 53] := rfl
theorem FracKnown_spec (hP : PrgOk P) (hR : RepOk P) : CSpec P 6 [] (.bool true) := by
  have HE := Kz0_all hP hR TF hP.tF
  obtain ⟨N, hN⟩ : ∃ N, repB 257 = N := ⟨_, rfl⟩
  have hb : bl N = List.replicate 257 57 := by rw [← hN, bl_repB]
  have hx : ∀ k, k ≤ 257 → bl (N.extract 0 k) = List.replicate k 57 := fun k hk => by rw [← hN, bl_rep _ _ hk]
  have hsz : N.size = 257 := by rw [size_bl, hb, List.length_replicate]
  have hxs : ∀ k, k ≤ 257 → (N.extract 0 k).size = k := fun k hk => by rw [size_bl, hx k hk, List.length_replicate]
  have p1 : parF (bl N) = (0, 3) := by rw [hb]; exact kn_1
  have p2 : parF (bl (⟨#[49, 47]⟩ ++ N)) = (0, 3) := by rw [bl_app, hb]; exact kn_2
  obtain ⟨Q3, p3⟩ : ∃ Q, parF (bl (⟨#[50, 47]⟩ ++ N.extract 0 256)) = (Q, 0) := ⟨_, by rw [bl_app, hx 256 (by decide)]; exact Prod.ext rfl kn_3⟩
  have p4 : litF (bl (N.extract 0 200 ++ ⟨#[46]⟩ ++ N.extract 0 57)) = (0, 3) := by
    rw [bl_app, bl_app, hx 200 (by decide), hx 57 (by decide), List.append_assoc]
    exact (kn_lit 200 57 (by decide) (by decide)).trans (if_pos (by decide))
  obtain ⟨Q5, p5⟩ : ∃ Q, litF (bl (N.extract 0 200 ++ ⟨#[46]⟩ ++ N.extract 0 56)) = (Q, 0) := ⟨_, by
    rw [bl_app, bl_app, hx 200 (by decide), hx 56 (by decide), List.append_assoc]
    exact (kn_lit 200 56 (by decide) (by decide)).trans (if_neg (by decide))⟩
  have l1 : (bl N).length ≤ 549755813888 := by rw [hb, List.length_replicate]; decide
  have l2 : (bl (⟨#[49, 47]⟩ ++ N)).length ≤ 549755813888 := by rw [bl_app, hb, List.length_append, List.length_replicate]; decide
  have l3 : (bl (⟨#[50, 47]⟩ ++ N.extract 0 256)).length ≤ 549755813888 := by rw [bl_app, hx 256 (by decide), List.length_append, List.length_replicate]; decide
  have l4 : (bl (N.extract 0 200 ++ ⟨#[46]⟩ ++ N.extract 0 57)).length ≤ 549755813888 := by rw [bl_app, bl_app, hx 200 (by decide), hx 57 (by decide), List.length_append, List.length_append, List.length_replicate, List.length_replicate]; decide
  have l5 : (bl (N.extract 0 200 ++ ⟨#[46]⟩ ++ N.extract 0 56)).length ≤ 549755813888 := by rw [bl_app, bl_app, hx 200 (by decide), hx 56 (by decide), List.length_append, List.length_append, List.length_replicate, List.length_replicate]; decide
  have s1 := hxs 256 (by decide)
  have s2 := hxs 200 (by decide)
  have s3 := hxs 57 (by decide)
  have s4 := hxs 56 (by decide)
  have v1 : bl ⟨#[48, 48, 55]⟩ = [48, 48, 55] := rfl
  have v2 : bl ⟨#[49, 46, 50, 53]⟩ = [49, 46, 50, 53] := rfl
  obtain ⟨F, hF⟩ : ∃ F, qlow 7 1 = F := ⟨_, rfl⟩
  obtain ⟨H, hH⟩ : ∃ H, qlow 125 100 = H := ⟨_, rfl⟩
  have q1 : litF [48, 48, 55] = (F, 0) := by rw [← hF]; exact litF_3 (by decide) (by decide)
  have q2 : litF [49, 46, 50, 53] = (H, 0) := by rw [← hH]; exact litF_3 (by decide) (by decide)
  have t1 : ((qtS F).toList == (ByteArray.mk #[55]).toList) = true := lit_text [55] rfl (by decide) (by decide) (by decide) (by decide) (by decide) (by rw [← hF, qlow_eq]; decide +kernel)
  have t2 : ((qtS H).toList == (ByteArray.mk #[53, 47, 52]).toList) = true := lit_text [53, 47, 52] rfl (by decide) (by decide) (by decide) (by decide) (by decide) (by rw [← hH, qlow_eq]; decide +kernel)
  have t3 : ((qtS 0).toList == (ByteArray.mk #[48]).toList) = true := lit_text [48] rfl (by decide) (by decide) (by decide) (by decide) (by decide) (by decide +kernel)
  have t4 : ((decS (0 : Rat).den).toList == (ByteArray.mk #[49]).toList) = true := by
    have h := decS_val (s := ByteArray.mk #[49]) (show okD [49] from ⟨by decide, by decide, by decide⟩)
    rw [show valL (bl (ByteArray.mk #[49])) = (0 : Rat).den by rfl] at h
    rw [h]; exact beq_self_eq_true _
  have t5 : ((qtS ((-9223372036854775808 : Int) : Rat)).toList == (ByteArray.mk #[45, 57, 50, 50, 51, 51, 55, 50, 48, 51, 54, 56, 53, 52, 55, 55, 53, 56, 48, 56]).toList) = true := lit_text [45, 57, 50, 50, 51, 51, 55, 50, 48, 51, 54, 56, 53, 52, 55, 55, 53, 56, 48, 56] rfl (by decide) (by decide) (by decide) (by decide) (by decide) (by decide +kernel)
  have fF : fl F ≤ FB := by rw [← hF, qlow_eq]; decide +kernel
  have fH : fl H ≤ FB := by rw [← hH, qlow_eq]; decide +kernel
  have f0 : fl 0 ≤ FB := fl_zero _
  have fI : fl ((-9223372036854775808 : Int) : Rat) ≤ FB := by decide +kernel
  have d0 : blen (0 : Rat).den ≤ 68719476736 := by decide
  have d1 : blen (0 : Rat).den ≤ 34359738368 := by decide
  have w0 : wl 0 ≤ FB := by decide
  have w1 : wl 1 ≤ FB := by decide
  refine CSpec_vc (E := ⟨TF, Kz0⟩) (fn6 hP) HE hP.mix rfl (by first | rfl | (simp only [go_sem]; done)) (by first | rfl | (simp only [go_sem]; done)) (Nat.le_of_ble_eq_true rfl) ?_
  simp (maxSteps := 1000000) only [go_sem]
  refine trX_loop HE hP.mix [] (fun i : Nat => ⟨upd (upd (upd (upd (fun _ => .junk) 0 (.bool false)) 1 (.int .i64 (i : Int))) 28 (.agg [.str ⟨#[52, 47, 50]⟩, .str ⟨#[49, 47, 48]⟩, .str ⟨#[49, 47, 49]⟩, .str ⟨#[45, 48]⟩, .str ⟨#[]⟩, .str ⟨#[47]⟩, .str ⟨#[49, 47]⟩, .str ⟨#[47, 50]⟩, .str ⟨#[48, 47, 51]⟩, .str ⟨#[49, 47, 45, 50]⟩, .str ⟨#[45, 45, 49]⟩, .str ⟨#[49, 47, 50, 47, 51]⟩, .str ⟨#[48, 49]⟩, .str ⟨#[49, 47, 48, 50]⟩, .str ⟨#[43, 49]⟩])) 29 (.int .i64 (i : Int)), fun _ => .unused, 172⟩)
    (fun i => i ≤ 15) (fun i => 15 - i) 0 20 (by repeat (first | exact Has.nil | refine Has.upd rfl ?_)) (Kept.of rfl (by repeat (first | exact KT.nil | refine KT.upd rfl (by first | rfl | exact hr | exact hr2 | (simp only [go_sem]; done)) ?_)) (KM.p (by repeat (first | exact KMp.nil | refine KMp.upd rfl (by first | rfl | (simp only [go_sem]; done)) ?_)))) (by decide) 172 (by kernel_rfl) ?_
  intro i hi0
  have hi0 : i ≤ 15 := hi0
  by_cases i0 : i = 0
  · subst i0
    have w : IntKind.i64.wrap (((0 : Nat) : Int) + 1) = ((1 : Nat) : Int) := rfl
    simp (maxSteps := 1000000) only [go_sem, kb_0, kp_0, w]
    exact ⟨1, Kept.of rfl (by repeat (first | exact KT.nil | refine KT.upd rfl (by first | rfl | exact hr | exact hr2 | (simp only [go_sem]; done)) ?_)) (KM.p (by repeat (first | exact KMp.nil | refine KMp.upd rfl (by first | rfl | (simp only [go_sem]; done)) ?_))), by decide, by decide⟩
  by_cases i1 : i = 1
  · subst i1
    have w : IntKind.i64.wrap (((1 : Nat) : Int) + 1) = ((2 : Nat) : Int) := rfl
    simp (maxSteps := 1000000) only [go_sem, kb_1, kp_1, w]
    exact ⟨2, Kept.of rfl (by repeat (first | exact KT.nil | refine KT.upd rfl (by first | rfl | exact hr | exact hr2 | (simp only [go_sem]; done)) ?_)) (KM.p (by repeat (first | exact KMp.nil | refine KMp.upd rfl (by first | rfl | (simp only [go_sem]; done)) ?_))), by decide, by decide⟩
  by_cases i2 : i = 2
  · subst i2
    have w : IntKind.i64.wrap (((2 : Nat) : Int) + 1) = ((3 : Nat) : Int) := rfl
    simp (maxSteps := 1000000) only [go_sem, kb_2, kp_2, w]
    exact ⟨3, Kept.of rfl (by repeat (first | exact KT.nil | refine KT.upd rfl (by first | rfl | exact hr | exact hr2 | (simp only [go_sem]; done)) ?_)) (KM.p (by repeat (first | exact KMp.nil | refine KMp.upd rfl (by first | rfl | (simp only [go_sem]; done)) ?_))), by decide, by decide⟩
  by_cases i3 : i = 3
  · subst i3
    have w : IntKind.i64.wrap (((3 : Nat) : Int) + 1) = ((4 : Nat) : Int) := rfl
    simp (maxSteps := 1000000) only [go_sem, kb_3, kp_3, w]
    exact ⟨4, Kept.of rfl (by repeat (first | exact KT.nil | refine KT.upd rfl (by first | rfl | exact hr | exact hr2 | (simp only [go_sem]; done)) ?_)) (KM.p (by repeat (first | exact KMp.nil | refine KMp.upd rfl (by first | rfl | (simp only [go_sem]; done)) ?_))), by decide, by decide⟩
  by_cases i4 : i = 4
  · subst i4
    have w : IntKind.i64.wrap (((4 : Nat) : Int) + 1) = ((5 : Nat) : Int) := rfl
    simp (maxSteps := 1000000) only [go_sem, kb_4, kp_4, w]
    exact ⟨5, Kept.of rfl (by repeat (first | exact KT.nil | refine KT.upd rfl (by first | rfl | exact hr | exact hr2 | (simp only [go_sem]; done)) ?_)) (KM.p (by repeat (first | exact KMp.nil | refine KMp.upd rfl (by first | rfl | (simp only [go_sem]; done)) ?_))), by decide, by decide⟩
  by_cases i5 : i = 5
  · subst i5
    have w : IntKind.i64.wrap (((5 : Nat) : Int) + 1) = ((6 : Nat) : Int) := rfl
    simp (maxSteps := 1000000) only [go_sem, kb_5, kp_5, w]
    exact ⟨6, Kept.of rfl (by repeat (first | exact KT.nil | refine KT.upd rfl (by first | rfl | exact hr | exact hr2 | (simp only [go_sem]; done)) ?_)) (KM.p (by repeat (first | exact KMp.nil | refine KMp.upd rfl (by first | rfl | (simp only [go_sem]; done)) ?_))), by decide, by decide⟩
  by_cases i6 : i = 6
  · subst i6
    have w : IntKind.i64.wrap (((6 : Nat) : Int) + 1) = ((7 : Nat) : Int) := rfl
    simp (maxSteps := 1000000) only [go_sem, kb_6, kp_6, w]
    exact ⟨7, Kept.of rfl (by repeat (first | exact KT.nil | refine KT.upd rfl (by first | rfl | exact hr | exact hr2 | (simp only [go_sem]; done)) ?_)) (KM.p (by repeat (first | exact KMp.nil | refine KMp.upd rfl (by first | rfl | (simp only [go_sem]; done)) ?_))), by decide, by decide⟩
  by_cases i7 : i = 7
  · subst i7
    have w : IntKind.i64.wrap (((7 : Nat) : Int) + 1) = ((8 : Nat) : Int) := rfl
    simp (maxSteps := 1000000) only [go_sem, kb_7, kp_7, w]
    exact ⟨8, Kept.of rfl (by repeat (first | exact KT.nil | refine KT.upd rfl (by first | rfl | exact hr | exact hr2 | (simp only [go_sem]; done)) ?_)) (KM.p (by repeat (first | exact KMp.nil | refine KMp.upd rfl (by first | rfl | (simp only [go_sem]; done)) ?_))), by decide, by decide⟩
  by_cases i8 : i = 8
  · subst i8
    have w : IntKind.i64.wrap (((8 : Nat) : Int) + 1) = ((9 : Nat) : Int) := rfl
    simp (maxSteps := 1000000) only [go_sem, kb_8, kp_8, w]
    exact ⟨9, Kept.of rfl (by repeat (first | exact KT.nil | refine KT.upd rfl (by first | rfl | exact hr | exact hr2 | (simp only [go_sem]; done)) ?_)) (KM.p (by repeat (first | exact KMp.nil | refine KMp.upd rfl (by first | rfl | (simp only [go_sem]; done)) ?_))), by decide, by decide⟩
  by_cases i9 : i = 9
  · subst i9
    have w : IntKind.i64.wrap (((9 : Nat) : Int) + 1) = ((10 : Nat) : Int) := rfl
    simp (maxSteps := 1000000) only [go_sem, kb_9, kp_9, w]
    exact ⟨10, Kept.of rfl (by repeat (first | exact KT.nil | refine KT.upd rfl (by first | rfl | exact hr | exact hr2 | (simp only [go_sem]; done)) ?_)) (KM.p (by repeat (first | exact KMp.nil | refine KMp.upd rfl (by first | rfl | (simp only [go_sem]; done)) ?_))), by decide, by decide⟩
  by_cases i10 : i = 10
  · subst i10
    have w : IntKind.i64.wrap (((10 : Nat) : Int) + 1) = ((11 : Nat) : Int) := rfl
    simp (maxSteps := 1000000) only [go_sem, kb_10, kp_10, w]
    exact ⟨11, Kept.of rfl (by repeat (first | exact KT.nil | refine KT.upd rfl (by first | rfl | exact hr | exact hr2 | (simp only [go_sem]; done)) ?_)) (KM.p (by repeat (first | exact KMp.nil | refine KMp.upd rfl (by first | rfl | (simp only [go_sem]; done)) ?_))), by decide, by decide⟩
  by_cases i11 : i = 11
  · subst i11
    have w : IntKind.i64.wrap (((11 : Nat) : Int) + 1) = ((12 : Nat) : Int) := rfl
    simp (maxSteps := 1000000) only [go_sem, kb_11, kp_11, w]
    exact ⟨12, Kept.of rfl (by repeat (first | exact KT.nil | refine KT.upd rfl (by first | rfl | exact hr | exact hr2 | (simp only [go_sem]; done)) ?_)) (KM.p (by repeat (first | exact KMp.nil | refine KMp.upd rfl (by first | rfl | (simp only [go_sem]; done)) ?_))), by decide, by decide⟩
  by_cases i12 : i = 12
  · subst i12
    have w : IntKind.i64.wrap (((12 : Nat) : Int) + 1) = ((13 : Nat) : Int) := rfl
    simp (maxSteps := 1000000) only [go_sem, kb_12, kp_12, w]
    exact ⟨13, Kept.of rfl (by repeat (first | exact KT.nil | refine KT.upd rfl (by first | rfl | exact hr | exact hr2 | (simp only [go_sem]; done)) ?_)) (KM.p (by repeat (first | exact KMp.nil | refine KMp.upd rfl (by first | rfl | (simp only [go_sem]; done)) ?_))), by decide, by decide⟩
  by_cases i13 : i = 13
  · subst i13
    have w : IntKind.i64.wrap (((13 : Nat) : Int) + 1) = ((14 : Nat) : Int) := rfl
    simp (maxSteps := 1000000) only [go_sem, kb_13, kp_13, w]
    exact ⟨14, Kept.of rfl (by repeat (first | exact KT.nil | refine KT.upd rfl (by first | rfl | exact hr | exact hr2 | (simp only [go_sem]; done)) ?_)) (KM.p (by repeat (first | exact KMp.nil | refine KMp.upd rfl (by first | rfl | (simp only [go_sem]; done)) ?_))), by decide, by decide⟩
  by_cases i14 : i = 14
  · subst i14
    have w : IntKind.i64.wrap (((14 : Nat) : Int) + 1) = ((15 : Nat) : Int) := rfl
    simp (maxSteps := 1000000) only [go_sem, kb_14, kp_14, w]
    exact ⟨15, Kept.of rfl (by repeat (first | exact KT.nil | refine KT.upd rfl (by first | rfl | exact hr | exact hr2 | (simp only [go_sem]; done)) ?_)) (KM.p (by repeat (first | exact KMp.nil | refine KMp.upd rfl (by first | rfl | (simp only [go_sem]; done)) ?_))), by decide, by decide⟩
  have hi : i = 15 := by omega
  subst hi
  simp (maxSteps := 1000000) only [go_sem]
  refine trX_loop HE hP.mix [] (fun i : Nat => ⟨upd (upd (upd (upd (fun _ => .junk) 0 (.bool false)) 1 (.int .i64 ((15 + i : Nat) : Int))) 42 (.agg [.str ⟨#[]⟩, .str ⟨#[46]⟩, .str ⟨#[46, 53]⟩, .str ⟨#[53, 46]⟩, .str ⟨#[45, 49]⟩, .str ⟨#[49, 46, 50, 46, 51]⟩, .str ⟨#[49, 101, 53]⟩])) 43 (.int .i64 (i : Int)), fun _ => .unused, 172⟩)
    (fun i => i ≤ 7) (fun i => 7 - i) 0 20 (by repeat (first | exact Has.nil | refine Has.upd rfl ?_)) (Kept.of rfl (by repeat (first | exact KT.nil | refine KT.upd rfl (by first | rfl | exact hr | exact hr2 | (simp only [go_sem]; done)) ?_)) (KM.p (by repeat (first | exact KMp.nil | refine KMp.upd rfl (by first | rfl | (simp only [go_sem]; done)) ?_)))) (by decide) 172 (by kernel_rfl) ?_
  intro j hj0
  have hj0 : j ≤ 7 := hj0
  by_cases j0 : j = 0
  · subst j0
    have w : IntKind.i64.wrap (((0 : Nat) : Int) + 1) = ((1 : Nat) : Int) := rfl
    have w' : IntKind.i64.wrap (((15 : Nat) : Int) + 1) = ((16 : Nat) : Int) := rfl
    simp (maxSteps := 1000000) only [go_sem, kc_0, kl_0, w, w']
    exact ⟨1, Kept.of rfl (by repeat (first | exact KT.nil | refine KT.upd rfl (by first | rfl | exact hr | exact hr2 | (simp only [go_sem]; done)) ?_)) (KM.p (by repeat (first | exact KMp.nil | refine KMp.upd rfl (by first | rfl | (simp only [go_sem]; done)) ?_))), by decide, by decide⟩
  by_cases j1 : j = 1
  · subst j1
    have w : IntKind.i64.wrap (((1 : Nat) : Int) + 1) = ((2 : Nat) : Int) := rfl
    have w' : IntKind.i64.wrap (((16 : Nat) : Int) + 1) = ((17 : Nat) : Int) := rfl
    simp (maxSteps := 1000000) only [go_sem, kc_1, kl_1, w, w']
    exact ⟨2, Kept.of rfl (by repeat (first | exact KT.nil | refine KT.upd rfl (by first | rfl | exact hr | exact hr2 | (simp only [go_sem]; done)) ?_)) (KM.p (by repeat (first | exact KMp.nil | refine KMp.upd rfl (by first | rfl | (simp only [go_sem]; done)) ?_))), by decide, by decide⟩
  by_cases j2 : j = 2
  · subst j2
    have w : IntKind.i64.wrap (((2 : Nat) : Int) + 1) = ((3 : Nat) : Int) := rfl
    have w' : IntKind.i64.wrap (((17 : Nat) : Int) + 1) = ((18 : Nat) : Int) := rfl
    simp (maxSteps := 1000000) only [go_sem, kc_2, kl_2, w, w']
    exact ⟨3, Kept.of rfl (by repeat (first | exact KT.nil | refine KT.upd rfl (by first | rfl | exact hr | exact hr2 | (simp only [go_sem]; done)) ?_)) (KM.p (by repeat (first | exact KMp.nil | refine KMp.upd rfl (by first | rfl | (simp only [go_sem]; done)) ?_))), by decide, by decide⟩
  by_cases j3 : j = 3
  · subst j3
    have w : IntKind.i64.wrap (((3 : Nat) : Int) + 1) = ((4 : Nat) : Int) := rfl
    have w' : IntKind.i64.wrap (((18 : Nat) : Int) + 1) = ((19 : Nat) : Int) := rfl
    simp (maxSteps := 1000000) only [go_sem, kc_3, kl_3, w, w']
    exact ⟨4, Kept.of rfl (by repeat (first | exact KT.nil | refine KT.upd rfl (by first | rfl | exact hr | exact hr2 | (simp only [go_sem]; done)) ?_)) (KM.p (by repeat (first | exact KMp.nil | refine KMp.upd rfl (by first | rfl | (simp only [go_sem]; done)) ?_))), by decide, by decide⟩
  by_cases j4 : j = 4
  · subst j4
    have w : IntKind.i64.wrap (((4 : Nat) : Int) + 1) = ((5 : Nat) : Int) := rfl
    have w' : IntKind.i64.wrap (((19 : Nat) : Int) + 1) = ((20 : Nat) : Int) := rfl
    simp (maxSteps := 1000000) only [go_sem, kc_4, kl_4, w, w']
    exact ⟨5, Kept.of rfl (by repeat (first | exact KT.nil | refine KT.upd rfl (by first | rfl | exact hr | exact hr2 | (simp only [go_sem]; done)) ?_)) (KM.p (by repeat (first | exact KMp.nil | refine KMp.upd rfl (by first | rfl | (simp only [go_sem]; done)) ?_))), by decide, by decide⟩
  by_cases j5 : j = 5
  · subst j5
    have w : IntKind.i64.wrap (((5 : Nat) : Int) + 1) = ((6 : Nat) : Int) := rfl
    have w' : IntKind.i64.wrap (((20 : Nat) : Int) + 1) = ((21 : Nat) : Int) := rfl
    simp (maxSteps := 1000000) only [go_sem, kc_5, kl_5, w, w']
    exact ⟨6, Kept.of rfl (by repeat (first | exact KT.nil | refine KT.upd rfl (by first | rfl | exact hr | exact hr2 | (simp only [go_sem]; done)) ?_)) (KM.p (by repeat (first | exact KMp.nil | refine KMp.upd rfl (by first | rfl | (simp only [go_sem]; done)) ?_))), by decide, by decide⟩
  by_cases j6 : j = 6
  · subst j6
    have w : IntKind.i64.wrap (((6 : Nat) : Int) + 1) = ((7 : Nat) : Int) := rfl
    have w' : IntKind.i64.wrap (((21 : Nat) : Int) + 1) = ((22 : Nat) : Int) := rfl
    simp (maxSteps := 1000000) only [go_sem, kc_6, kl_6, w, w']
    exact ⟨7, Kept.of rfl (by repeat (first | exact KT.nil | refine KT.upd rfl (by first | rfl | exact hr | exact hr2 | (simp only [go_sem]; done)) ?_)) (KM.p (by repeat (first | exact KMp.nil | refine KMp.upd rfl (by first | rfl | (simp only [go_sem]; done)) ?_))), by decide, by decide⟩
  have hj : j = 7 := by omega
  subst hj
  simp (maxSteps := 1000000) only [go_sem, hN, p1, p2, p3, p4, p5, l1, l2, l3, l4, l5, hsz, s1, s2, s3, s4, v1, v2, q1, q2, t1, t2, t3, t4, t5, fF, fH, f0, fI, d0, d1, w0, w1]
  (repeat' (first | exact Conv.refl _ | refine And.intro ?_ ?_)) <;> first | omega | decide
end Go.Proofs.YtjnhekedclcbfaaDoor.AM
