/- WholeKnown. -/
import Derived.Test.YtokoagkbfdkacaaB9
import Derived.Test.YtokoagkbfdkacaaUo
namespace Go.Proofs.Ytokoagkbfdkacaa.AM
set_option linter.all false
set_option autoImplicit true
set_option relaxedAutoImplicit true
open Go Go.Proofs
set_option maxRecDepth 100000
set_option maxHeartbeats 16000000
set_option linter.unusedSimpArgs false
variable {P : Program}

theorem parW_bad {l : List Nat} (h : l = [45, 48] ∨ ¬ okD (if l.getD 0 0 = 45 then l.drop 1 else l)) : parW l = (0, 12) := by
  unfold parW
  by_cases h0 : l = [45, 48]
  · rw [if_pos h0]
  · rw [if_neg h0]
    have h := h.resolve_left h0
    unfold prD
    rw [if_neg h]
    cases decide (l.getD 0 0 = 45) <;> rfl
theorem okD9 {n : Nat} (h : 0 < n) : okD (List.replicate n 57) := by
  refine ⟨by intro e; have := congrArg List.length e; simp at this; omega, ?_, ?_⟩
  · rintro ⟨_, h2⟩
    obtain ⟨k, rfl⟩ : ∃ k, n = k + 1 := ⟨n - 1, by omega⟩
    rw [List.replicate_succ] at h2; simp at h2
  · intro c hc
    obtain rfl := (List.mem_replicate.1 hc).2
    decide
theorem bl9 (n : Nat) : bl (bytesS ((List.replicate n 57).map fun d : Nat => AV.int .u8 (d : Int))) = List.replicate n 57 := bl_bytesS fun c hc => by
  obtain rfl := (List.mem_replicate.1 hc).2
  decide
theorem isB_U (l : List Nat) : (l.map fun d : Nat => AV.int .u8 (d : Int)).all isB = true := by rw [List.all_map]; simp [isB]
theorem valL9_pos (n : Nat) : 0 < valL (List.replicate (n + 1) 57) := by
  have e := valL_app [57] (List.replicate n 57)
  rw [List.replicate_succ]
  simp only [List.singleton_append] at e
  rw [e]
  have : 0 < valL [57] * 10 ^ (List.replicate n 57).length := Nat.mul_pos (by decide) (Nat.pow_pos (by decide))
  omega
theorem WholeKnown_spec (hP : PrgOk P) : CSpec P 10 [] (.bool true) := by
  have HE := Wt7_all hP T2 hP.t2
  have p1 : parW (bl ⟨#[45, 48]⟩) = (0, 12) := parW_bad (.inl rfl)
  have p2 : parW (bl ⟨#[43, 49]⟩) = (0, 12) := parW_bad (l := [43, 49]) (.inr (by decide))
  have p3 : parW (bl ⟨#[48, 49]⟩) = (0, 12) := parW_bad (l := [48, 49]) (.inr (by decide))
  have p4 : parW (bl ⟨#[]⟩) = (0, 12) := parW_bad (l := []) (.inr (by decide))
  have p5 : parW (bl ⟨#[45]⟩) = (0, 12) := parW_bad (l := [45]) (.inr (by decide))
  have l1 : (bl ⟨#[45, 48]⟩).length = 2 := rfl
  have l2 : (bl ⟨#[43, 49]⟩).length = 2 := rfl
  have l3 : (bl ⟨#[48, 49]⟩).length = 2 := rfl
  have l4 : (bl ⟨#[]⟩).length = 0 := rfl
  have l5 : (bl ⟨#[45]⟩).length = 1 := rfl
  have w1 : IntKind.i64.wrap (0 + 1) = 1 := rfl
  have w2 : IntKind.i64.wrap (1 + 1) = 2 := rfl
  have w3 : IntKind.i64.wrap (2 + 1) = 3 := rfl
  have w4 : IntKind.i64.wrap (3 + 1) = 4 := rfl
  have w5 : IntKind.i64.wrap (4 + 1) = 5 := rfl
  have w6 : IntKind.i64.wrap (5 + 1) = 6 := rfl
  have z2 : ((2 : Int) = 0) = False := by decide
  have z3 : ((-2 : Int) = 0) = False := by decide
  have z4 : ((-5 : Int) = 0) = False := by decide
  have q1 : qZ 7 2 = 3 := by decide
  have q2 : qZ (-7) 2 = -4 := by decide
  have q3 : qZ 7 (-2) = -3 := by decide
  have q4 : qZ (-7) (-2) = 4 := by decide
  have q5 : qZ (-8) 2 = -4 := by decide
  have q6 : qZ 0 (-5) = 0 := by decide
  have r1 : ((rZ 7 2 : Nat) : Int) = 1 := by decide
  have r2 : ((rZ (-7) 2 : Nat) : Int) = 1 := by decide
  have r3 : ((rZ 7 (-2) : Nat) : Int) = 1 := by decide
  have r4 : ((rZ (-7) (-2) : Nat) : Int) = 1 := by decide
  have r5 : ((rZ (-8) 2 : Nat) : Int) = 0 := by decide
  have r6 : ((rZ 0 (-5) : Nat) : Int) = 0 := by decide
  refine CSpec_vc (E := ⟨T2, Wt7⟩) (fn10 hP) HE hP.mix rfl (by first | rfl | (simp only [go_sem]; done)) (by first | rfl | (simp only [go_sem]; done)) (Nat.le_of_ble_eq_true rfl) ?_
  simp (maxSteps := 1000000) only [go_sem, p1, p2, p3, p4, p5, l1, l2, l3, l4, l5]
  refine trX_loopM HE hP.mix [33, 26, 19, 12, 5] (fun k : Nat => upd (upd (fun _ => .junk) 11 (.bool true)) 12 (.int .i64 (k : Int))) (fun m _ => m) (fun k => k ≤ 6) (fun k => 6 - k) 0 100 264 (by kernel_rfl) (by repeat (first | exact GenM.nil | refine GenM.upd ?_ rfl rfl)) rfl (by repeat (first | exact KT.nil | refine KT.upd rfl rfl ?_)) (Nat.zero_le _) ?_
  intro m hm em k hk
  have hU : ∀ r, [33, 26, 19, 12, 5].contains r = false → m r = .unused := fun r h => hm.none h
  have k0 : ((0 : Nat) : Int) = 0 := rfl
  have k1 : ((1 : Nat) : Int) = 1 := rfl
  have k2 : ((2 : Nat) : Int) = 2 := rfl
  have k3 : ((3 : Nat) : Int) = 3 := rfl
  have k4 : ((4 : Nat) : Int) = 4 := rfl
  have k5 : ((5 : Nat) : Int) = 5 := rfl
  have k6 : ((6 : Nat) : Int) = 6 := rfl
  rcases (by omega : k = 0 ∨ k = 1 ∨ k = 2 ∨ k = 3 ∨ k = 4 ∨ k = 5 ∨ k = 6) with rfl | rfl | rfl | rfl | rfl | rfl | rfl
  ·
    simp (maxSteps := 1000000) only [go_sem, k0, z2, q1, r1, w1, hU, cmpZ_eq, bne_self_eq_false]
    repeat' (refine And.intro (by repeat' (first | decide | exact Nat.le_of_ble_eq_true rfl | refine And.intro ?_ ?_)) ?_)
    exact ⟨1, Kept.of rfl (by repeat (first | exact KT.nil | refine KT.upd rfl rfl ?_)) (by repeat (first | exact KM.gen hm | refine KM.drop ?_ rfl)), by decide, by decide⟩
  ·
    simp (maxSteps := 1000000) only [go_sem, k1, z2, q2, r2, w2, hU, cmpZ_eq, bne_self_eq_false]
    repeat' (refine And.intro (by repeat' (first | decide | exact Nat.le_of_ble_eq_true rfl | refine And.intro ?_ ?_)) ?_)
    exact ⟨2, Kept.of rfl (by repeat (first | exact KT.nil | refine KT.upd rfl rfl ?_)) (by repeat (first | exact KM.gen hm | refine KM.drop ?_ rfl)), by decide, by decide⟩
  ·
    simp (maxSteps := 1000000) only [go_sem, k2, z3, q3, r3, w3, hU, cmpZ_eq, bne_self_eq_false]
    repeat' (refine And.intro (by repeat' (first | decide | exact Nat.le_of_ble_eq_true rfl | refine And.intro ?_ ?_)) ?_)
    exact ⟨3, Kept.of rfl (by repeat (first | exact KT.nil | refine KT.upd rfl rfl ?_)) (by repeat (first | exact KM.gen hm | refine KM.drop ?_ rfl)), by decide, by decide⟩
  ·
    simp (maxSteps := 1000000) only [go_sem, k3, z3, q4, r4, w4, hU, cmpZ_eq, bne_self_eq_false]
    repeat' (refine And.intro (by repeat' (first | decide | exact Nat.le_of_ble_eq_true rfl | refine And.intro ?_ ?_)) ?_)
    exact ⟨4, Kept.of rfl (by repeat (first | exact KT.nil | refine KT.upd rfl rfl ?_)) (by repeat (first | exact KM.gen hm | refine KM.drop ?_ rfl)), by decide, by decide⟩
  ·
    simp (maxSteps := 1000000) only [go_sem, k4, z2, q5, r5, w5, hU, cmpZ_eq, bne_self_eq_false]
    repeat' (refine And.intro (by repeat' (first | decide | exact Nat.le_of_ble_eq_true rfl | refine And.intro ?_ ?_)) ?_)
    exact ⟨5, Kept.of rfl (by repeat (first | exact KT.nil | refine KT.upd rfl rfl ?_)) (by repeat (first | exact KM.gen hm | refine KM.drop ?_ rfl)), by decide, by decide⟩
  ·
    simp (maxSteps := 1000000) only [go_sem, k5, z4, q6, r6, w6, hU, cmpZ_eq, bne_self_eq_false]
    repeat' (refine And.intro (by repeat' (first | decide | exact Nat.le_of_ble_eq_true rfl | refine And.intro ?_ ?_)) ?_)
    exact ⟨6, Kept.of rfl (by repeat (first | exact KT.nil | refine KT.upd rfl rfl ?_)) (by repeat (first | exact KM.gen hm | refine KM.drop ?_ rfl)), by decide, by decide⟩
  have g1 : primL [6, -4, 0] = [3, -2, 0] := by decide +kernel
  have g2 : primL [0, 0] = [0, 0] := by decide +kernel
  have g3 : primL [-5] = [-1] := by decide +kernel
  have g4 : primL [] = [] := rfl
  have c1 : cl wG [3, -2, 0] = [.opq (.whole 3), .pad, .pad, .opq (.whole (-2)), .pad, .pad, .opq (.whole 0), .pad, .pad] := rfl
  have c2 : cl wG [0, 0] = [.opq (.whole 0), .pad, .pad, .opq (.whole 0), .pad, .pad] := rfl
  have c3 : cl wG [-1] = [.opq (.whole (-1)), .pad, .pad] := rfl
  have c4 : cl wG [] = [] := rfl
  have t1 : ((itS 3).toList == (ByteArray.mk #[51]).toList) = true := itS_lit (parW_pos (d := [51]) ⟨by decide, by decide, by decide⟩ (by decide) rfl)
  have t2 : ((itS (-2)).toList == (ByteArray.mk #[45, 50]).toList) = true := itS_lit (parW_neg (d := [50]) ⟨by decide, by decide, by decide⟩ (by decide) rfl (by decide))
  have t3 : ((itS 0).toList == (ByteArray.mk #[48]).toList) = true := itS_lit (parW_pos (d := [48]) ⟨by decide, by decide, by decide⟩ (by decide) rfl)
  have t4 : ((itS (-1)).toList == (ByteArray.mk #[45, 49]).toList) = true := itS_lit (parW_neg (d := [49]) ⟨by decide, by decide, by decide⟩ (by decide) rfl (by decide))
  have f1 : fitZ (-(-9223372036854775808)) = false := by decide
  have f2 : fitZ (-9223372036854775808) = true := by decide
  have s0 : sgnZ 0 = 0 := rfl
  simp (maxSteps := 1000000) only [go_sem, g1, g2, g3, g4, c1, c2, c3, c4, t1, t2, t3, t4, f1, f2, s0, k6, hU, cmpZ_eq, bne_self_eq_false]
  repeat' (refine And.intro (by repeat' (first | decide | exact Nat.le_of_ble_eq_true rfl | (intro x hx; cases hx; done) | refine And.intro ?_ ?_)) ?_)
  have hmL : GenM [205, 188, 126, 122, 117, 110, 109, 33, 26, 19, 12, 5] m := by rw [em]; repeat (first | exact GenM.nil | refine GenM.upd ?_ rfl rfl)
  refine trX_loopM HE hP.mix [205, 188, 126, 122, 117, 110, 109, 33, 26, 19, 12, 5] (fun i : Nat => upd (upd (upd (upd (upd (upd (upd (upd (upd (fun _ => .junk) 11 (.bool true)) 23 (.bool true)) 24 (.ref 188 0)) 25 (.int .i64 0)) 26 (.bool false)) 27 (.int .i64 (-9223372036854775808))) 28 (.bool true)) 29 (.sl 205 0 257 1)) 30 (.int .i64 (i : Int)))
    (fun m i => upd m 205 (.live ((List.replicate i 57 ++ List.replicate (257 - i) 0).map fun d : Nat => AV.int .u8 (d : Int)))) (fun i => i ≤ 257) (fun i => 257 - i) 0 300 264 (by kernel_rfl) (by repeat (first | exact hmL | refine GenM.upd ?_ rfl rfl)) (by rw [upd_upd]; rfl) (by repeat (first | exact KT.nil | refine KT.upd rfl rfl ?_)) (Nat.zero_le _) ?_
  intro m2 hm2 em2 i hi
  have h188 : m2 188 = .live [.opq (.whole (-9223372036854775808)), .pad, .pad] := by rw [em2]; simp only [go_sem]
  have hU2 : ∀ r, [205, 188, 126, 122, 117, 110, 109, 33, 26, 19, 12, 5].contains r = false → m2 r = .unused := fun r h => hm2.none h
  clear em2 hm hmL em hU
  by_cases hi2 : i < 257
  · have hwi := wi_add1 i (by omega)
    have hnl : i < i + (257 - i) := by omega
    have hset : (List.replicate i 57 ++ List.replicate (257 - i) 0).set i 57 = List.replicate (i + 1) 57 ++ List.replicate (257 - (i + 1)) 0 := by
      rw [rep_set (List.length_replicate) hi2, List.replicate_succ']
    have hpl : ((((List.replicate i 57 ++ List.replicate (257 - i) 0)).map fun d : Nat => AV.int .u8 (d : Int)).getD i .junk).plain = true := plain_U (by rw [List.length_append, List.length_replicate, List.length_replicate]; exact hnl)
    have h57 : (List.map (fun d : Nat => AV.int .u8 (d : Int)) (List.replicate i 57 ++ List.replicate (257 - i) 0)).set i (.int .u8 57) = (List.map (fun d : Nat => AV.int .u8 (d : Int)) (List.replicate (i + 1) 57 ++ List.replicate (257 - (i + 1)) 0)) := by
      rw [← hset]; exact set_U (e := 57)
    simp (maxSteps := 1000000) only [go_sem, hi2, hwi, hnl, hpl, h57, upd_upd]
    exact ⟨i + 1, Kept.of rfl (by repeat (first | exact KT.nil | refine KT.upd rfl rfl ?_)) (KM.gen (hm2.upd rfl objOnly_U)), by omega, by omega⟩
  · have hi257 : i = 257 := by omega
    have e0 : List.replicate i 57 ++ List.replicate (257 - i) 0 = List.replicate i 57 := by rw [hi257, Nat.sub_self, List.replicate_zero, List.append_nil]
    have e1 : (List.replicate i 57).take 257 = List.replicate i 57 := List.take_of_length_le (by rw [List.length_replicate]; omega)
    have e2 : (List.replicate (i - 1) 57).take 256 = List.replicate (i - 1) 57 := List.take_of_length_le (by rw [List.length_replicate]; omega)
    have e3 : ((257 : Int) - 1).toNat = 256 := rfl
    have e4 : 257 ≤ i := by omega
    have b1 := bl9 i
    have b2 : bl (ByteArray.mk #[45] ++ bytesS ((List.replicate (i - 1) 57).map fun d : Nat => AV.int .u8 (d : Int))) = 45 :: List.replicate (i - 1) 57 := by rw [bl_app, bl9]; rfl
    have hsz : (ByteArray.mk #[45]).size + (bytesS ((List.replicate (i - 1) 57).map fun d : Nat => AV.int .u8 (d : Int))).size ≤ 9223372036854775807 := by
      rw [bytesS_size, List.length_map, List.length_replicate]
      have : (ByteArray.mk #[45]).size = 1 := rfl
      omega
    have p257 : parW (List.replicate i 57) = (0, 3) := by
      have hh : ¬ (List.replicate i 57).getD 0 0 = 45 := by rw [hi257]; decide
      unfold parW prD
      rw [if_neg (fun e => hh (by rw [e]; rfl)), if_neg hh, if_pos (okD9 (by omega)), if_neg (by rw [List.length_replicate]; omega), decide_eq_false hh]; rfl
    have p256 : ∃ z, parW (45 :: List.replicate (i - 1) 57) = (z, 0) := ⟨_, parW_neg (okD9 (by omega)) (by rw [List.length_replicate]; omega) rfl (by intro e; have := congrArg List.length e; rw [List.length_replicate] at this; simp at this; omega)⟩
    obtain ⟨z9, p256⟩ := p256
    have t9 : ((itS (-(-9223372036854775808))).toList == (ByteArray.mk #[57, 50, 50, 51, 51, 55, 50, 48, 51, 54, 56, 53, 52, 55, 55, 53, 56, 48, 56]).toList) = true := itS_lit (parW_pos (n := 9223372036854775808) (d := [57, 50, 50, 51, 51, 55, 50, 48, 51, 54, 56, 53, 52, 55, 55, 53, 56, 48, 56]) ⟨by decide, by decide, by decide⟩ (by decide) rfl)
    have c9 : ((-9223372036854775808 : Int) == -9223372036854775808) = true := rfl
    have l9 : List.length (List.replicate i 57) = i := List.length_replicate
    simp (maxSteps := 1000000) only [go_sem, hi2, e0, e1, e2, e3, e4, b1, b2, p257, p256, t9, hU2, h188, isB_U]
    exact ⟨by omega, by decide, hsz, by omega, Nat.le_of_ble_eq_true rfl, Nat.le_of_ble_eq_true rfl, .refl _⟩
end Go.Proofs.Ytokoagkbfdkacaa.AM
