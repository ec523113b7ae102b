/- WholeCoprime. -/
import Derived.Test.YtokoagkbfdkacaaWq
import Derived.Test.YtokoagkbfdkacaaWo
namespace Go.Proofs.Ytokoagkbfdkacaa.AM
set_option linter.all false
set_option autoImplicit true
set_option relaxedAutoImplicit true
open Go Go.Proofs
set_option maxRecDepth 100000
set_option maxHeartbeats 8000000
set_option linter.unusedSimpArgs false
variable {P : Program}

theorem gcdF_dvd : ∀ (l : List Int) (g : Nat), l.foldl (fun g z => Nat.gcd g z.natAbs) g ∣ g ∧ ∀ z ∈ l, l.foldl (fun g z => Nat.gcd g z.natAbs) g ∣ z.natAbs
  | [], g => ⟨Nat.dvd_refl _, by simp⟩
  | y :: l, g => by
    obtain ⟨h1, h2⟩ := gcdF_dvd l (Nat.gcd g y.natAbs)
    simp only [List.foldl_cons]
    refine ⟨Nat.dvd_trans h1 (Nat.gcd_dvd_left _ _), fun z hz => ?_⟩
    rcases List.mem_cons.1 hz with rfl | hz
    · exact Nat.dvd_trans h1 (Nat.gcd_dvd_right _ _)
    · exact h2 z hz
theorem gcdL_dvd {l : List Int} {z : Int} (h : z ∈ l) : gcdL l ∣ z.natAbs := (gcdF_dvd l 0).2 z h
theorem dvd_gcdF {d : Nat} : ∀ (l : List Int) (g : Nat), d ∣ g → (∀ z ∈ l, d ∣ z.natAbs) → d ∣ l.foldl (fun g z => Nat.gcd g z.natAbs) g
  | [], _, h, _ => h
  | _ :: l, _, h, h' => dvd_gcdF l _ (Nat.dvd_gcd h (h' _ (by simp))) fun z hz => h' z (by simp [hz])
theorem dvd_gcdL {d : Nat} {l : List Int} (h : ∀ z ∈ l, d ∣ z.natAbs) : d ∣ gcdL l := dvd_gcdF l 0 (Nat.dvd_zero _) h
theorem primZ_abs {g : Nat} (h : g ≠ 0) (z : Int) : (primZ g z).natAbs = z.natAbs / g := by unfold primZ; rw [if_neg h, sg_abs]
theorem primZ_mul {g : Nat} {z : Int} (h : g ≠ 0) (hd : g ∣ z.natAbs) : primZ g z * (g : Int) = z := by
  have hz := sg_of z
  unfold primZ
  rw [if_neg h]
  have e := Nat.div_mul_cancel hd
  by_cases h1 : z < 0
  · rw [decide_eq_true h1, sg_t] at *
    rw [Int.neg_mul, ← Int.natCast_mul, e]; exact hz
  · rw [decide_eq_false h1, sg_f] at *
    rw [← Int.natCast_mul, e]; exact hz
theorem gcd_prim {l : List Int} (h : gcdL l ≠ 0) : gcdL (primL l) = 1 := by
  have key : gcdL (primL l) * gcdL l ∣ gcdL l := dvd_gcdL fun z hz => by
    have h1 := gcdL_dvd hz
    have h2 : primZ (gcdL l) z ∈ primL l := List.mem_map_of_mem hz
    have h3 := gcdL_dvd h2
    rw [primZ_abs h] at h3
    obtain ⟨c, hc⟩ := h3
    have e := Nat.div_mul_cancel h1
    exact ⟨c, by rw [← e, hc, Nat.mul_assoc, Nat.mul_comm c, ← Nat.mul_assoc]⟩
  obtain ⟨c, hc⟩ := key
  have hp : 0 < gcdL l := by omega
  have h1 : gcdL l * (gcdL (primL l) * c) = gcdL l * 1 := by
    rw [Nat.mul_one]; conv => rhs; rw [hc]
    rw [Nat.mul_comm (gcdL (primL l)) (gcdL l), Nat.mul_assoc]
  have h2 := Nat.eq_of_mul_eq_mul_left hp h1
  exact Nat.dvd_one.1 ⟨c, h2.symm⟩
theorem primZ_one (z : Int) : primZ 1 z = z := by
  unfold primZ; rw [if_neg (by decide), Nat.div_one]; exact sg_of z
theorem primZ_zero (z : Int) : primZ 0 z = z := if_pos rfl
theorem gcdL_zero {l : List Int} (h : gcdL l = 0) {z : Int} (hz : z ∈ l) : z = 0 := by
  have := gcdL_dvd hz
  rw [h] at this
  have := Nat.zero_dvd.1 this
  omega
theorem primL_idem (l : List Int) : primL (primL l) = primL l := by
  by_cases h : gcdL l = 0
  · have e : primL l = l := by
      unfold primL; rw [h]
      conv => rhs; rw [← List.map_id l]
      exact List.map_congr_left fun z _ => primZ_zero z
    rw [e, e]
  · have e := gcd_prim h
    rw [show primL (primL l) = (primL l).map (primZ (gcdL (primL l))) from rfl, e]
    conv => rhs; rw [← List.map_id (primL l)]
    exact List.map_congr_left fun z _ => primZ_one z
theorem prim_sgn {l : List Int} {z : Int} (hz : z ∈ l) : sgnZ (primZ (gcdL l) z) = sgnZ z := by
  by_cases h : gcdL l = 0
  · rw [h, primZ_zero]
  · have e := primZ_mul h (gcdL_dvd hz)
    have hp : (0 : Int) < gcdL l := by omega
    generalize primZ (gcdL l) z = p at *
    generalize (gcdL l : Int) = g at *
    rcases Int.lt_trichotomy p 0 with h1 | h1 | h1
    · rw [sgnZ_neg h1, sgnZ_neg (by rw [← e]; exact Int.mul_neg_of_neg_of_pos h1 hp)]
    · rw [h1, Int.zero_mul] at e
      rw [h1, ← e]
    · rw [sgnZ_pos h1, sgnZ_pos (by rw [← e]; exact Int.mul_pos h1 hp)]
theorem prim_cross {l : List Int} {y z : Int} (hy : y ∈ l) (hz : z ∈ l) : primZ (gcdL l) y * z = primZ (gcdL l) z * y := by
  by_cases h : gcdL l = 0
  · rw [h, primZ_zero, primZ_zero, Int.mul_comm]
  · have e1 := primZ_mul h (gcdL_dvd hy)
    have e2 := primZ_mul h (gcdL_dvd hz)
    generalize primZ (gcdL l) y = p at *
    generalize primZ (gcdL l) z = q at *
    rw [← e1, ← e2, ← Int.mul_assoc, ← Int.mul_assoc, Int.mul_comm p q]
theorem zero_all {l : List Int} (h : l.all (fun z => decide (z = 0)) = false) : gcdL l ≠ 0 := fun e => by
  have : l.all (fun z => decide (z = 0)) = true := List.all_eq_true.2 fun z hz => decide_eq_true (gcdL_zero e hz)
  rw [h] at this; simp at this
theorem WholeCoprime_spec (hP : PrgOk P) (v : AV) (o : (Sha.slice (.row [.bool, .slice (.int .u16)])).Ok [v]) : CSpec P 11 [v] (.bool true) := by
  obtain ⟨bs, hbl, hbs, c⟩ := bigs_in o
  refine CSpec.cv ?_ c
  have HE := Wt7_all hP T2 hP.t2
  have hgo : groundL [.imm bs.length (cl bC bs)] = true := by simp only [groundL, onlyL, AV.only, cl_only, Bool.and_true]
  refine CSpec_vc (E := ⟨T2, Wt7⟩) (fn11 hP) HE hP.mix rfl hgo rfl (Nat.le_of_ble_eq_true rfl) ?_
  have hro : ∀ f, (AV.imm bs.length (cl bC bs)).only f = true := fun f => by simp only [AV.only, cl_only]
  obtain ⟨zs, hzs⟩ : ∃ zs, bs.map (fun b => bigZ b.1 b.2) = zs := ⟨_, rfl⟩
  have hzl : zs.length = bs.length := by rw [← hzs, List.length_map]
  have hzw : ∀ z ∈ zs, wl z ≤ 800 := fun z hz => by
    rw [← hzs] at hz
    obtain ⟨b, hb, rfl⟩ := List.mem_map.1 hz
    exact bigZ_wl _ (hbs b hb).1
  have hget : ∀ i, i < bs.length → ∃ m l z, (cl bC bs).drop (i * 2) = .bool m :: .imm l.length (List.map (fun d : Nat => AV.int .u16 (d : Int)) (l)) :: cl bC (bs.drop (i + 1)) ∧ (∀ d ∈ l, d < 65536) ∧ l.length ≤ maxLen ∧ bigZ m l = z ∧ wl z ≤ 800 ∧ zs.take (i + 1) = zs.take i ++ [z] := fun i h => by
    have hb := hbs _ (List.getElem_mem h)
    refine ⟨bs[i].1, bs[i].2, bigZ bs[i].1 bs[i].2, ?_, hb.1, hb.2, rfl, bigZ_wl _ hb.1, ?_⟩
    · rw [cl_drop, List.drop_eq_getElem_cons h, cl_cons]; rfl
    · rw [List.take_add_one, List.getElem?_eq_getElem (by omega)]
      simp only [← hzs, List.getElem_map, Option.toList_some]
  have hlen : ∀ i, (cl bC (bs.drop (i + 1))).length = (bs.length - (i + 1)) * 2 := fun i => by rw [cl_len, List.length_drop]
  have hh : ∀ i, AV.head (cl bC (bs.drop (i + 1))) = true := fun i => cl_head
  have hW : ∀ L l, objOnly L (.live (cl wG l)) = true := fun L l => by simp only [objOnly, cl_only]
  have z0 : (0 : Int).toNat = 0 := rfl
  simp (maxSteps := 1000000) only [go_sem]
  refine trX_peelV HE hP.mix (fun x : Nat × Nat => [x.1 + 1]) (fun x => ⟨upd (upd (upd (fun _ => .junk) 0 (.imm bs.length (cl bC bs))) 3 (.sl (x.1 + 1) 0 x.2 3)) 4 (.int .i64 (x.2 : Int)), upd (fun _ => .unused) (x.1 + 1) (.live (cl wG (zs.take x.2))), 141⟩)
    (fun x => 1 ≤ x.2 ∧ x.2 ≤ bs.length ∧ x.2 ≤ 8) (fun x => 8 - x.2) 0 (fun x => x.1 + 2) 141 (by kernel_rfl) (fun _ _ h => absurd rfl h) ?_ ?_
  · by_cases hn : 0 < bs.length
    · obtain ⟨m, l, z, hd, h1, h2, h3, h4, h5⟩ := hget 0 hn
      rw [Nat.zero_mul] at hd
      rw [List.take_zero, List.nil_append, Nat.zero_add] at h5
      have q1 := eq_true h1
      have hl0 := hlen 0
      have hh0 := hh 0
      have hw1 : IntKind.i64.wrap (0 + 1) = 1 := rfl
      simp (maxSteps := 1000000) only [go_sem, hn, hd, hl0, hh0, cl_len, q1, h2, h3, h4, upd_upd, hw1]
      exact ⟨(24, 1), Kept.of rfl (by repeat (first | exact KT.nil | refine KT.upd rfl (by first | rfl | exact hro _) ?_)) (KM.p (.upd (by simp only [h5]; rfl) (hW _ _) .nil)), by decide, hn, by decide⟩
    · have hn0 : bs = [] := List.length_eq_zero_iff.1 (by omega)
      subst hn0
      have hp0 : primL [] = [] := rfl
      have hc0 : ∀ f : Int → List AV, cl f [] = [] := fun _ => rfl
      simp (maxSteps := 1000000) only [go_sem, hn, Int.lt_irrefl, hp0, hc0, z0]
      refine ⟨by simp, by simp, ?_⟩
      refine trX_once HE hP.mix 141 0 (by kernel_rfl) ?_
      simp (maxSteps := 1000000) only [go_sem, Int.lt_irrefl]
      refine trX_once HE hP.mix 141 0 (by kernel_rfl) ?_
      simp (maxSteps := 1000000) only [go_sem, Int.lt_irrefl]
      exact .refl _
  · rintro ⟨q, i⟩ ⟨i1, i2, i3⟩
    simp only [] at i1 i2 i3
    have hzt : (zs.take i).length = i := by rw [List.length_take]; omega
    have hcw : (cl wG (zs.take i)).length = i * 3 := by rw [cl_len, hzt]
    by_cases h : i < bs.length
    · by_cases h50 : i < 8
      · obtain ⟨m, l, z, hd, h1, h2, h3, h4, h5⟩ := hget i h
        have q1 := eq_true h1
        have hl0 := hlen i
        have hh0 := hh i
        have hi2 : i * 2 ≤ bs.length * 2 := by omega
        have hwi := wi_add1 i (by omega)
        have hkw : (cl wG (zs.take i)).all AV.ck = true := cl_ck
        have hb2 : (i + 1) * 40 ≤ 1099511627776 := by omega
        have e2 : cl wG (zs.take (i + 1)) = cl wG (zs.take i) ++ [.opq (.whole z), .pad, .pad] := by rw [h5]; exact (cl_snoc (f := wG)).symm
        simp (maxSteps := 1000000) only [go_sem, h, h50, hd, hl0, hh0, cl_len, q1, h2, h3, h4, upd_upd, hwi, hi2, hcw, hkw, hb2, add_k]
        exact ⟨⟨by simp, fun _ => trivial⟩, (q + 26, i + 1), Kept.of rfl (by repeat (first | exact KT.nil | refine KT.upd rfl (by first | rfl | exact hro _ | (simp only [AV.only, List.contains_cons, beq_self_eq_true, Bool.true_or, Bool.or_true]; done)) ?_)) (KM.p (.upd (by simp only [e2]; exact upd_eq _ _ _) (hW _ _) .nil)), ⟨by simp, by simp only []; omega, by simp only []; omega⟩, by simp only []; omega⟩
      · have hi50 : i = 8 := by omega
        obtain ⟨ys, hys⟩ : ∃ ys, zs.take i = ys := ⟨_, rfl⟩
        have hyw : ∀ z ∈ ys, wl z ≤ 800 := fun z hz => hzw z (List.mem_of_mem_take (hys ▸ hz))
        have hpw : ∀ z ∈ primL ys, wl z ≤ 800 := fun z hz => by
          obtain ⟨y, hy, rfl⟩ := List.mem_map.1 hz
          exact Nat.le_trans (primZ_wl _ _) (hyw y hy)
        have y1 := eq_true fun z hz => Nat.le_trans (hyw z hz) (show _ ≤ 34359738368 by decide)
        have y2 := eq_true fun z hz => Nat.le_trans (hpw z hz) (show _ ≤ 34359738368 by decide)
        have hg2 : AV.head (cl wG ys) = true := cl_head
        rw [hys] at hzt hcw
        have a2 : (cl wG ys).take (i * 3) = cl wG ys := cl_all (by rw [hzt])
        have a4 : (cl wG ys).drop (i * 3) = [] := List.drop_of_length_le (by omega)
        have a5 : i ≤ 1099511627776 := by omega
        simp (maxSteps := 1000000) only [go_sem, h, h50, hys, y1, y2, hg2, hzt, hcw, a2, a4, a5, Nat.le_refl, primL_len, primL_idem, bne_self_eq_false, z0, add_k, fr_live]
        obtain ⟨ps, hps⟩ : ∃ ps, primL ys = ps := ⟨_, rfl⟩
        have hpl : ps.length = i := by rw [← hps, primL_len, hzt]
        have hrW : ∀ L, objOnly L (.ro (cl wG ys)) = true := fun L => by simp only [objOnly, cl_only]
        have n1 : ∀ f, (AV.imm i (cl wG ps)).only f = true := fun f => by simp only [AV.only, cl_only]
        have n3 : (AV.sl (q + 1) 0 i 3).only (fun r => [q + 29, q + 1].contains r) = true := by simp only [AV.only, List.contains_cons, beq_self_eq_true, Bool.true_or, Bool.or_true]
        have n4 : (AV.ref (q + 29) 0).only (fun r => [q + 29, q + 1].contains r) = true := by simp only [AV.only, List.contains_cons, beq_self_eq_true, Bool.true_or, Bool.or_true]
        have hgp : ∀ j, blen (gcdL (ps.take j)) ≤ 800 := fun j => gcdL_blen _ fun z hz => hpw z (hps ▸ List.mem_of_mem_take hz)
        have elt : ∀ j, j < i → ∃ y p, y ∈ ys ∧ p = primZ (gcdL ys) y ∧ wl y ≤ 800 ∧ wl p ≤ 800 ∧ (cl wG ps).drop (j * 3) = .opq (.whole p) :: .pad :: .pad :: cl wG (ps.drop (j + 1)) ∧ ((cl wG ys).drop (j * 3)) = .opq (.whole y) :: .pad :: .pad :: cl wG (ys.drop (j + 1)) ∧ AV.head ((cl wG ys).drop (j * 3 + 3)) = true ∧ AV.head (cl wG (ps.drop (j + 1))) = true ∧ ps.take (j + 1) = ps.take j ++ [p] ∧ ys.take (j + 1) = ys.take j ++ [y] := fun j hj => by
          have hjy : j < ys.length := by omega
          have hjp : j < ps.length := by omega
          have hp : ps[j] = primZ (gcdL ys) ys[j] := by simp only [← hps, primL, List.getElem_map]
          have hm : ps[j] ∈ primL ys := hps ▸ List.getElem_mem hjp
          refine ⟨ys[j], ps[j], List.getElem_mem _, hp, hyw _ (List.getElem_mem _), hpw _ hm, ?_, ?_, ?_, cl_head, ?_, ?_⟩
          · rw [cl_drop, List.drop_eq_getElem_cons hjp, cl_cons]; rfl
          · rw [cl_drop, List.drop_eq_getElem_cons hjy, cl_cons]; rfl
          · rw [show j * 3 + 3 = (j + 1) * 3 by omega, cl_drop]; exact cl_head
          · rw [List.take_add_one, List.getElem?_eq_getElem hjp]; rfl
          · rw [List.take_add_one, List.getElem?_eq_getElem hjy]; rfl
        have len1 : ∀ j, (cl wG (ps.drop (j + 1))).length = (i - (j + 1)) * 3 := fun j => by rw [cl_len, List.length_drop, hpl]
        have len2 : ∀ j, (cl wG (ys.drop (j + 1))).length = (i - (j + 1)) * 3 := fun j => by rw [cl_len, List.length_drop, hzt]
        refine trX_loop HE hP.mix [q + 29, q + 1] (fun j : Nat => ⟨upd (upd (upd (upd (upd (fun _ => .junk) 3 (.sl (q + 1) 0 i 3)) 7 (.imm i (cl wG ps))) 8 (.imm i (cl wG ps))) 9 (.ref (q + 29) 0)) 10 (.int .i64 (j : Int)), upd (upd (fun _ => .unused) (q + 1) (.ro (cl wG ys))) (q + 29) (.live [.opq (.nat (gcdL (ps.take j))), .pad]), 141⟩)
          (fun j => j ≤ i) (fun j => i - j) 0 0 (by repeat (first | exact Has.nil | refine Has.upd (by simp) ?_)) (Kept.of rfl (by repeat (first | exact KT.nil | refine KT.upd (by first | rfl | (rw [← hps]; rfl)) (by first | rfl | exact n1 _ | exact n3 | exact n4) ?_)) (KM.p (.upd (by simp only [go_sem]; rfl) rfl (.upd (by simp only [go_sem, fr_live]) (hrW _) .nil)))) (Nat.zero_le _) 141 (by kernel_rfl) ?_
        intro j hj
        by_cases hji : j < i
        · obtain ⟨y, p, ym, pe, yw, pw, d1, d2, d3, d4, d5, d6⟩ := elt j hji
          have k1 : j * 3 ≤ i * 3 := by omega
          have k3 : j * 3 + 3 ≤ i * 3 := by omega
          have yw1 := Nat.le_trans yw (show _ ≤ 68719476736 by decide)
          have pw1 := Nat.le_trans pw (show _ ≤ 68719476736 by decide)
          have yw2 := Nat.le_trans yw (show _ ≤ 34359738368 by decide)
          have pw2 := Nat.le_trans pw (show _ ≤ 34359738368 by decide)
          have pw3 : blen p.natAbs ≤ 68719476736 := pw1
          have gb := Nat.le_trans (hgp j) (show _ ≤ 68719476736 by decide)
          have eg : Nat.gcd (gcdL (ps.take j)) p.natAbs = gcdL (ps.take (j + 1)) := by rw [d5, gcdL_snoc]
          have es : sgnZ p = sgnZ y := by rw [pe]; exact prim_sgn ym
          have ec : cmpZ p p = 0 := cmpZ_eq p
          have l1 := len1 j
          have l2 := len2 j
          simp (maxSteps := 1000000) only [go_sem, hji, d1, d2, d3, d4, l1, l2, k1, k3, hcw, cl_len, hpl, hzt, yw1, pw1, pw3, gb, eg, es, ec, bne_self_eq_false, upd_upd]
          refine trX_loop HE hP.mix [q + 29, q + 1] (fun k : Nat => ⟨upd (upd (upd (upd (upd (upd (fun _ => .junk) 3 (.sl (q + 1) 0 i 3)) 7 (.imm i (cl wG ps))) 8 (.imm i (cl wG ps))) 9 (.ref (q + 29) 0)) 10 (.int .i64 (j : Int))) 11 (.int .i64 (k : Int)), upd (upd (fun _ => .unused) (q + 1) (.ro (cl wG ys))) (q + 29) (.live [.opq (.nat (gcdL (ps.take (j + 1)))), .pad]), 141⟩)
            (fun k => k ≤ j) (fun k => j - k) 0 0 (by repeat (first | exact Has.nil | refine Has.upd (by simp) ?_)) (Kept.of rfl (by repeat (first | exact KT.nil | refine KT.upd (by first | rfl | (rw [← hps]; rfl)) (by first | rfl | exact n1 _ | exact n3 | exact n4) ?_)) (KM.p (.upd (by simp only [go_sem]) rfl (.upd (by simp only [go_sem, fr_live]) (hrW _) .nil)))) (Nat.zero_le _) 141 (by kernel_rfl) ?_
          intro k hk
          by_cases hkj : k < j
          · obtain ⟨y', p', ym', pe', yw', pw', f1, f2, f3, f4, f5, f6⟩ := elt k (by omega)
            have k5 : k * 3 ≤ i * 3 := by omega
            have k6 : k * 3 + 3 ≤ i * 3 := by omega
            have hki : k < i := by omega
            have yv2 := Nat.le_trans yw' (show _ ≤ 34359738368 by decide)
            have pv2 := Nat.le_trans pw' (show _ ≤ 34359738368 by decide)
            have m1 := Nat.le_trans (wl_mul pw yw') (show _ ≤ 68719476736 by decide)
            have m2 := Nat.le_trans (wl_mul pw' yw) (show _ ≤ 68719476736 by decide)
            have ex : cmpZ (p * y') (p' * y) = 0 := cmpZ_self_eq (by rw [pe, pe']; exact prim_cross ym ym')
            have l3 := len1 k
            have l4 := len2 k
            have hwk := wi_add1 k (by omega)
            simp (maxSteps := 1000000) only [go_sem, hkj, hji, hki, d1, d2, d3, d4, f1, f2, f3, f4, l1, l2, l3, l4, k1, k3, k5, k6, hcw, cl_len, hpl, hzt, yw2, pw2, yv2, pv2, m1, m2, ex, bne_self_eq_false, upd_upd, hwk]
            exact ⟨k + 1, Kept.of rfl (by repeat (first | exact KT.nil | refine KT.upd rfl (by first | rfl | exact n1 _ | exact n3 | exact n4) ?_)) (KM.p (.upd (by simp only [go_sem]) rfl (.upd (by simp only [go_sem]) (hrW _) .nil))), by omega, by omega⟩
          · have hwj := wi_add1 j (by omega)
            simp (maxSteps := 1000000) only [go_sem, hkj, hwj]
            exact ⟨j + 1, Kept.of rfl (by repeat (first | exact KT.nil | refine KT.upd rfl (by first | rfl | exact n1 _ | exact n3 | exact n4) ?_)) (KM.p (.upd (by simp only [go_sem]) rfl (.upd (by simp only [go_sem]) (hrW _) .nil))), by omega, by omega⟩
        · obtain rfl : j = i := by omega
          have hta : ps.take j = ps := List.take_of_length_le (by omega)
          simp (maxSteps := 1000000) only [go_sem, hji, hta]
          refine trX_loop HE hP.mix [q + 29, q + 1] (fun k : Nat => ⟨upd (upd (upd (upd (fun _ => .junk) 3 (.sl (q + 1) 0 j 3)) 9 (.ref (q + 29) 0)) 12 (.bool ((ys.take k).all fun z => decide (z = 0)))) 13 (.int .i64 (k : Int)), upd (upd (fun _ => .unused) (q + 1) (.ro (cl wG ys))) (q + 29) (.live [.opq (.nat (gcdL ps)), .pad]), 141⟩)
            (fun k => k ≤ j) (fun k => j - k) 0 0 (by repeat (first | exact Has.nil | refine Has.upd (by simp) ?_)) (Kept.of rfl (by repeat (first | exact KT.nil | refine KT.upd (by first | rfl | (rw [← hps]; rfl)) (by first | rfl | exact n1 _ | exact n3 | exact n4) ?_)) (KM.p (.upd (by simp only [go_sem]) rfl (.upd (by simp only [go_sem, fr_live]) (hrW _) .nil)))) (Nat.zero_le _) 141 (by kernel_rfl) ?_
          intro k hk
          by_cases hkj : k < j
          · obtain ⟨y', p', ym', pe', yw', pw', f1, f2, f3, f4, f5, f6⟩ := elt k hkj
            have k5 : k * 3 ≤ j * 3 := by omega
            have k6 : k * 3 + 3 ≤ j * 3 := by omega
            have yv1 := Nat.le_trans yw' (show _ ≤ 68719476736 by decide)
            have l4 := len2 k
            have hwk := wi_add1 k (by omega)
            have ea : (ys.take (k + 1)).all (fun z => decide (z = 0)) = ((ys.take k).all (fun z => decide (z = 0)) && decide (y' = 0)) := by rw [f6]; simp
            have hs0 := sgnZ_zero_iff y'
            rcases Bool.eq_false_or_eq_true ((ys.take k).all fun z => decide (z = 0)) with hb | hb
            · simp (maxSteps := 1000000) only [go_sem, hkj, f2, f3, l4, k5, k6, hcw, cl_len, hzt, yv1, hb, hs0, hwk]
              exact ⟨k + 1, Kept.of rfl (by repeat (first | exact KT.nil | refine KT.upd (by first | rfl | (rw [ea, hb, Bool.true_and]; rfl)) (by first | rfl | exact n1 _ | exact n3 | exact n4) ?_)) (KM.p (.upd (by simp only [go_sem]) rfl (.upd (by simp only [go_sem]) (hrW _) .nil))), by omega, by omega⟩
            · simp (maxSteps := 1000000) only [go_sem, hkj, f2, f3, l4, k5, k6, hcw, cl_len, hzt, yv1, hb, hs0, hwk]
              exact ⟨k + 1, Kept.of rfl (by repeat (first | exact KT.nil | refine KT.upd (by first | rfl | (rw [ea, hb, Bool.false_and]; rfl)) (by first | rfl | exact n1 _ | exact n3 | exact n4) ?_)) (KM.p (.upd (by simp only [go_sem]) rfl (.upd (by simp only [go_sem]) (hrW _) .nil))), by omega, by omega⟩
          · obtain rfl : k = j := by omega
            have hty : ys.take k = ys := List.take_of_length_le (by omega)
            rcases Bool.eq_false_or_eq_true (ys.all fun z => decide (z = 0)) with hb | hb
            · simp (maxSteps := 1000000) only [go_sem, hkj, hty, hb]
              exact .refl _
            · have hg1 : gcdL ps = 1 := by rw [← hps]; exact gcd_prim (zero_all hb)
              have t2 : ((decS 1).toList == (ByteArray.mk #[49]).toList) = true := by
                have := itS_lit (s := ByteArray.mk #[49]) (parW_pos (d := [49]) ⟨by decide, by decide, by decide⟩ (by decide) rfl)
                exact this
              have b1 : blen 1 ≤ 68719476736 := by decide
              simp (maxSteps := 1000000) only [go_sem, hkj, hty, hb, hg1, t2, b1]
              exact .refl _
    · have hi50 : 0 ≤ i := by omega
      obtain ⟨ys, hys⟩ : ∃ ys, zs.take i = ys := ⟨_, rfl⟩
      have hyw : ∀ z ∈ ys, wl z ≤ 800 := fun z hz => hzw z (List.mem_of_mem_take (hys ▸ hz))
      have hpw : ∀ z ∈ primL ys, wl z ≤ 800 := fun z hz => by
        obtain ⟨y, hy, rfl⟩ := List.mem_map.1 hz
        exact Nat.le_trans (primZ_wl _ _) (hyw y hy)
      have y1 := eq_true fun z hz => Nat.le_trans (hyw z hz) (show _ ≤ 34359738368 by decide)
      have y2 := eq_true fun z hz => Nat.le_trans (hpw z hz) (show _ ≤ 34359738368 by decide)
      have hg2 : AV.head (cl wG ys) = true := cl_head
      rw [hys] at hzt hcw
      have a2 : (cl wG ys).take (i * 3) = cl wG ys := cl_all (by rw [hzt])
      have a4 : (cl wG ys).drop (i * 3) = [] := List.drop_of_length_le (by omega)
      have a5 : i ≤ 1099511627776 := by omega
      simp (maxSteps := 1000000) only [go_sem, h, hys, y1, y2, hg2, hzt, hcw, a2, a4, a5, Nat.le_refl, primL_len, primL_idem, bne_self_eq_false, z0, add_k, fr_live]
      obtain ⟨ps, hps⟩ : ∃ ps, primL ys = ps := ⟨_, rfl⟩
      have hpl : ps.length = i := by rw [← hps, primL_len, hzt]
      have hrW : ∀ L, objOnly L (.ro (cl wG ys)) = true := fun L => by simp only [objOnly, cl_only]
      have n1 : ∀ f, (AV.imm i (cl wG ps)).only f = true := fun f => by simp only [AV.only, cl_only]
      have n3 : (AV.sl (q + 1) 0 i 3).only (fun r => [q + 27, q + 1].contains r) = true := by simp only [AV.only, List.contains_cons, beq_self_eq_true, Bool.true_or, Bool.or_true]
      have n4 : (AV.ref (q + 27) 0).only (fun r => [q + 27, q + 1].contains r) = true := by simp only [AV.only, List.contains_cons, beq_self_eq_true, Bool.true_or, Bool.or_true]
      have hgp : ∀ j, blen (gcdL (ps.take j)) ≤ 800 := fun j => gcdL_blen _ fun z hz => hpw z (hps ▸ List.mem_of_mem_take hz)
      have elt : ∀ j, j < i → ∃ y p, y ∈ ys ∧ p = primZ (gcdL ys) y ∧ wl y ≤ 800 ∧ wl p ≤ 800 ∧ (cl wG ps).drop (j * 3) = .opq (.whole p) :: .pad :: .pad :: cl wG (ps.drop (j + 1)) ∧ ((cl wG ys).drop (j * 3)) = .opq (.whole y) :: .pad :: .pad :: cl wG (ys.drop (j + 1)) ∧ AV.head ((cl wG ys).drop (j * 3 + 3)) = true ∧ AV.head (cl wG (ps.drop (j + 1))) = true ∧ ps.take (j + 1) = ps.take j ++ [p] ∧ ys.take (j + 1) = ys.take j ++ [y] := fun j hj => by
        have hjy : j < ys.length := by omega
        have hjp : j < ps.length := by omega
        have hp : ps[j] = primZ (gcdL ys) ys[j] := by simp only [← hps, primL, List.getElem_map]
        have hm : ps[j] ∈ primL ys := hps ▸ List.getElem_mem hjp
        refine ⟨ys[j], ps[j], List.getElem_mem _, hp, hyw _ (List.getElem_mem _), hpw _ hm, ?_, ?_, ?_, cl_head, ?_, ?_⟩
        · rw [cl_drop, List.drop_eq_getElem_cons hjp, cl_cons]; rfl
        · rw [cl_drop, List.drop_eq_getElem_cons hjy, cl_cons]; rfl
        · rw [show j * 3 + 3 = (j + 1) * 3 by omega, cl_drop]; exact cl_head
        · rw [List.take_add_one, List.getElem?_eq_getElem hjp]; rfl
        · rw [List.take_add_one, List.getElem?_eq_getElem hjy]; rfl
      have len1 : ∀ j, (cl wG (ps.drop (j + 1))).length = (i - (j + 1)) * 3 := fun j => by rw [cl_len, List.length_drop, hpl]
      have len2 : ∀ j, (cl wG (ys.drop (j + 1))).length = (i - (j + 1)) * 3 := fun j => by rw [cl_len, List.length_drop, hzt]
      refine trX_loop HE hP.mix [q + 27, q + 1] (fun j : Nat => ⟨upd (upd (upd (upd (upd (fun _ => .junk) 3 (.sl (q + 1) 0 i 3)) 7 (.imm i (cl wG ps))) 8 (.imm i (cl wG ps))) 9 (.ref (q + 27) 0)) 10 (.int .i64 (j : Int)), upd (upd (fun _ => .unused) (q + 1) (.ro (cl wG ys))) (q + 27) (.live [.opq (.nat (gcdL (ps.take j))), .pad]), 141⟩)
        (fun j => j ≤ i) (fun j => i - j) 0 0 (by repeat (first | exact Has.nil | refine Has.upd (by simp) ?_)) (Kept.of rfl (by repeat (first | exact KT.nil | refine KT.upd (by first | rfl | (rw [← hps]; rfl)) (by first | rfl | exact n1 _ | exact n3 | exact n4) ?_)) (KM.p (.upd (by simp only [go_sem]; rfl) rfl (.upd (by simp only [go_sem, fr_live]) (hrW _) .nil)))) (Nat.zero_le _) 141 (by kernel_rfl) ?_
      intro j hj
      by_cases hji : j < i
      · obtain ⟨y, p, ym, pe, yw, pw, d1, d2, d3, d4, d5, d6⟩ := elt j hji
        have k1 : j * 3 ≤ i * 3 := by omega
        have k3 : j * 3 + 3 ≤ i * 3 := by omega
        have yw1 := Nat.le_trans yw (show _ ≤ 68719476736 by decide)
        have pw1 := Nat.le_trans pw (show _ ≤ 68719476736 by decide)
        have yw2 := Nat.le_trans yw (show _ ≤ 34359738368 by decide)
        have pw2 := Nat.le_trans pw (show _ ≤ 34359738368 by decide)
        have pw3 : blen p.natAbs ≤ 68719476736 := pw1
        have gb := Nat.le_trans (hgp j) (show _ ≤ 68719476736 by decide)
        have eg : Nat.gcd (gcdL (ps.take j)) p.natAbs = gcdL (ps.take (j + 1)) := by rw [d5, gcdL_snoc]
        have es : sgnZ p = sgnZ y := by rw [pe]; exact prim_sgn ym
        have ec : cmpZ p p = 0 := cmpZ_eq p
        have l1 := len1 j
        have l2 := len2 j
        simp (maxSteps := 1000000) only [go_sem, hji, d1, d2, d3, d4, l1, l2, k1, k3, hcw, cl_len, hpl, hzt, yw1, pw1, pw3, gb, eg, es, ec, bne_self_eq_false, upd_upd]
        refine trX_loop HE hP.mix [q + 27, q + 1] (fun k : Nat => ⟨upd (upd (upd (upd (upd (upd (fun _ => .junk) 3 (.sl (q + 1) 0 i 3)) 7 (.imm i (cl wG ps))) 8 (.imm i (cl wG ps))) 9 (.ref (q + 27) 0)) 10 (.int .i64 (j : Int))) 11 (.int .i64 (k : Int)), upd (upd (fun _ => .unused) (q + 1) (.ro (cl wG ys))) (q + 27) (.live [.opq (.nat (gcdL (ps.take (j + 1)))), .pad]), 141⟩)
          (fun k => k ≤ j) (fun k => j - k) 0 0 (by repeat (first | exact Has.nil | refine Has.upd (by simp) ?_)) (Kept.of rfl (by repeat (first | exact KT.nil | refine KT.upd (by first | rfl | (rw [← hps]; rfl)) (by first | rfl | exact n1 _ | exact n3 | exact n4) ?_)) (KM.p (.upd (by simp only [go_sem]) rfl (.upd (by simp only [go_sem, fr_live]) (hrW _) .nil)))) (Nat.zero_le _) 141 (by kernel_rfl) ?_
        intro k hk
        by_cases hkj : k < j
        · obtain ⟨y', p', ym', pe', yw', pw', f1, f2, f3, f4, f5, f6⟩ := elt k (by omega)
          have k5 : k * 3 ≤ i * 3 := by omega
          have k6 : k * 3 + 3 ≤ i * 3 := by omega
          have hki : k < i := by omega
          have yv2 := Nat.le_trans yw' (show _ ≤ 34359738368 by decide)
          have pv2 := Nat.le_trans pw' (show _ ≤ 34359738368 by decide)
          have m1 := Nat.le_trans (wl_mul pw yw') (show _ ≤ 68719476736 by decide)
          have m2 := Nat.le_trans (wl_mul pw' yw) (show _ ≤ 68719476736 by decide)
          have ex : cmpZ (p * y') (p' * y) = 0 := cmpZ_self_eq (by rw [pe, pe']; exact prim_cross ym ym')
          have l3 := len1 k
          have l4 := len2 k
          have hwk := wi_add1 k (by omega)
          simp (maxSteps := 1000000) only [go_sem, hkj, hji, hki, d1, d2, d3, d4, f1, f2, f3, f4, l1, l2, l3, l4, k1, k3, k5, k6, hcw, cl_len, hpl, hzt, yw2, pw2, yv2, pv2, m1, m2, ex, bne_self_eq_false, upd_upd, hwk]
          exact ⟨k + 1, Kept.of rfl (by repeat (first | exact KT.nil | refine KT.upd rfl (by first | rfl | exact n1 _ | exact n3 | exact n4) ?_)) (KM.p (.upd (by simp only [go_sem]) rfl (.upd (by simp only [go_sem]) (hrW _) .nil))), by omega, by omega⟩
        · have hwj := wi_add1 j (by omega)
          simp (maxSteps := 1000000) only [go_sem, hkj, hwj]
          exact ⟨j + 1, Kept.of rfl (by repeat (first | exact KT.nil | refine KT.upd rfl (by first | rfl | exact n1 _ | exact n3 | exact n4) ?_)) (KM.p (.upd (by simp only [go_sem]) rfl (.upd (by simp only [go_sem]) (hrW _) .nil))), by omega, by omega⟩
      · obtain rfl : j = i := by omega
        have hta : ps.take j = ps := List.take_of_length_le (by omega)
        simp (maxSteps := 1000000) only [go_sem, hji, hta]
        refine trX_loop HE hP.mix [q + 27, q + 1] (fun k : Nat => ⟨upd (upd (upd (upd (fun _ => .junk) 3 (.sl (q + 1) 0 j 3)) 9 (.ref (q + 27) 0)) 12 (.bool ((ys.take k).all fun z => decide (z = 0)))) 13 (.int .i64 (k : Int)), upd (upd (fun _ => .unused) (q + 1) (.ro (cl wG ys))) (q + 27) (.live [.opq (.nat (gcdL ps)), .pad]), 141⟩)
          (fun k => k ≤ j) (fun k => j - k) 0 0 (by repeat (first | exact Has.nil | refine Has.upd (by simp) ?_)) (Kept.of rfl (by repeat (first | exact KT.nil | refine KT.upd (by first | rfl | (rw [← hps]; rfl)) (by first | rfl | exact n1 _ | exact n3 | exact n4) ?_)) (KM.p (.upd (by simp only [go_sem]) rfl (.upd (by simp only [go_sem, fr_live]) (hrW _) .nil)))) (Nat.zero_le _) 141 (by kernel_rfl) ?_
        intro k hk
        by_cases hkj : k < j
        · obtain ⟨y', p', ym', pe', yw', pw', f1, f2, f3, f4, f5, f6⟩ := elt k hkj
          have k5 : k * 3 ≤ j * 3 := by omega
          have k6 : k * 3 + 3 ≤ j * 3 := by omega
          have yv1 := Nat.le_trans yw' (show _ ≤ 68719476736 by decide)
          have l4 := len2 k
          have hwk := wi_add1 k (by omega)
          have ea : (ys.take (k + 1)).all (fun z => decide (z = 0)) = ((ys.take k).all (fun z => decide (z = 0)) && decide (y' = 0)) := by rw [f6]; simp
          have hs0 := sgnZ_zero_iff y'
          rcases Bool.eq_false_or_eq_true ((ys.take k).all fun z => decide (z = 0)) with hb | hb
          · simp (maxSteps := 1000000) only [go_sem, hkj, f2, f3, l4, k5, k6, hcw, cl_len, hzt, yv1, hb, hs0, hwk]
            exact ⟨k + 1, Kept.of rfl (by repeat (first | exact KT.nil | refine KT.upd (by first | rfl | (rw [ea, hb, Bool.true_and]; rfl)) (by first | rfl | exact n1 _ | exact n3 | exact n4) ?_)) (KM.p (.upd (by simp only [go_sem]) rfl (.upd (by simp only [go_sem]) (hrW _) .nil))), by omega, by omega⟩
          · simp (maxSteps := 1000000) only [go_sem, hkj, f2, f3, l4, k5, k6, hcw, cl_len, hzt, yv1, hb, hs0, hwk]
            exact ⟨k + 1, Kept.of rfl (by repeat (first | exact KT.nil | refine KT.upd (by first | rfl | (rw [ea, hb, Bool.false_and]; rfl)) (by first | rfl | exact n1 _ | exact n3 | exact n4) ?_)) (KM.p (.upd (by simp only [go_sem]) rfl (.upd (by simp only [go_sem]) (hrW _) .nil))), by omega, by omega⟩
        · obtain rfl : k = j := by omega
          have hty : ys.take k = ys := List.take_of_length_le (by omega)
          rcases Bool.eq_false_or_eq_true (ys.all fun z => decide (z = 0)) with hb | hb
          · simp (maxSteps := 1000000) only [go_sem, hkj, hty, hb]
            exact .refl _
          · have hg1 : gcdL ps = 1 := by rw [← hps]; exact gcd_prim (zero_all hb)
            have t2 : ((decS 1).toList == (ByteArray.mk #[49]).toList) = true := by
              have := itS_lit (s := ByteArray.mk #[49]) (parW_pos (d := [49]) ⟨by decide, by decide, by decide⟩ (by decide) rfl)
              exact this
            have b1 : blen 1 ≤ 68719476736 := by decide
            simp (maxSteps := 1000000) only [go_sem, hkj, hty, hb, hg1, t2, b1]
            exact .refl _
end Go.Proofs.Ytokoagkbfdkacaa.AM
