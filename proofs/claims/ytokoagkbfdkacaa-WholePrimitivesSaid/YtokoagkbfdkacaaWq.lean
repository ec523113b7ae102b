/- WholePrimitives. -/
import Derived.Test.YtokoagkbfdkacaaB9
namespace Go.Proofs.Ytokoagkbfdkacaa.AM
set_option linter.all false
set_option autoImplicit true
set_option relaxedAutoImplicit true
open Go Go.Proofs
set_option maxRecDepth 100000
set_option maxHeartbeats 8000000
set_option linter.unusedSimpArgs false
variable {P : Program}

/-- The cells of a number handed in. -/
def bC (b : Bool × List Nat) : List AV := [.bool b.1, .imm b.2.length (List.map (fun d : Nat => AV.int .u16 (d : Int)) (b.2))]
theorem fz_bC (b : Bool × List Nat) : ∀ x ∈ bC b, ∀ m j, fzC m j x ∧ fzV m j x = x := by
  intro x hx m j
  simp only [bC, List.mem_cons, List.not_mem_nil, or_false] at hx
  rcases hx with rfl | rfl <;> cases j <;> exact ⟨trivial, rfl⟩
instance : Wd bC 2 := ⟨fun _ => rfl, by decide, fun _ => rfl, fun _ => rfl, fun _ _ => by simp only [bC, onlyL, AV.only, only_U, Bool.and_true], fun m j z => (fz_flat (fz_bC z)).1 m j, fun m j z => (fz_flat (fz_bC z)).2 m j⟩
def okB (b : Bool × List Nat) : Prop := (∀ d ∈ b.2, d < 65536) ∧ b.2.length ≤ maxLen
theorem bigs_in {v : AV} (h : (Sha.slice (.row [.bool, .slice (.int .u16)])).Ok [v]) : ∃ bs : List (Bool × List Nat), bs.length ≤ maxLen ∧ (∀ b ∈ bs, okB b) ∧ CvL [v] [.imm bs.length (cl bC bs)] := by
  rcases h with h | ⟨l, hl, hall, h⟩
  · obtain rfl : v = .nils := by simpa using h
    exact ⟨[], by simp, by simp, .nilR .nil⟩
  · obtain rfl : v = .imm l.length l.flatten := by simpa using h
    have key : ∀ l : List (List AV), (∀ x ∈ l, (Sha.row [.bool, .slice (.int .u16)]).Ok x) → ∃ bs : List (Bool × List Nat), bs.length = l.length ∧ (∀ b ∈ bs, okB b) ∧ CvL l.flatten (cl bC bs) ∧ AV.head l.flatten = true := by
      intro l
      induction l with
      | nil => intro _; exact ⟨[], rfl, by simp, .refl _, rfl⟩
      | cons x l ih =>
        intro h
        obtain ⟨bs, h1, h2, h3, h4⟩ := ih fun y hy => h y (by simp [hy])
        obtain ⟨m, k, k1, k2, k3⟩ := big_in (h x (by simp))
        refine ⟨(m, k) :: bs, by simp [h1], ?_, ?_, ?_⟩
        · intro b hb
          rcases List.mem_cons.1 hb with rfl | hb
          · exact ⟨k1, k2⟩
          · exact h2 b hb
        · rw [List.flatten_cons, cl_cons]
          refine CvL.app ?_ h3 h4
          intro X φ w vs hv
          have := k3 X φ w [.agg vs.toArray] (.agg (by simpa using hv) .nil)
          obtain ⟨v, vs', e, g1, _⟩ := this.uncons rfl
          obtain ⟨cs, rfl, g2⟩ := g1.agg_inv
          simp only [List.cons.injEq, Value.agg.injEq] at e
          have e1 := congrArg Array.toList e.1
          simp only [] at e1
          rw [e1]; exact g2
        · rw [List.flatten_cons]
          obtain ⟨a, b, ⟨m, rfl⟩, _, rfl⟩ := h x (by simp)
          rfl
    obtain ⟨bs, h1, h2, h3, h4⟩ := key l hall
    exact ⟨bs, by omega, h2, by rw [h1]; exact .imm h3 .nil⟩
theorem fr_live (cs) : (AObj.live cs).freeze = .ro cs := rfl
theorem primZ_wl (g : Nat) (z : Int) : wl (primZ g z) ≤ wl z := by
  unfold primZ; split
  · exact Nat.le_refl _
  · rw [show wl (sg (decide (z < 0)) (z.natAbs / g)) = blen (z.natAbs / g) by unfold wl; rw [sg_abs]]
    exact blen_mono (Nat.div_le_self _ _)
theorem WholePrimitives_spec (hP : PrgOk P) (v : AV) (o : (Sha.slice (.row [.bool, .slice (.int .u16)])).Ok [v]) : CSpec P 7 [v] (.bool true) := by
  obtain ⟨bs, hbl, hbs, c⟩ := bigs_in o
  refine CSpec.cv ?_ c
  have HE := Wt7_all hP T2 hP.t2
  have hgo : groundL [.imm bs.length (cl bC bs)] = true := by simp only [groundL, onlyL, AV.only, cl_only, Bool.and_true]
  refine CSpec_vc (E := ⟨T2, Wt7⟩) (fn7 hP) HE hP.mix rfl hgo rfl (Nat.le_of_ble_eq_true rfl) ?_
  have hro : ∀ f, (AV.imm bs.length (cl bC bs)).only f = true := fun f => by simp only [AV.only, cl_only]
  obtain ⟨zs, hzs⟩ : ∃ zs, bs.map (fun b => bigZ b.1 b.2) = zs := ⟨_, rfl⟩
  have hzl : zs.length = bs.length := by rw [← hzs, List.length_map]
  have hzw : ∀ z ∈ zs, wl z ≤ 800 := fun z hz => by
    rw [← hzs] at hz
    obtain ⟨b, hb, rfl⟩ := List.mem_map.1 hz
    exact bigZ_wl _ (hbs b hb).1
  have hget : ∀ i, i < bs.length → ∃ m l z, (cl bC bs).drop (i * 2) = .bool m :: .imm l.length (List.map (fun d : Nat => AV.int .u16 (d : Int)) (l)) :: cl bC (bs.drop (i + 1)) ∧ (∀ d ∈ l, d < 65536) ∧ l.length ≤ maxLen ∧ bigZ m l = z ∧ wl z ≤ 800 ∧ zs.take (i + 1) = zs.take i ++ [z] := fun i h => by
    have hb := hbs _ (List.getElem_mem h)
    refine ⟨bs[i].1, bs[i].2, bigZ bs[i].1 bs[i].2, ?_, hb.1, hb.2, rfl, bigZ_wl _ hb.1, ?_⟩
    · rw [cl_drop, List.drop_eq_getElem_cons h, cl_cons]; rfl
    · rw [List.take_add_one, List.getElem?_eq_getElem (by omega)]
      simp only [← hzs, List.getElem_map, Option.toList_some]
  have hlen : ∀ i, (cl bC (bs.drop (i + 1))).length = (bs.length - (i + 1)) * 2 := fun i => by rw [cl_len, List.length_drop]
  have hh : ∀ i, AV.head (cl bC (bs.drop (i + 1))) = true := fun i => cl_head
  simp (maxSteps := 1000000) only [go_sem]
  have hG : ∀ L l, objOnly L (.live (cl iG l)) = true := fun L l => by simp only [objOnly, cl_only]
  have hW : ∀ L l, objOnly L (.live (cl wG l)) = true := fun L l => by simp only [objOnly, cl_only]
  refine trX_peelV HE hP.mix (fun x : Nat × Nat => [x.1 + 6, x.1 + 1]) (fun x => ⟨upd (upd (upd (upd (fun _ => .junk) 0 (.imm bs.length (cl bC bs))) 3 (.sl (x.1 + 1) 0 x.2 2)) 4 (.sl (x.1 + 6) 0 x.2 3)) 5 (.int .i64 (x.2 : Int)), upd (upd (fun _ => .unused) (x.1 + 1) (.live (cl iG (zs.take x.2)))) (x.1 + 6) (.live (cl wG (zs.take x.2))), 80⟩)
    (fun x => 1 ≤ x.2 ∧ x.2 ≤ bs.length ∧ x.2 ≤ 8) (fun x => 8 - x.2) 0 (fun x => x.1 + 7) 80 (by kernel_rfl) (fun _ _ h => absurd rfl h) ?_ ?_
  · by_cases hn : 0 < bs.length
    · obtain ⟨m, l, z, hd, h1, h2, h3, h4, h5⟩ := hget 0 hn
      rw [Nat.zero_mul] at hd
      rw [List.take_zero, List.nil_append, Nat.zero_add] at h5
      have q1 := eq_true h1
      have hl0 := hlen 0
      have hh0 := hh 0
      have hw1 : IntKind.i64.wrap (0 + 1) = 1 := rfl
      simp (maxSteps := 1000000) only [go_sem, hn, hd, hl0, hh0, cl_len, q1, h2, h3, h4, upd_upd, hw1]
      exact ⟨(27, 1), Kept.of rfl (by repeat (first | exact KT.nil | refine KT.upd rfl (by first | rfl | exact hro _) ?_)) (KM.p (.upd (by simp only [h5]; rfl) (hW _ _) (.upd (by simp only [h5]; rfl) (hG _ _) .nil))), by decide, hn, by decide⟩
    · have hn0 : bs = [] := List.length_eq_zero_iff.1 (by omega)
      subst hn0
      have hp0 : primL [] = [] := rfl
      have hc0 : ∀ f : Int → List AV, cl f [] = [] := fun _ => rfl
      simp (maxSteps := 1000000) only [go_sem, hn, Int.lt_irrefl, hp0, hc0]
      refine ⟨by simp, by simp, ?_⟩
      refine trX_once HE hP.mix 80 0 (by kernel_rfl) ?_
      simp (maxSteps := 1000000) only [go_sem, Int.lt_irrefl]
      exact .refl _
  · rintro ⟨q, i⟩ ⟨i1, i2, i3⟩
    simp only [] at i1 i2 i3
    have hzt : (zs.take i).length = i := by rw [List.length_take]; omega
    have hcg : (cl iG (zs.take i)).length = i * 2 := by rw [cl_len, hzt]
    have hcw : (cl wG (zs.take i)).length = i * 3 := by rw [cl_len, hzt]
    by_cases h : i < bs.length
    · by_cases h50 : i < 8
      · obtain ⟨m, l, z, hd, h1, h2, h3, h4, h5⟩ := hget i h
        have q1 := eq_true h1
        have hl0 := hlen i
        have hh0 := hh i
        have hi2 : i * 2 ≤ bs.length * 2 := by omega
        have hwi := wi_add1 i (by omega)
        have hkg : (cl iG (zs.take i)).all AV.ck = true := cl_ck
        have hkw : (cl wG (zs.take i)).all AV.ck = true := cl_ck
        have hb1 : (i + 1) * 32 ≤ 1099511627776 := by omega
        have hb2 : (i + 1) * 40 ≤ 1099511627776 := by omega
        have e1 : cl iG (zs.take (i + 1)) = cl iG (zs.take i) ++ [.opq (.rint z), .pad] := by rw [h5]; exact (cl_snoc (f := iG)).symm
        have e2 : cl wG (zs.take (i + 1)) = cl wG (zs.take i) ++ [.opq (.whole z), .pad, .pad] := by rw [h5]; exact (cl_snoc (f := wG)).symm
        simp (maxSteps := 1000000) only [go_sem, h, h50, hd, hl0, hh0, cl_len, q1, h2, h3, h4, upd_upd, hwi, hi2, hcg, hcw, hkg, hkw, hb1, hb2, add_k]
        exact ⟨⟨by simp, fun _ => trivial⟩, ⟨by simp, fun _ => trivial⟩, (q + 34, i + 1), Kept.of rfl (by repeat (first | exact KT.nil | refine KT.upd rfl (by first | rfl | exact hro _ | (simp only [AV.only, List.contains_cons, beq_self_eq_true, Bool.true_or, Bool.or_true]; done)) ?_)) (KM.p (.upd (by simp only [e2]; exact upd_eq _ _ _) (hW _ _) (.upd (by simp only [e1, go_sem]) (hG _ _) .nil))), ⟨by simp, by simp only []; omega, by simp only []; omega⟩, by simp only []; omega⟩
      · have hi50 : i = 8 := by omega
        obtain ⟨ys, hys⟩ : ∃ ys, zs.take i = ys := ⟨_, rfl⟩
        have hyw : ∀ z ∈ ys, wl z ≤ 800 := fun z hz => hzw z (List.mem_of_mem_take (hys ▸ hz))
        have y1 := eq_true fun z hz => Nat.le_trans (hyw z hz) (show _ ≤ 34359738368 by decide)
        have y2 := eq_true fun z hz => Nat.le_trans (hyw z hz) (show _ ≤ 17179869184 by decide)
        have hg1 : AV.head (cl iG ys) = true := cl_head
        have hg2 : AV.head (cl wG ys) = true := cl_head
        rw [hys] at hzt hcg hcw
        have a1 : (cl iG ys).take (i * 2) = cl iG ys := cl_all (by rw [hzt])
        have a2 : (cl wG ys).take (i * 3) = cl wG ys := cl_all (by rw [hzt])
        have a3 : (cl iG ys).drop (i * 2) = [] := List.drop_of_length_le (by omega)
        have a4 : (cl wG ys).drop (i * 3) = [] := List.drop_of_length_le (by omega)
        have a5 : i ≤ 1099511627776 := by omega
        have a6 : i ≤ 1073741824 := by omega
        simp (maxSteps := 1000000) only [go_sem, h, h50, hys, y1, y2, hg1, hg2, hzt, hcg, hcw, a1, a2, a3, a4, a5, a6, Nat.le_refl, primL_len, bne_self_eq_false]
        have hrG : ∀ L, objOnly L (.ro (cl iG ys)) = true := fun L => by simp only [objOnly, cl_only]
        have hrW : ∀ L, objOnly L (.ro (cl wG ys)) = true := fun L => by simp only [objOnly, cl_only]
        have hpl : (primL ys).length = i := by rw [primL_len, hzt]
        have n1 : ∀ f, (AV.imm i (cl wG (primL ys))).only f = true := fun f => by simp only [AV.only, cl_only]
        have n2 : ∀ f, (AV.imm i (cl iG (primL ys))).only f = true := fun f => by simp only [AV.only, cl_only]
        have n3 : (AV.sl (q + 1) 0 i 2).only (fun r => [q + 6, q + 1].contains r) = true := by simp only [AV.only, List.contains_cons, beq_self_eq_true, Bool.true_or, Bool.or_true]
        have n4 : (AV.sl (q + 6) 0 i 3).only (fun r => [q + 6, q + 1].contains r) = true := by simp only [AV.only, List.contains_cons, beq_self_eq_true, Bool.true_or, Bool.or_true]
        refine trX_loop HE hP.mix [q + 6, q + 1] (fun j : Nat => ⟨upd (upd (upd (upd (upd (fun _ => .junk) 3 (.sl (q + 1) 0 i 2)) 4 (.sl (q + 6) 0 i 3)) 9 (.imm i (cl wG (primL ys)))) 10 (.imm i (cl iG (primL ys)))) 11 (.int .i64 (j : Int)), upd (upd (fun _ => .unused) (q + 1) (.ro (cl iG ys))) (q + 6) (.ro (cl wG ys)), 80⟩)
          (fun j => j ≤ i) (fun j => i - j) 0 0 ?_ (Kept.of rfl (by repeat (first | exact KT.nil | refine KT.upd rfl (by first | rfl | exact n1 _ | exact n2 _ | exact n3 | exact n4) ?_)) ?_) (Nat.zero_le _) 80 (by kernel_rfl) ?_
        · repeat (first | exact Has.nil | refine Has.upd (by simp) ?_)
        · exact KM.p (.upd (by simp only [go_sem, fr_live]) (hrW _) (.upd (by simp only [go_sem, fr_live]) (hrG _) .nil))
        · intro j hj
          by_cases hji : j < i
          · have hwj := wi_add1 j (by omega)
            have hjy : j < ys.length := by omega
            have hjp : j < (primL ys).length := by omega
            obtain ⟨y, hy⟩ : ∃ y, ys[j] = y := ⟨_, rfl⟩
            obtain ⟨p, hp⟩ : ∃ p, (primL ys)[j] = p := ⟨_, rfl⟩
            have yw := Nat.le_trans (hyw y (hy ▸ List.getElem_mem hjy)) (show _ ≤ 68719476736 by decide)
            have pw : wl p ≤ 68719476736 := by
              have : p = primZ (gcdL ys) y := by rw [← hp, ← hy]; unfold primL; exact List.getElem_map ..
              rw [this]; exact Nat.le_trans (primZ_wl _ _) yw
            have d1 : (cl wG (primL ys)).drop (j * 3) = .opq (.whole p) :: .pad :: .pad :: cl wG ((primL ys).drop (j + 1)) := by rw [cl_drop, List.drop_eq_getElem_cons hjp, cl_cons, hp]; rfl
            have d2 : (cl iG (primL ys)).drop (j * 2) = .opq (.rint p) :: .pad :: cl iG ((primL ys).drop (j + 1)) := by rw [cl_drop, List.drop_eq_getElem_cons hjp, cl_cons, hp]; rfl
            have d3 : (cl wG ys).drop (j * 3) = .opq (.whole y) :: .pad :: .pad :: cl wG (ys.drop (j + 1)) := by rw [cl_drop, List.drop_eq_getElem_cons hjy, cl_cons, hy]; rfl
            have d4 : (cl iG ys).drop (j * 2) = .opq (.rint y) :: .pad :: cl iG (ys.drop (j + 1)) := by rw [cl_drop, List.drop_eq_getElem_cons hjy, cl_cons, hy]; rfl
            have d5 : AV.head ((cl wG ys).drop (j * 3 + 3)) = true := by rw [show j * 3 + 3 = (j + 1) * 3 by omega, cl_drop]; exact cl_head
            have d6 : AV.head ((cl iG ys).drop (j * 2 + 2)) = true := by rw [show j * 2 + 2 = (j + 1) * 2 by omega, cl_drop]; exact cl_head
            have g1 : AV.head (cl wG ((primL ys).drop (j + 1))) = true := cl_head
            have g2 : AV.head (cl iG ((primL ys).drop (j + 1))) = true := cl_head
            have k1 : j * 3 ≤ i * 3 := by omega
            have k2 : j * 2 ≤ i * 2 := by omega
            have k3 : j * 3 + 3 ≤ i * 3 := by omega
            have k4 : j * 2 + 2 ≤ i * 2 := by omega
            simp (maxSteps := 1000000) only [go_sem, hji, d1, d2, d3, d4, d5, d6, g1, g2, k1, k2, k3, k4, cl_len, hpl, hzt, yw, pw, hwj]
            exact ⟨j + 1, Kept.of rfl (by repeat (first | exact KT.nil | refine KT.upd rfl (by first | rfl | exact n1 _ | exact n2 _ | exact n3 | exact n4) ?_)) (KM.p (.upd (by simp only [go_sem]) (hrW _) (.upd (by simp only [go_sem]) (hrG _) .nil))), by omega, by omega⟩
          · obtain rfl : j = i := by omega
            simp (maxSteps := 1000000) only [go_sem, hji]
            exact .refl _
    · have hi50 : 0 ≤ i := by omega
      obtain ⟨ys, hys⟩ : ∃ ys, zs.take i = ys := ⟨_, rfl⟩
      have hyw : ∀ z ∈ ys, wl z ≤ 800 := fun z hz => hzw z (List.mem_of_mem_take (hys ▸ hz))
      have y1 := eq_true fun z hz => Nat.le_trans (hyw z hz) (show _ ≤ 34359738368 by decide)
      have y2 := eq_true fun z hz => Nat.le_trans (hyw z hz) (show _ ≤ 17179869184 by decide)
      have hg1 : AV.head (cl iG ys) = true := cl_head
      have hg2 : AV.head (cl wG ys) = true := cl_head
      rw [hys] at hzt hcg hcw
      have a1 : (cl iG ys).take (i * 2) = cl iG ys := cl_all (by rw [hzt])
      have a2 : (cl wG ys).take (i * 3) = cl wG ys := cl_all (by rw [hzt])
      have a3 : (cl iG ys).drop (i * 2) = [] := List.drop_of_length_le (by omega)
      have a4 : (cl wG ys).drop (i * 3) = [] := List.drop_of_length_le (by omega)
      have a5 : i ≤ 1099511627776 := by omega
      have a6 : i ≤ 1073741824 := by omega
      simp (maxSteps := 1000000) only [go_sem, h, hys, y1, y2, hg1, hg2, hzt, hcg, hcw, a1, a2, a3, a4, a5, a6, Nat.le_refl, primL_len, bne_self_eq_false]
      have hrG : ∀ L, objOnly L (.ro (cl iG ys)) = true := fun L => by simp only [objOnly, cl_only]
      have hrW : ∀ L, objOnly L (.ro (cl wG ys)) = true := fun L => by simp only [objOnly, cl_only]
      have hpl : (primL ys).length = i := by rw [primL_len, hzt]
      have n1 : ∀ f, (AV.imm i (cl wG (primL ys))).only f = true := fun f => by simp only [AV.only, cl_only]
      have n2 : ∀ f, (AV.imm i (cl iG (primL ys))).only f = true := fun f => by simp only [AV.only, cl_only]
      have n3 : (AV.sl (q + 1) 0 i 2).only (fun r => [q + 6, q + 1].contains r) = true := by simp only [AV.only, List.contains_cons, beq_self_eq_true, Bool.true_or, Bool.or_true]
      have n4 : (AV.sl (q + 6) 0 i 3).only (fun r => [q + 6, q + 1].contains r) = true := by simp only [AV.only, List.contains_cons, beq_self_eq_true, Bool.true_or, Bool.or_true]
      refine trX_loop HE hP.mix [q + 6, q + 1] (fun j : Nat => ⟨upd (upd (upd (upd (upd (fun _ => .junk) 3 (.sl (q + 1) 0 i 2)) 4 (.sl (q + 6) 0 i 3)) 9 (.imm i (cl wG (primL ys)))) 10 (.imm i (cl iG (primL ys)))) 11 (.int .i64 (j : Int)), upd (upd (fun _ => .unused) (q + 1) (.ro (cl iG ys))) (q + 6) (.ro (cl wG ys)), 80⟩)
        (fun j => j ≤ i) (fun j => i - j) 0 0 ?_ (Kept.of rfl (by repeat (first | exact KT.nil | refine KT.upd rfl (by first | rfl | exact n1 _ | exact n2 _ | exact n3 | exact n4) ?_)) ?_) (Nat.zero_le _) 80 (by kernel_rfl) ?_
      · repeat (first | exact Has.nil | refine Has.upd (by simp) ?_)
      · exact KM.p (.upd (by simp only [go_sem, fr_live]) (hrW _) (.upd (by simp only [go_sem, fr_live]) (hrG _) .nil))
      · intro j hj
        by_cases hji : j < i
        · have hwj := wi_add1 j (by omega)
          have hjy : j < ys.length := by omega
          have hjp : j < (primL ys).length := by omega
          obtain ⟨y, hy⟩ : ∃ y, ys[j] = y := ⟨_, rfl⟩
          obtain ⟨p, hp⟩ : ∃ p, (primL ys)[j] = p := ⟨_, rfl⟩
          have yw := Nat.le_trans (hyw y (hy ▸ List.getElem_mem hjy)) (show _ ≤ 68719476736 by decide)
          have pw : wl p ≤ 68719476736 := by
            have : p = primZ (gcdL ys) y := by rw [← hp, ← hy]; unfold primL; exact List.getElem_map ..
            rw [this]; exact Nat.le_trans (primZ_wl _ _) yw
          have d1 : (cl wG (primL ys)).drop (j * 3) = .opq (.whole p) :: .pad :: .pad :: cl wG ((primL ys).drop (j + 1)) := by rw [cl_drop, List.drop_eq_getElem_cons hjp, cl_cons, hp]; rfl
          have d2 : (cl iG (primL ys)).drop (j * 2) = .opq (.rint p) :: .pad :: cl iG ((primL ys).drop (j + 1)) := by rw [cl_drop, List.drop_eq_getElem_cons hjp, cl_cons, hp]; rfl
          have d3 : (cl wG ys).drop (j * 3) = .opq (.whole y) :: .pad :: .pad :: cl wG (ys.drop (j + 1)) := by rw [cl_drop, List.drop_eq_getElem_cons hjy, cl_cons, hy]; rfl
          have d4 : (cl iG ys).drop (j * 2) = .opq (.rint y) :: .pad :: cl iG (ys.drop (j + 1)) := by rw [cl_drop, List.drop_eq_getElem_cons hjy, cl_cons, hy]; rfl
          have d5 : AV.head ((cl wG ys).drop (j * 3 + 3)) = true := by rw [show j * 3 + 3 = (j + 1) * 3 by omega, cl_drop]; exact cl_head
          have d6 : AV.head ((cl iG ys).drop (j * 2 + 2)) = true := by rw [show j * 2 + 2 = (j + 1) * 2 by omega, cl_drop]; exact cl_head
          have g1 : AV.head (cl wG ((primL ys).drop (j + 1))) = true := cl_head
          have g2 : AV.head (cl iG ((primL ys).drop (j + 1))) = true := cl_head
          have k1 : j * 3 ≤ i * 3 := by omega
          have k2 : j * 2 ≤ i * 2 := by omega
          have k3 : j * 3 + 3 ≤ i * 3 := by omega
          have k4 : j * 2 + 2 ≤ i * 2 := by omega
          simp (maxSteps := 1000000) only [go_sem, hji, d1, d2, d3, d4, d5, d6, g1, g2, k1, k2, k3, k4, cl_len, hpl, hzt, yw, pw, hwj]
          exact ⟨j + 1, Kept.of rfl (by repeat (first | exact KT.nil | refine KT.upd rfl (by first | rfl | exact n1 _ | exact n2 _ | exact n3 | exact n4) ?_)) (KM.p (.upd (by simp only [go_sem]) (hrW _) (.upd (by simp only [go_sem]) (hrG _) .nil))), by omega, by omega⟩
        · obtain rfl : j = i := by omega
          simp (maxSteps := 1000000) only [go_sem, hji]
          exact .refl _
end Go.Proofs.Ytokoagkbfdkacaa.AM
