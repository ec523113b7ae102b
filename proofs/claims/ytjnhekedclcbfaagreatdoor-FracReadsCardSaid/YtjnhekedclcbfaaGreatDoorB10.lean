/- The document's fractions: read from texts. -/
import Derived.Test.YtjnhekedclcbfaaGreatDoorB9
namespace Go.Proofs.YtjnhekedclcbfaaGreatDoor.AM
set_option linter.all false
set_option autoImplicit true
set_option relaxedAutoImplicit true
open Go Go.Proofs
set_option maxRecDepth 100000
set_option maxHeartbeats 8000000
set_option linter.unusedSimpArgs false
variable {P : Program}

noncomputable def Fr4 : Nat → List AV → Option (Prop × AV) := addS Fr3 37 rCmp3S
theorem Fr4_ok (hP : PrgOk P) : EnvOk P ⟨T0, Fr4⟩ := ((Fr3_ok hP).add (rCmp3S_ok hP))
theorem Fr4_at (f a) : Fr4 f a = (addS Fr3 37 rCmp3S) f a := rfl
attribute [go_sem] Fr4_at
theorem parts_neg {l tt : List Nat} (h : l = 45 :: tt) : szL l = hdL 47 tt ∧ denL l = (if 47 ∈ tt then tlL 47 tt else [49]) ∧ (47 ∈ l ↔ 47 ∈ tt) ∧ mnL l = true := by
  subst h
  have e1 : hdL 47 (45 :: tt) = 45 :: hdL 47 tt := rfl
  have e2 : tlL 47 (45 :: tt) = tlL 47 tt := rfl
  have e3 : 47 ∈ (45 :: tt) ↔ 47 ∈ tt := by simp
  refine ⟨?_, ?_, e3, ?_⟩
  · unfold szL; rw [e1]; rfl
  · unfold denL; rw [e2]; simp only [e3]
  · unfold mnL; rw [e1]; rfl
theorem parts_pos {l : List Nat} (h : l.getD 0 0 ≠ 45) : szL l = hdL 47 l ∧ mnL l = false := by
  have e : (hdL 47 l).getD 0 0 ≠ 45 := by
    cases l with
    | nil => exact h
    | cons c t =>
      unfold hdL
      split
      · decide
      · exact h
  exact ⟨by unfold szL; rw [if_neg e], decide_eq_false e⟩
theorem hd_step {tt : List Nat} {k : Nat} (h : k < tt.length) : (tt.getD k 0 = 47 → k + (hdL 47 (tt.drop k)).length = k) ∧ (tt.getD k 0 ≠ 47 → k + (hdL 47 (tt.drop k)).length = k + 1 + (hdL 47 (tt.drop (k + 1))).length) := by
  have e : tt.drop k = tt.getD k 0 :: tt.drop (k + 1) := by
    rw [List.drop_eq_getElem_cons h, List.getD_eq_getElem?_getD, List.getElem?_eq_getElem h]; rfl
  have hc : ∀ (x : Nat) (t : List Nat), hdL 47 (x :: t) = if x = 47 then [] else x :: hdL 47 t := fun _ _ => rfl
  rw [e, hc]
  constructor
  · intro h1; rw [if_pos h1]; rfl
  · intro h1; rw [if_neg h1, List.length_cons]; omega
theorem den_dec {l : List Nat} (h : okD l) : (valL l < 2) = (l = [48] ∨ l = [49]) := by
  rw [eq_iff_iff]
  constructor
  · intro h1
    have h2 := decL_val h
    have h4 : valL l = 0 ∨ valL l = 1 := by omega
    rcases h4 with h3 | h3
    · rw [h3] at h2; exact .inl (h2.symm.trans rfl)
    · rw [h3] at h2
      have : decL 1 = [49] := by
        have := decL_val (l := [49]) ⟨by decide, by decide, by decide⟩
        rw [← this]; rfl
      exact .inr (h2.symm.trans this)
  · rintro (h1 | h1) <;> rw [h1] <;> decide
/-- What a text's parts tell, once they are known to be numbers. -/
theorem rParse3_spec (hP : PrgOk P) (s : ByteArray) (hs : (bl s).length ≤ 4294967296) : CSpec P 45 [.str s] (.tup [(.agg [.opq (.rfrac ((parF (bl s)).1)), .pad, .pad]), .int .i64 (parF (bl s)).2]) := by
  have HE := Fr4_ok hP
  have hg := get_bl s 0
  have b8 : bl ⟨#[48]⟩ = [48] := rfl
  have b9 : bl ⟨#[49]⟩ = [49] := rfl
  have e0 : ((0 : Int) : Rat) = 0 := rfl
  refine CSpec_vc (E := ⟨T0, Fr4⟩) (fn45 hP) HE hP.mix rfl (by first | rfl | (simp only [go_sem]; done)) (by first | rfl | (simp only [go_sem]; done)) (Nat.le_of_ble_eq_true rfl) ?_
  by_cases hm : (bl s).getD 0 0 = 45
  · have hm' : ((bl s).getD 0 0 == 45) = true := by rw [hm]; rfl
    obtain ⟨tt, htt⟩ : ∃ tt, bl s = 45 :: tt := by
      cases hb : bl s with
      | nil => rw [hb] at hm; simp at hm
      | cons c t => rw [hb] at hm; exact ⟨t, by simp at hm; rw [hm]⟩
    have hl0 : (0 < (bl s).length) = True := eq_true (by rw [htt]; simp)
    have hl1 : ((1 : Int) ≤ ((bl s).length : Int)) = True := eq_true (by rw [htt, List.length_cons]; omega)
    have hl1' : ((1 : Nat) ≤ (bl s).length) = True := eq_true (by rw [htt, List.length_cons]; omega)
    have ht : bl (s.extract 1 (bl s).length) = tt := by rw [bl_extract, htt]; exact List.take_of_length_le (by simp)
    have htl : (bl (s.extract 1 (bl s).length)).length = tt.length := by rw [ht]
    obtain ⟨p1, p2, p3, p4⟩ := parts_neg htt
    have hk : tt.length ≤ (bl s).length := by rw [htt, List.length_cons]; omega
    have i1 : (1 : Int).toNat = 1 := rfl
    simp (maxSteps := 1000000) only [go_sem, size_bl, hg, hl0, hm', hl1, hl1', htl, i1]
    refine ⟨by decide, ?_⟩
    have hzz : ¬ (mnL (bl s) = true ∧ szL (bl s) = [48]) → decide (szL (bl s) = [48]) = false := fun h => decide_eq_false fun e => h ⟨p4, e⟩
    have cA : bl ((s.extract 1 (bl s).length).extract 0 (hdL 47 tt).length) = szL (bl s) := by
      have e := bl_extract (s.extract 1 (bl s).length) 0 (hdL 47 tt).length
      rw [ht, List.drop_zero, Nat.sub_zero, take_hd] at e
      exact e.trans p1.symm
    have tle := tl_le 47 tt
    have hle := hd_le 47 tt
    have nle := sz_le (bl s)
    have dle := den_le (bl s)
    have cB : 47 ∈ tt → bl ((s.extract 1 (bl s).length).extract ((hdL 47 tt).length + 1) tt.length) = denL (bl s) := fun h => by
      have e := bl_extract (s.extract 1 (bl s).length) ((hdL 47 tt).length + 1) tt.length
      rw [ht, drop_hd] at e
      refine (e.trans (List.take_of_length_le ?_)).trans (by rw [p2, if_pos h])
      have h2 := congrArg List.length (drop_hd 47 tt)
      rw [List.length_drop] at h2; omega
    have cN : 47 ∉ tt → [49] = denL (bl s) := fun h => by rw [p2, if_neg h]
    have hlen : tt.length ≤ 4294967296 := by omega
    have wl0 := wi_pred' tt.length (by omega)
    refine trX_loop HE hP.mix [0] (fun k : Nat => ⟨upd (upd (upd (upd (upd (upd (upd (fun _ => .junk) 0 (.str s)) 2 (.ref 0 0)) 3 (.int .i64 0)) 4 (.bool true)) 5 (.str (s.extract 1 (bl s).length))) 6 (.int .i64 ((k + (hdL 47 (tt.drop k)).length : Nat) : Int))) 7 (.int .i64 ((k : Int) - 1)), upd (fun _ => .unused) 0 (.live [.bool false, .nils, .nils]), 102⟩)
      (fun k => k ≤ tt.length) (fun k => k) tt.length 20 (by repeat (first | exact Has.nil | refine Has.upd rfl ?_)) (Kept.of rfl (by
        have hnil : hdL 47 (tt.drop tt.length) = [] := by rw [List.drop_length]; rfl
        rw [wl0, hnil, List.length_nil, Nat.add_zero]
        exact (by repeat (first | exact KT.nil | refine KT.upd rfl (by first | rfl | exact hr | exact hr2 | (simp only [go_sem]; done)) ?_))) (KM.p (by repeat (first | exact KMp.nil | refine KMp.upd rfl (by first | rfl | (simp only [go_sem]; done)) ?_)))) (Nat.le_refl _) 102 (by kernel_rfl) ?_
    intro k hk0
    have hk0 : k ≤ tt.length := hk0
    rcases k with _ | k
    · have h00 : ((0 : Int) ≤ ((0 : Nat) : Int) - 1) = False := eq_false (by decide)
      have h01 : ((0 : Int) ≤ 0 - 1) = False := eq_false (by decide)
      have h02 : ((0 : Int) ≤ -1) = False := eq_false (by decide)
      by_cases hst : 47 ∈ tt
      · have hlt : ((hdL 47 tt).length < tt.length) = True := by rw [hd_lt]; exact eq_true hst
        have hnl : (hdL 47 tt).length < tt.length := by rw [hlt]; trivial
        have cD := cB hst
        have hst' : 47 ∈ bl s := p3.2 hst
        have hw3 := wi_add1 (hdL 47 tt).length (by omega)
        have hle2 : ((hdL 47 tt).length + 1 ≤ tt.length) = True := eq_true hnl
        have hle3 : (((hdL 47 tt).length + 1 : Nat) : Int) ≤ (tt.length : Int) := by omega
        have hle4 : ((hdL 47 tt).length : Int) ≤ (tt.length : Int) := by omega
        have b9' := b9
        have l1 : (szL (bl s)).length ≤ 1099511627776 := by omega
        have l2 : (denL (bl s)).length ≤ 1099511627776 := by omega
        by_cases h1 : okD (szL (bl s))
        · have h1' := decide_eq_true h1
          by_cases h2 : okD (denL (bl s))
          · have h2' := decide_eq_true h2
            by_cases h3 : mnL (bl s) = true ∧ szL (bl s) = [48]
            · rw [parF_1 (.inr (.inr h3))]
              have h4' := decide_eq_true h3.2
              first
                | exact absurd (p4.symm.trans h3.1) (by decide)
                | (simp (maxSteps := 1000000) only [go_sem, h00, h01, h02, htl, size_bl, hlt, hle, hle2, hle3, hle4, hw3, cA, cD, l1, l2, e0, str_eq, b8, b9', h1', h2', h4']
                   (repeat' (first | exact Conv.refl _ | refine And.intro ?_ ?_)) <;> first | omega | decide)
            · have hn : ¬ (¬ okD (szL (bl s)) ∨ ¬ okD (denL (bl s)) ∨ (mnL (bl s) = true ∧ szL (bl s) = [48])) := by
                rintro (h | h | h)
                · exact h h1
                · exact h h2
                · exact h3 h
              have hz := hzz h3
              by_cases h5 : 256 < (szL (bl s)).length
              · rw [parF_2 hn (.inl h5)]
                simp (maxSteps := 1000000) only [go_sem, h00, h01, h02, htl, size_bl, hlt, hle, hle2, hle3, hle4, hw3, cA, cD, l1, l2, e0, str_eq, b8, b9', h1', h2', hz, h5]
                (repeat' (first | exact Conv.refl _ | refine And.intro ?_ ?_)) <;> first | omega | decide
              · by_cases h6 : 256 < (denL (bl s)).length
                · rw [parF_2 hn (.inr h6)]
                  simp (maxSteps := 1000000) only [go_sem, h00, h01, h02, htl, size_bl, hlt, hle, hle2, hle3, hle4, hw3, cA, cD, l1, l2, e0, str_eq, b8, b9', h1', h2', hz, h5, h6]
                  (repeat' (first | exact Conv.refl _ | refine And.intro ?_ ?_)) <;> first | omega | decide
                · have hl : ¬ (256 < (szL (bl s)).length ∨ 256 < (denL (bl s)).length) := by omega
                  by_cases h7 : 47 ∈ bl s ∧ valL (denL (bl s)) < 2
                  · rw [parF_3 hn hl ⟨h7.1, .inl h7.2⟩]
                    first
                      | exact absurd h7.1 hst'
                      | (have h8 := h7.2
                         rw [den_dec h2] at h8
                         rcases h8 with h8 | h8
                         · have k1 := decide_eq_true h8
                           simp (maxSteps := 1000000) only [go_sem, h00, h01, h02, htl, size_bl, hlt, hle, hle2, hle3, hle4, hw3, cA, cD, l1, l2, e0, str_eq, b8, b9', h1', h2', hz, h5, h6, k1]
                           (repeat' (first | exact Conv.refl _ | refine And.intro ?_ ?_)) <;> first | omega | decide
                         · have k1 : decide (denL (bl s) = [48]) = false := decide_eq_false fun e => absurd (e.symm.trans h8) (by decide)
                           have k2 := decide_eq_true h8
                           simp (maxSteps := 1000000) only [go_sem, h00, h01, h02, htl, size_bl, hlt, hle, hle2, hle3, hle4, hw3, cA, cD, l1, l2, e0, str_eq, b8, b9', h1', h2', hz, h5, h6, k1, k2]
                           (repeat' (first | exact Conv.refl _ | refine And.intro ?_ ?_)) <;> first | omega | decide)
                  · have k12 : 47 ∈ bl s → decide (denL (bl s) = [48]) = false ∧ decide (denL (bl s) = [49]) = false := fun hh => by
                      have := mt (fun e : denL (bl s) = [48] ∨ denL (bl s) = [49] => (by rw [den_dec h2]; exact e : valL (denL (bl s)) < 2)) (fun e => h7 ⟨hh, e⟩)
                      exact ⟨decide_eq_false fun e => this (.inl e), decide_eq_false fun e => this (.inr e)⟩
                    have h2le : 47 ∈ bl s → 2 ≤ valL (denL (bl s)) := fun hh => by have : ¬ valL (denL (bl s)) < 2 := fun e => h7 ⟨hh, e⟩; omega
                    have hpos : 0 < valL (denL (bl s)) := den_pos' h2le
                    have dsz : (∀ c ∈ szL (bl s), 48 ≤ c ∧ c ≤ 57) = True := eq_true h1.2.2
                    have dden : (∀ c ∈ denL (bl s), 48 ≤ c ∧ c ≤ 57) = True := eq_true h2.2.2
                    have l3 : (szL (bl s)).length ≤ 8589934592 := by omega
                    have l4 : (denL (bl s)).length ≤ 8589934592 := by omega
                    have v1' := valL_blen h1 (by omega)
                    have v2' := valL_blen h2 (by omega)
                    have v1 := Nat.le_trans v1' (show _ ≤ 34359738368 by decide)
                    have v2 := Nat.le_trans v2' (show _ ≤ 34359738368 by decide)
                    have flq : fl (qlow (sg true (valL (szL (bl s)))) (valL (denL (bl s)))) ≤ FB := by
                      rw [qlow_eq]
                      exact fl_mk (by unfold wl; rw [sg_abs]; exact Nat.le_trans v1' (by decide)) (Nat.le_trans v2' (by decide)) hpos
                    by_cases h9 : 47 ∈ bl s ∧ Nat.gcd (valL (szL (bl s))) (valL (denL (bl s))) ≠ 1
                    · rw [parF_3 hn hl ⟨h9.1, .inr h9.2⟩]
                      first
                        | exact absurd h9.1 hst'
                        | (have tx := text_no h9.1 (h2le h9.1) h9.2
                           rw [p4] at tx
                           have tx' := decide_eq_false tx
                           obtain ⟨k1, k2⟩ := k12 h9.1
                           simp (maxSteps := 1000000) only [go_sem, h00, h01, h02, htl, size_bl, hlt, hle, hle2, hle3, hle4, hw3, cA, cD, l1, l2, e0, str_eq, b8, b9', h1', h2', hz, h5, h6, k1, k2, dsz, dden, l3, l4, v1, v2, hpos, flq, tx']
                           (repeat' (first | exact Conv.refl _ | refine And.intro ?_ ?_)) <;> first | omega | decide)
                    · rw [parF_4 hn hl (by
                        rintro ⟨x1, x2⟩
                        rcases x2 with x2 | x2
                        · exact h7 ⟨x1, x2⟩
                        · exact h9 ⟨x1, x2⟩)]
                      have tx := text_of h1 (fun e => hn (.inr (.inr e))) h2 h2le (fun x1 => Decidable.byContradiction fun x2 => h9 ⟨x1, x2⟩)
                      rw [p4] at tx ⊢
                      have tx' := decide_eq_true tx
                      first
                        | (have hst2 : 47 ∈ bl s := hst'
                           obtain ⟨k1, k2⟩ := k12 hst2
                           simp (maxSteps := 1000000) only [go_sem, h00, h01, h02, htl, size_bl, hlt, hle, hle2, hle3, hle4, hw3, cA, cD, l1, l2, e0, str_eq, b8, b9', h1', h2', hz, h5, h6, k1, k2, dsz, dden, l3, l4, v1, v2, hpos, flq, tx']
                           (repeat' (first | exact Conv.refl _ | refine And.intro ?_ ?_)) <;> first | omega | decide)
                        | (simp (maxSteps := 1000000) only [go_sem, h00, h01, h02, htl, size_bl, hlt, hle, hle2, hle3, hle4, hw3, cA, cD, l1, l2, e0, str_eq, b8, b9', h1', h2', hz, h5, h6, dsz, dden, l3, l4, v1, v2, hpos, flq, tx']
                           (repeat' (first | exact Conv.refl _ | refine And.intro ?_ ?_)) <;> first | omega | decide)
          · have h2' := decide_eq_false h2
            rw [parF_1 (.inr (.inl h2))]
            simp (maxSteps := 1000000) only [go_sem, h00, h01, h02, htl, size_bl, hlt, hle, hle2, hle3, hle4, hw3, cA, cD, l1, l2, e0, str_eq, b8, b9', h1', h2']
            (repeat' (first | exact Conv.refl _ | refine And.intro ?_ ?_)) <;> first | omega | decide
        · have h1' := decide_eq_false h1
          rw [parF_1 (.inl h1)]
          simp (maxSteps := 1000000) only [go_sem, h00, h01, h02, htl, size_bl, hlt, hle, hle2, hle3, hle4, hw3, cA, cD, l1, l2, e0, str_eq, b8, b9', h1']
          (repeat' (first | exact Conv.refl _ | refine And.intro ?_ ?_)) <;> first | omega | decide
      · have hlt : ((hdL 47 tt).length < tt.length) = False := by rw [hd_lt]; exact eq_false hst
        have cD : bl ⟨#[49]⟩ = denL (bl s) := (show bl ⟨#[49]⟩ = [49] from rfl).trans (cN hst)
        have hst' : 47 ∉ bl s := fun h => hst (p3.1 h)
        have hw3 : True := trivial
        have hle2 : True := trivial
        have hle3 : True := trivial
        have hle4 : ((hdL 47 tt).length : Int) ≤ (tt.length : Int) := by omega
        have b9' : True := trivial
        have l1 : (szL (bl s)).length ≤ 1099511627776 := by omega
        have l2 : (denL (bl s)).length ≤ 1099511627776 := by omega
        by_cases h1 : okD (szL (bl s))
        · have h1' := decide_eq_true h1
          by_cases h2 : okD (denL (bl s))
          · have h2' := decide_eq_true h2
            by_cases h3 : mnL (bl s) = true ∧ szL (bl s) = [48]
            · rw [parF_1 (.inr (.inr h3))]
              have h4' := decide_eq_true h3.2
              first
                | exact absurd (p4.symm.trans h3.1) (by decide)
                | (simp (maxSteps := 1000000) only [go_sem, h00, h01, h02, htl, size_bl, hlt, hle, hle2, hle3, hle4, hw3, cA, cD, l1, l2, e0, str_eq, b8, b9', h1', h2', h4']
                   (repeat' (first | exact Conv.refl _ | refine And.intro ?_ ?_)) <;> first | omega | decide)
            · have hn : ¬ (¬ okD (szL (bl s)) ∨ ¬ okD (denL (bl s)) ∨ (mnL (bl s) = true ∧ szL (bl s) = [48])) := by
                rintro (h | h | h)
                · exact h h1
                · exact h h2
                · exact h3 h
              have hz := hzz h3
              by_cases h5 : 256 < (szL (bl s)).length
              · rw [parF_2 hn (.inl h5)]
                simp (maxSteps := 1000000) only [go_sem, h00, h01, h02, htl, size_bl, hlt, hle, hle2, hle3, hle4, hw3, cA, cD, l1, l2, e0, str_eq, b8, b9', h1', h2', hz, h5]
                (repeat' (first | exact Conv.refl _ | refine And.intro ?_ ?_)) <;> first | omega | decide
              · by_cases h6 : 256 < (denL (bl s)).length
                · rw [parF_2 hn (.inr h6)]
                  simp (maxSteps := 1000000) only [go_sem, h00, h01, h02, htl, size_bl, hlt, hle, hle2, hle3, hle4, hw3, cA, cD, l1, l2, e0, str_eq, b8, b9', h1', h2', hz, h5, h6]
                  (repeat' (first | exact Conv.refl _ | refine And.intro ?_ ?_)) <;> first | omega | decide
                · have hl : ¬ (256 < (szL (bl s)).length ∨ 256 < (denL (bl s)).length) := by omega
                  by_cases h7 : 47 ∈ bl s ∧ valL (denL (bl s)) < 2
                  · rw [parF_3 hn hl ⟨h7.1, .inl h7.2⟩]
                    first
                      | exact absurd h7.1 hst'
                      | (have h8 := h7.2
                         rw [den_dec h2] at h8
                         rcases h8 with h8 | h8
                         · have k1 := decide_eq_true h8
                           simp (maxSteps := 1000000) only [go_sem, h00, h01, h02, htl, size_bl, hlt, hle, hle2, hle3, hle4, hw3, cA, cD, l1, l2, e0, str_eq, b8, b9', h1', h2', hz, h5, h6, k1]
                           (repeat' (first | exact Conv.refl _ | refine And.intro ?_ ?_)) <;> first | omega | decide
                         · have k1 : decide (denL (bl s) = [48]) = false := decide_eq_false fun e => absurd (e.symm.trans h8) (by decide)
                           have k2 := decide_eq_true h8
                           simp (maxSteps := 1000000) only [go_sem, h00, h01, h02, htl, size_bl, hlt, hle, hle2, hle3, hle4, hw3, cA, cD, l1, l2, e0, str_eq, b8, b9', h1', h2', hz, h5, h6, k1, k2]
                           (repeat' (first | exact Conv.refl _ | refine And.intro ?_ ?_)) <;> first | omega | decide)
                  · have k12 : 47 ∈ bl s → decide (denL (bl s) = [48]) = false ∧ decide (denL (bl s) = [49]) = false := fun hh => by
                      have := mt (fun e : denL (bl s) = [48] ∨ denL (bl s) = [49] => (by rw [den_dec h2]; exact e : valL (denL (bl s)) < 2)) (fun e => h7 ⟨hh, e⟩)
                      exact ⟨decide_eq_false fun e => this (.inl e), decide_eq_false fun e => this (.inr e)⟩
                    have h2le : 47 ∈ bl s → 2 ≤ valL (denL (bl s)) := fun hh => by have : ¬ valL (denL (bl s)) < 2 := fun e => h7 ⟨hh, e⟩; omega
                    have hpos : 0 < valL (denL (bl s)) := den_pos' h2le
                    have dsz : (∀ c ∈ szL (bl s), 48 ≤ c ∧ c ≤ 57) = True := eq_true h1.2.2
                    have dden : (∀ c ∈ denL (bl s), 48 ≤ c ∧ c ≤ 57) = True := eq_true h2.2.2
                    have l3 : (szL (bl s)).length ≤ 8589934592 := by omega
                    have l4 : (denL (bl s)).length ≤ 8589934592 := by omega
                    have v1' := valL_blen h1 (by omega)
                    have v2' := valL_blen h2 (by omega)
                    have v1 := Nat.le_trans v1' (show _ ≤ 34359738368 by decide)
                    have v2 := Nat.le_trans v2' (show _ ≤ 34359738368 by decide)
                    have flq : fl (qlow (sg true (valL (szL (bl s)))) (valL (denL (bl s)))) ≤ FB := by
                      rw [qlow_eq]
                      exact fl_mk (by unfold wl; rw [sg_abs]; exact Nat.le_trans v1' (by decide)) (Nat.le_trans v2' (by decide)) hpos
                    by_cases h9 : 47 ∈ bl s ∧ Nat.gcd (valL (szL (bl s))) (valL (denL (bl s))) ≠ 1
                    · rw [parF_3 hn hl ⟨h9.1, .inr h9.2⟩]
                      first
                        | exact absurd h9.1 hst'
                        | (have tx := text_no h9.1 (h2le h9.1) h9.2
                           rw [p4] at tx
                           have tx' := decide_eq_false tx
                           obtain ⟨k1, k2⟩ := k12 h9.1
                           simp (maxSteps := 1000000) only [go_sem, h00, h01, h02, htl, size_bl, hlt, hle, hle2, hle3, hle4, hw3, cA, cD, l1, l2, e0, str_eq, b8, b9', h1', h2', hz, h5, h6, k1, k2, dsz, dden, l3, l4, v1, v2, hpos, flq, tx']
                           (repeat' (first | exact Conv.refl _ | refine And.intro ?_ ?_)) <;> first | omega | decide)
                    · rw [parF_4 hn hl (by
                        rintro ⟨x1, x2⟩
                        rcases x2 with x2 | x2
                        · exact h7 ⟨x1, x2⟩
                        · exact h9 ⟨x1, x2⟩)]
                      have tx := text_of h1 (fun e => hn (.inr (.inr e))) h2 h2le (fun x1 => Decidable.byContradiction fun x2 => h9 ⟨x1, x2⟩)
                      rw [p4] at tx ⊢
                      have tx' := decide_eq_true tx
                      first
                        | (have hst2 : 47 ∈ bl s := hst'
                           obtain ⟨k1, k2⟩ := k12 hst2
                           simp (maxSteps := 1000000) only [go_sem, h00, h01, h02, htl, size_bl, hlt, hle, hle2, hle3, hle4, hw3, cA, cD, l1, l2, e0, str_eq, b8, b9', h1', h2', hz, h5, h6, k1, k2, dsz, dden, l3, l4, v1, v2, hpos, flq, tx']
                           (repeat' (first | exact Conv.refl _ | refine And.intro ?_ ?_)) <;> first | omega | decide)
                        | (simp (maxSteps := 1000000) only [go_sem, h00, h01, h02, htl, size_bl, hlt, hle, hle2, hle3, hle4, hw3, cA, cD, l1, l2, e0, str_eq, b8, b9', h1', h2', hz, h5, h6, dsz, dden, l3, l4, v1, v2, hpos, flq, tx']
                           (repeat' (first | exact Conv.refl _ | refine And.intro ?_ ?_)) <;> first | omega | decide)
          · have h2' := decide_eq_false h2
            rw [parF_1 (.inr (.inl h2))]
            simp (maxSteps := 1000000) only [go_sem, h00, h01, h02, htl, size_bl, hlt, hle, hle2, hle3, hle4, hw3, cA, cD, l1, l2, e0, str_eq, b8, b9', h1', h2']
            (repeat' (first | exact Conv.refl _ | refine And.intro ?_ ?_)) <;> first | omega | decide
        · have h1' := decide_eq_false h1
          rw [parF_1 (.inl h1)]
          simp (maxSteps := 1000000) only [go_sem, h00, h01, h02, htl, size_bl, hlt, hle, hle2, hle3, hle4, hw3, cA, cD, l1, l2, e0, str_eq, b8, b9', h1']
          (repeat' (first | exact Conv.refl _ | refine And.intro ?_ ?_)) <;> first | omega | decide
    · have hkl : k < tt.length := by omega
      have hw1 := wi_pred' k (by omega)
      have hw2 := wi_pred k (by omega)
      have e1 : (((k + 1 : Nat) : Int) - 1) = (k : Int) := by omega
      have hgk := get_bl (s.extract 1 (bl s).length) k
      rw [ht] at hgk
      obtain ⟨st1, st2⟩ := hd_step hkl
      by_cases h47 : tt.getD k 0 = 47
      · have h47' : (tt.getD k 0 == 47) = true := by rw [h47]; rfl
        simp (maxSteps := 1000000) only [go_sem, e1, size_bl, htl, hkl, hgk, h47', hw1]
        refine ⟨k, Kept.of rfl (by rw [st1 h47]; exact (by repeat (first | exact KT.nil | refine KT.upd rfl (by first | rfl | exact hr | exact hr2 | (simp only [go_sem]; done)) ?_))) (KM.p (by repeat (first | exact KMp.nil | refine KMp.upd rfl (by first | rfl | (simp only [go_sem]; done)) ?_))), by show k ≤ _; omega, Nat.lt_succ_self _⟩
      · have h47' : (tt.getD k 0 == 47) = false := beq_eq_false_iff_ne.2 h47
        simp (maxSteps := 1000000) only [go_sem, e1, size_bl, htl, hkl, hgk, h47', hw1]
        refine ⟨k, Kept.of rfl (by rw [st2 h47]; exact (by repeat (first | exact KT.nil | refine KT.upd rfl (by first | rfl | exact hr | exact hr2 | (simp only [go_sem]; done)) ?_))) (KM.p (by repeat (first | exact KMp.nil | refine KMp.upd rfl (by first | rfl | (simp only [go_sem]; done)) ?_))), by show k ≤ _; omega, Nat.lt_succ_self _⟩
  · obtain ⟨p1, p4⟩ := parts_pos hm
    have p2 : denL (bl s) = if 47 ∈ bl s then tlL 47 (bl s) else [49] := rfl
    have p3 : 47 ∈ bl s ↔ 47 ∈ bl s := Iff.rfl
    obtain ⟨tt, htt⟩ : ∃ tt, bl s = tt := ⟨_, rfl⟩
    have hm' : ((bl s).getD 0 0 == 45) = false := by simpa using hm
    have ht : bl s = tt := htt
    have htl : (bl s).length = tt.length := by rw [htt]
    by_cases hl0 : 0 < tt.length
    · simp (maxSteps := 1000000) only [go_sem, size_bl, hg, hl0, hm', htl]
      have hk : tt.length ≤ (bl s).length := by rw [htt]; exact Nat.le_refl _
      have q1 : szL (bl s) = hdL 47 tt := by rw [← htt]; exact p1
      have q2 : denL (bl s) = if 47 ∈ tt then tlL 47 tt else [49] := by rw [← htt]; exact p2
      have q3 : 47 ∈ bl s ↔ 47 ∈ tt := by rw [htt]
      have hzz : ¬ (mnL (bl s) = true ∧ szL (bl s) = [48]) → True := fun _ => trivial
      have p1 := q1
      have p2 := q2
      have p3 := q3
      have cA : bl (s.extract 0 (hdL 47 tt).length) = szL (bl s) := by
        have e := bl_extract s 0 (hdL 47 tt).length
        rw [ht, List.drop_zero, Nat.sub_zero, take_hd] at e
        exact e.trans p1.symm
      have tle := tl_le 47 tt
      have hle := hd_le 47 tt
      have nle := sz_le (bl s)
      have dle := den_le (bl s)
      have cB : 47 ∈ tt → bl (s.extract ((hdL 47 tt).length + 1) tt.length) = denL (bl s) := fun h => by
        have e := bl_extract s ((hdL 47 tt).length + 1) tt.length
        rw [ht, drop_hd] at e
        refine (e.trans (List.take_of_length_le ?_)).trans (by rw [p2, if_pos h])
        have h2 := congrArg List.length (drop_hd 47 tt)
        rw [List.length_drop] at h2; omega
      have cN : 47 ∉ tt → [49] = denL (bl s) := fun h => by rw [p2, if_neg h]
      have hlen : tt.length ≤ 4294967296 := by omega
      have wl0 := wi_pred' tt.length (by omega)
      refine trX_loop HE hP.mix [0] (fun k : Nat => ⟨upd (upd (upd (upd (upd (upd (upd (fun _ => .junk) 0 (.str s)) 2 (.ref 0 0)) 3 (.int .i64 0)) 4 (.bool false)) 5 (.str s)) 6 (.int .i64 ((k + (hdL 47 (tt.drop k)).length : Nat) : Int))) 7 (.int .i64 ((k : Int) - 1)), upd (fun _ => .unused) 0 (.live [.bool false, .nils, .nils]), 102⟩)
        (fun k => k ≤ tt.length) (fun k => k) tt.length 20 (by repeat (first | exact Has.nil | refine Has.upd rfl ?_)) (Kept.of rfl (by
          have hnil : hdL 47 (tt.drop tt.length) = [] := by rw [List.drop_length]; rfl
          rw [wl0, hnil, List.length_nil, Nat.add_zero]
          exact (by repeat (first | exact KT.nil | refine KT.upd rfl (by first | rfl | exact hr | exact hr2 | (simp only [go_sem]; done)) ?_))) (KM.p (by repeat (first | exact KMp.nil | refine KMp.upd rfl (by first | rfl | (simp only [go_sem]; done)) ?_)))) (Nat.le_refl _) 102 (by kernel_rfl) ?_
      intro k hk0
      have hk0 : k ≤ tt.length := hk0
      rcases k with _ | k
      · have h00 : ((0 : Int) ≤ ((0 : Nat) : Int) - 1) = False := eq_false (by decide)
        have h01 : ((0 : Int) ≤ 0 - 1) = False := eq_false (by decide)
        have h02 : ((0 : Int) ≤ -1) = False := eq_false (by decide)
        by_cases hst : 47 ∈ tt
        · have hlt : ((hdL 47 tt).length < tt.length) = True := by rw [hd_lt]; exact eq_true hst
          have hnl : (hdL 47 tt).length < tt.length := by rw [hlt]; trivial
          have cD := cB hst
          have hst' : 47 ∈ bl s := p3.2 hst
          have hw3 := wi_add1 (hdL 47 tt).length (by omega)
          have hle2 : ((hdL 47 tt).length + 1 ≤ tt.length) = True := eq_true hnl
          have hle3 : (((hdL 47 tt).length + 1 : Nat) : Int) ≤ (tt.length : Int) := by omega
          have hle4 : ((hdL 47 tt).length : Int) ≤ (tt.length : Int) := by omega
          have b9' := b9
          have l1 : (szL (bl s)).length ≤ 1099511627776 := by omega
          have l2 : (denL (bl s)).length ≤ 1099511627776 := by omega
          by_cases h1 : okD (szL (bl s))
          · have h1' := decide_eq_true h1
            by_cases h2 : okD (denL (bl s))
            · have h2' := decide_eq_true h2
              by_cases h3 : mnL (bl s) = true ∧ szL (bl s) = [48]
              · rw [parF_1 (.inr (.inr h3))]
                have h4' := decide_eq_true h3.2
                first
                  | exact absurd (p4.symm.trans h3.1) (by decide)
                  | (simp (maxSteps := 1000000) only [go_sem, h00, h01, h02, htl, size_bl, hlt, hle, hle2, hle3, hle4, hw3, cA, cD, l1, l2, e0, str_eq, b8, b9', h1', h2', h4']
                     (repeat' (first | exact Conv.refl _ | refine And.intro ?_ ?_)) <;> first | omega | decide)
              · have hn : ¬ (¬ okD (szL (bl s)) ∨ ¬ okD (denL (bl s)) ∨ (mnL (bl s) = true ∧ szL (bl s) = [48])) := by
                  rintro (h | h | h)
                  · exact h h1
                  · exact h h2
                  · exact h3 h
                have hz := hzz h3
                by_cases h5 : 256 < (szL (bl s)).length
                · rw [parF_2 hn (.inl h5)]
                  simp (maxSteps := 1000000) only [go_sem, h00, h01, h02, htl, size_bl, hlt, hle, hle2, hle3, hle4, hw3, cA, cD, l1, l2, e0, str_eq, b8, b9', h1', h2', hz, h5]
                  (repeat' (first | exact Conv.refl _ | refine And.intro ?_ ?_)) <;> first | omega | decide
                · by_cases h6 : 256 < (denL (bl s)).length
                  · rw [parF_2 hn (.inr h6)]
                    simp (maxSteps := 1000000) only [go_sem, h00, h01, h02, htl, size_bl, hlt, hle, hle2, hle3, hle4, hw3, cA, cD, l1, l2, e0, str_eq, b8, b9', h1', h2', hz, h5, h6]
                    (repeat' (first | exact Conv.refl _ | refine And.intro ?_ ?_)) <;> first | omega | decide
                  · have hl : ¬ (256 < (szL (bl s)).length ∨ 256 < (denL (bl s)).length) := by omega
                    by_cases h7 : 47 ∈ bl s ∧ valL (denL (bl s)) < 2
                    · rw [parF_3 hn hl ⟨h7.1, .inl h7.2⟩]
                      first
                        | exact absurd h7.1 hst'
                        | (have h8 := h7.2
                           rw [den_dec h2] at h8
                           rcases h8 with h8 | h8
                           · have k1 := decide_eq_true h8
                             simp (maxSteps := 1000000) only [go_sem, h00, h01, h02, htl, size_bl, hlt, hle, hle2, hle3, hle4, hw3, cA, cD, l1, l2, e0, str_eq, b8, b9', h1', h2', hz, h5, h6, k1]
                             (repeat' (first | exact Conv.refl _ | refine And.intro ?_ ?_)) <;> first | omega | decide
                           · have k1 : decide (denL (bl s) = [48]) = false := decide_eq_false fun e => absurd (e.symm.trans h8) (by decide)
                             have k2 := decide_eq_true h8
                             simp (maxSteps := 1000000) only [go_sem, h00, h01, h02, htl, size_bl, hlt, hle, hle2, hle3, hle4, hw3, cA, cD, l1, l2, e0, str_eq, b8, b9', h1', h2', hz, h5, h6, k1, k2]
                             (repeat' (first | exact Conv.refl _ | refine And.intro ?_ ?_)) <;> first | omega | decide)
                    · have k12 : 47 ∈ bl s → decide (denL (bl s) = [48]) = false ∧ decide (denL (bl s) = [49]) = false := fun hh => by
                        have := mt (fun e : denL (bl s) = [48] ∨ denL (bl s) = [49] => (by rw [den_dec h2]; exact e : valL (denL (bl s)) < 2)) (fun e => h7 ⟨hh, e⟩)
                        exact ⟨decide_eq_false fun e => this (.inl e), decide_eq_false fun e => this (.inr e)⟩
                      have h2le : 47 ∈ bl s → 2 ≤ valL (denL (bl s)) := fun hh => by have : ¬ valL (denL (bl s)) < 2 := fun e => h7 ⟨hh, e⟩; omega
                      have hpos : 0 < valL (denL (bl s)) := den_pos' h2le
                      have dsz : (∀ c ∈ szL (bl s), 48 ≤ c ∧ c ≤ 57) = True := eq_true h1.2.2
                      have dden : (∀ c ∈ denL (bl s), 48 ≤ c ∧ c ≤ 57) = True := eq_true h2.2.2
                      have l3 : (szL (bl s)).length ≤ 8589934592 := by omega
                      have l4 : (denL (bl s)).length ≤ 8589934592 := by omega
                      have v1' := valL_blen h1 (by omega)
                      have v2' := valL_blen h2 (by omega)
                      have v1 := Nat.le_trans v1' (show _ ≤ 34359738368 by decide)
                      have v2 := Nat.le_trans v2' (show _ ≤ 34359738368 by decide)
                      have flq : fl (qlow (sg false (valL (szL (bl s)))) (valL (denL (bl s)))) ≤ FB := by
                        rw [qlow_eq]
                        exact fl_mk (by unfold wl; rw [sg_abs]; exact Nat.le_trans v1' (by decide)) (Nat.le_trans v2' (by decide)) hpos
                      by_cases h9 : 47 ∈ bl s ∧ Nat.gcd (valL (szL (bl s))) (valL (denL (bl s))) ≠ 1
                      · rw [parF_3 hn hl ⟨h9.1, .inr h9.2⟩]
                        first
                          | exact absurd h9.1 hst'
                          | (have tx := text_no h9.1 (h2le h9.1) h9.2
                             rw [p4] at tx
                             have tx' := decide_eq_false tx
                             obtain ⟨k1, k2⟩ := k12 h9.1
                             simp (maxSteps := 1000000) only [go_sem, h00, h01, h02, htl, size_bl, hlt, hle, hle2, hle3, hle4, hw3, cA, cD, l1, l2, e0, str_eq, b8, b9', h1', h2', hz, h5, h6, k1, k2, dsz, dden, l3, l4, v1, v2, hpos, flq, tx']
                             (repeat' (first | exact Conv.refl _ | refine And.intro ?_ ?_)) <;> first | omega | decide)
                      · rw [parF_4 hn hl (by
                          rintro ⟨x1, x2⟩
                          rcases x2 with x2 | x2
                          · exact h7 ⟨x1, x2⟩
                          · exact h9 ⟨x1, x2⟩)]
                        have tx := text_of h1 (fun e => hn (.inr (.inr e))) h2 h2le (fun x1 => Decidable.byContradiction fun x2 => h9 ⟨x1, x2⟩)
                        rw [p4] at tx ⊢
                        have tx' := decide_eq_true tx
                        first
                          | (have hst2 : 47 ∈ bl s := hst'
                             obtain ⟨k1, k2⟩ := k12 hst2
                             simp (maxSteps := 1000000) only [go_sem, h00, h01, h02, htl, size_bl, hlt, hle, hle2, hle3, hle4, hw3, cA, cD, l1, l2, e0, str_eq, b8, b9', h1', h2', hz, h5, h6, k1, k2, dsz, dden, l3, l4, v1, v2, hpos, flq, tx']
                             (repeat' (first | exact Conv.refl _ | refine And.intro ?_ ?_)) <;> first | omega | decide)
                          | (simp (maxSteps := 1000000) only [go_sem, h00, h01, h02, htl, size_bl, hlt, hle, hle2, hle3, hle4, hw3, cA, cD, l1, l2, e0, str_eq, b8, b9', h1', h2', hz, h5, h6, dsz, dden, l3, l4, v1, v2, hpos, flq, tx']
                             (repeat' (first | exact Conv.refl _ | refine And.intro ?_ ?_)) <;> first | omega | decide)
            · have h2' := decide_eq_false h2
              rw [parF_1 (.inr (.inl h2))]
              simp (maxSteps := 1000000) only [go_sem, h00, h01, h02, htl, size_bl, hlt, hle, hle2, hle3, hle4, hw3, cA, cD, l1, l2, e0, str_eq, b8, b9', h1', h2']
              (repeat' (first | exact Conv.refl _ | refine And.intro ?_ ?_)) <;> first | omega | decide
          · have h1' := decide_eq_false h1
            rw [parF_1 (.inl h1)]
            simp (maxSteps := 1000000) only [go_sem, h00, h01, h02, htl, size_bl, hlt, hle, hle2, hle3, hle4, hw3, cA, cD, l1, l2, e0, str_eq, b8, b9', h1']
            (repeat' (first | exact Conv.refl _ | refine And.intro ?_ ?_)) <;> first | omega | decide
        · have hlt : ((hdL 47 tt).length < tt.length) = False := by rw [hd_lt]; exact eq_false hst
          have cD : bl ⟨#[49]⟩ = denL (bl s) := (show bl ⟨#[49]⟩ = [49] from rfl).trans (cN hst)
          have hst' : 47 ∉ bl s := fun h => hst (p3.1 h)
          have hw3 : True := trivial
          have hle2 : True := trivial
          have hle3 : True := trivial
          have hle4 : ((hdL 47 tt).length : Int) ≤ (tt.length : Int) := by omega
          have b9' : True := trivial
          have l1 : (szL (bl s)).length ≤ 1099511627776 := by omega
          have l2 : (denL (bl s)).length ≤ 1099511627776 := by omega
          by_cases h1 : okD (szL (bl s))
          · have h1' := decide_eq_true h1
            by_cases h2 : okD (denL (bl s))
            · have h2' := decide_eq_true h2
              by_cases h3 : mnL (bl s) = true ∧ szL (bl s) = [48]
              · rw [parF_1 (.inr (.inr h3))]
                have h4' := decide_eq_true h3.2
                first
                  | exact absurd (p4.symm.trans h3.1) (by decide)
                  | (simp (maxSteps := 1000000) only [go_sem, h00, h01, h02, htl, size_bl, hlt, hle, hle2, hle3, hle4, hw3, cA, cD, l1, l2, e0, str_eq, b8, b9', h1', h2', h4']
                     (repeat' (first | exact Conv.refl _ | refine And.intro ?_ ?_)) <;> first | omega | decide)
              · have hn : ¬ (¬ okD (szL (bl s)) ∨ ¬ okD (denL (bl s)) ∨ (mnL (bl s) = true ∧ szL (bl s) = [48])) := by
                  rintro (h | h | h)
                  · exact h h1
                  · exact h h2
                  · exact h3 h
                have hz := hzz h3
                by_cases h5 : 256 < (szL (bl s)).length
                · rw [parF_2 hn (.inl h5)]
                  simp (maxSteps := 1000000) only [go_sem, h00, h01, h02, htl, size_bl, hlt, hle, hle2, hle3, hle4, hw3, cA, cD, l1, l2, e0, str_eq, b8, b9', h1', h2', hz, h5]
                  (repeat' (first | exact Conv.refl _ | refine And.intro ?_ ?_)) <;> first | omega | decide
                · by_cases h6 : 256 < (denL (bl s)).length
                  · rw [parF_2 hn (.inr h6)]
                    simp (maxSteps := 1000000) only [go_sem, h00, h01, h02, htl, size_bl, hlt, hle, hle2, hle3, hle4, hw3, cA, cD, l1, l2, e0, str_eq, b8, b9', h1', h2', hz, h5, h6]
                    (repeat' (first | exact Conv.refl _ | refine And.intro ?_ ?_)) <;> first | omega | decide
                  · have hl : ¬ (256 < (szL (bl s)).length ∨ 256 < (denL (bl s)).length) := by omega
                    by_cases h7 : 47 ∈ bl s ∧ valL (denL (bl s)) < 2
                    · rw [parF_3 hn hl ⟨h7.1, .inl h7.2⟩]
                      first
                        | exact absurd h7.1 hst'
                        | (have h8 := h7.2
                           rw [den_dec h2] at h8
                           rcases h8 with h8 | h8
                           · have k1 := decide_eq_true h8
                             simp (maxSteps := 1000000) only [go_sem, h00, h01, h02, htl, size_bl, hlt, hle, hle2, hle3, hle4, hw3, cA, cD, l1, l2, e0, str_eq, b8, b9', h1', h2', hz, h5, h6, k1]
                             (repeat' (first | exact Conv.refl _ | refine And.intro ?_ ?_)) <;> first | omega | decide
                           · have k1 : decide (denL (bl s) = [48]) = false := decide_eq_false fun e => absurd (e.symm.trans h8) (by decide)
                             have k2 := decide_eq_true h8
                             simp (maxSteps := 1000000) only [go_sem, h00, h01, h02, htl, size_bl, hlt, hle, hle2, hle3, hle4, hw3, cA, cD, l1, l2, e0, str_eq, b8, b9', h1', h2', hz, h5, h6, k1, k2]
                             (repeat' (first | exact Conv.refl _ | refine And.intro ?_ ?_)) <;> first | omega | decide)
                    · have k12 : 47 ∈ bl s → decide (denL (bl s) = [48]) = false ∧ decide (denL (bl s) = [49]) = false := fun hh => by
                        have := mt (fun e : denL (bl s) = [48] ∨ denL (bl s) = [49] => (by rw [den_dec h2]; exact e : valL (denL (bl s)) < 2)) (fun e => h7 ⟨hh, e⟩)
                        exact ⟨decide_eq_false fun e => this (.inl e), decide_eq_false fun e => this (.inr e)⟩
                      have h2le : 47 ∈ bl s → 2 ≤ valL (denL (bl s)) := fun hh => by have : ¬ valL (denL (bl s)) < 2 := fun e => h7 ⟨hh, e⟩; omega
                      have hpos : 0 < valL (denL (bl s)) := den_pos' h2le
                      have dsz : (∀ c ∈ szL (bl s), 48 ≤ c ∧ c ≤ 57) = True := eq_true h1.2.2
                      have dden : (∀ c ∈ denL (bl s), 48 ≤ c ∧ c ≤ 57) = True := eq_true h2.2.2
                      have l3 : (szL (bl s)).length ≤ 8589934592 := by omega
                      have l4 : (denL (bl s)).length ≤ 8589934592 := by omega
                      have v1' := valL_blen h1 (by omega)
                      have v2' := valL_blen h2 (by omega)
                      have v1 := Nat.le_trans v1' (show _ ≤ 34359738368 by decide)
                      have v2 := Nat.le_trans v2' (show _ ≤ 34359738368 by decide)
                      have flq : fl (qlow (sg false (valL (szL (bl s)))) (valL (denL (bl s)))) ≤ FB := by
                        rw [qlow_eq]
                        exact fl_mk (by unfold wl; rw [sg_abs]; exact Nat.le_trans v1' (by decide)) (Nat.le_trans v2' (by decide)) hpos
                      by_cases h9 : 47 ∈ bl s ∧ Nat.gcd (valL (szL (bl s))) (valL (denL (bl s))) ≠ 1
                      · rw [parF_3 hn hl ⟨h9.1, .inr h9.2⟩]
                        first
                          | exact absurd h9.1 hst'
                          | (have tx := text_no h9.1 (h2le h9.1) h9.2
                             rw [p4] at tx
                             have tx' := decide_eq_false tx
                             obtain ⟨k1, k2⟩ := k12 h9.1
                             simp (maxSteps := 1000000) only [go_sem, h00, h01, h02, htl, size_bl, hlt, hle, hle2, hle3, hle4, hw3, cA, cD, l1, l2, e0, str_eq, b8, b9', h1', h2', hz, h5, h6, k1, k2, dsz, dden, l3, l4, v1, v2, hpos, flq, tx']
                             (repeat' (first | exact Conv.refl _ | refine And.intro ?_ ?_)) <;> first | omega | decide)
                      · rw [parF_4 hn hl (by
                          rintro ⟨x1, x2⟩
                          rcases x2 with x2 | x2
                          · exact h7 ⟨x1, x2⟩
                          · exact h9 ⟨x1, x2⟩)]
                        have tx := text_of h1 (fun e => hn (.inr (.inr e))) h2 h2le (fun x1 => Decidable.byContradiction fun x2 => h9 ⟨x1, x2⟩)
                        rw [p4] at tx ⊢
                        have tx' := decide_eq_true tx
                        first
                          | (have hst2 : 47 ∈ bl s := hst'
                             obtain ⟨k1, k2⟩ := k12 hst2
                             simp (maxSteps := 1000000) only [go_sem, h00, h01, h02, htl, size_bl, hlt, hle, hle2, hle3, hle4, hw3, cA, cD, l1, l2, e0, str_eq, b8, b9', h1', h2', hz, h5, h6, k1, k2, dsz, dden, l3, l4, v1, v2, hpos, flq, tx']
                             (repeat' (first | exact Conv.refl _ | refine And.intro ?_ ?_)) <;> first | omega | decide)
                          | (simp (maxSteps := 1000000) only [go_sem, h00, h01, h02, htl, size_bl, hlt, hle, hle2, hle3, hle4, hw3, cA, cD, l1, l2, e0, str_eq, b8, b9', h1', h2', hz, h5, h6, dsz, dden, l3, l4, v1, v2, hpos, flq, tx']
                             (repeat' (first | exact Conv.refl _ | refine And.intro ?_ ?_)) <;> first | omega | decide)
            · have h2' := decide_eq_false h2
              rw [parF_1 (.inr (.inl h2))]
              simp (maxSteps := 1000000) only [go_sem, h00, h01, h02, htl, size_bl, hlt, hle, hle2, hle3, hle4, hw3, cA, cD, l1, l2, e0, str_eq, b8, b9', h1', h2']
              (repeat' (first | exact Conv.refl _ | refine And.intro ?_ ?_)) <;> first | omega | decide
          · have h1' := decide_eq_false h1
            rw [parF_1 (.inl h1)]
            simp (maxSteps := 1000000) only [go_sem, h00, h01, h02, htl, size_bl, hlt, hle, hle2, hle3, hle4, hw3, cA, cD, l1, l2, e0, str_eq, b8, b9', h1']
            (repeat' (first | exact Conv.refl _ | refine And.intro ?_ ?_)) <;> first | omega | decide
      · have hkl : k < tt.length := by omega
        have hw1 := wi_pred' k (by omega)
        have hw2 := wi_pred k (by omega)
        have e1 : (((k + 1 : Nat) : Int) - 1) = (k : Int) := by omega
        have hgk := get_bl s k
        rw [ht] at hgk
        obtain ⟨st1, st2⟩ := hd_step hkl
        by_cases h47 : tt.getD k 0 = 47
        · have h47' : (tt.getD k 0 == 47) = true := by rw [h47]; rfl
          simp (maxSteps := 1000000) only [go_sem, e1, size_bl, htl, hkl, hgk, h47', hw1]
          refine ⟨k, Kept.of rfl (by rw [st1 h47]; exact (by repeat (first | exact KT.nil | refine KT.upd rfl (by first | rfl | exact hr | exact hr2 | (simp only [go_sem]; done)) ?_))) (KM.p (by repeat (first | exact KMp.nil | refine KMp.upd rfl (by first | rfl | (simp only [go_sem]; done)) ?_))), by show k ≤ _; omega, Nat.lt_succ_self _⟩
        · have h47' : (tt.getD k 0 == 47) = false := beq_eq_false_iff_ne.2 h47
          simp (maxSteps := 1000000) only [go_sem, e1, size_bl, htl, hkl, hgk, h47', hw1]
          refine ⟨k, Kept.of rfl (by rw [st2 h47]; exact (by repeat (first | exact KT.nil | refine KT.upd rfl (by first | rfl | exact hr | exact hr2 | (simp only [go_sem]; done)) ?_))) (KM.p (by repeat (first | exact KMp.nil | refine KMp.upd rfl (by first | rfl | (simp only [go_sem]; done)) ?_))), by show k ≤ _; omega, Nat.lt_succ_self _⟩
    · simp (maxSteps := 1000000) only [go_sem, size_bl, hg, hl0, hm', htl]
      have hk : tt.length ≤ (bl s).length := by rw [htt]; exact Nat.le_refl _
      have q1 : szL (bl s) = hdL 47 tt := by rw [← htt]; exact p1
      have q2 : denL (bl s) = if 47 ∈ tt then tlL 47 tt else [49] := by rw [← htt]; exact p2
      have q3 : 47 ∈ bl s ↔ 47 ∈ tt := by rw [htt]
      have hzz : ¬ (mnL (bl s) = true ∧ szL (bl s) = [48]) → True := fun _ => trivial
      have p1 := q1
      have p2 := q2
      have p3 := q3
      have cA : bl (s.extract 0 (hdL 47 tt).length) = szL (bl s) := by
        have e := bl_extract s 0 (hdL 47 tt).length
        rw [ht, List.drop_zero, Nat.sub_zero, take_hd] at e
        exact e.trans p1.symm
      have tle := tl_le 47 tt
      have hle := hd_le 47 tt
      have nle := sz_le (bl s)
      have dle := den_le (bl s)
      have cB : 47 ∈ tt → bl (s.extract ((hdL 47 tt).length + 1) tt.length) = denL (bl s) := fun h => by
        have e := bl_extract s ((hdL 47 tt).length + 1) tt.length
        rw [ht, drop_hd] at e
        refine (e.trans (List.take_of_length_le ?_)).trans (by rw [p2, if_pos h])
        have h2 := congrArg List.length (drop_hd 47 tt)
        rw [List.length_drop] at h2; omega
      have cN : 47 ∉ tt → [49] = denL (bl s) := fun h => by rw [p2, if_neg h]
      have hlen : tt.length ≤ 4294967296 := by omega
      have wl0 := wi_pred' tt.length (by omega)
      refine trX_loop HE hP.mix [0] (fun k : Nat => ⟨upd (upd (upd (upd (upd (upd (upd (fun _ => .junk) 0 (.str s)) 2 (.ref 0 0)) 3 (.int .i64 0)) 4 (.bool false)) 5 (.str s)) 6 (.int .i64 ((k + (hdL 47 (tt.drop k)).length : Nat) : Int))) 7 (.int .i64 ((k : Int) - 1)), upd (fun _ => .unused) 0 (.live [.bool false, .nils, .nils]), 102⟩)
        (fun k => k ≤ tt.length) (fun k => k) tt.length 20 (by repeat (first | exact Has.nil | refine Has.upd rfl ?_)) (Kept.of rfl (by
          have hnil : hdL 47 (tt.drop tt.length) = [] := by rw [List.drop_length]; rfl
          rw [wl0, hnil, List.length_nil, Nat.add_zero]
          exact (by repeat (first | exact KT.nil | refine KT.upd rfl (by first | rfl | exact hr | exact hr2 | (simp only [go_sem]; done)) ?_))) (KM.p (by repeat (first | exact KMp.nil | refine KMp.upd rfl (by first | rfl | (simp only [go_sem]; done)) ?_)))) (Nat.le_refl _) 102 (by kernel_rfl) ?_
      intro k hk0
      have hk0 : k ≤ tt.length := hk0
      rcases k with _ | k
      · have h00 : ((0 : Int) ≤ ((0 : Nat) : Int) - 1) = False := eq_false (by decide)
        have h01 : ((0 : Int) ≤ 0 - 1) = False := eq_false (by decide)
        have h02 : ((0 : Int) ≤ -1) = False := eq_false (by decide)
        by_cases hst : 47 ∈ tt
        · have hlt : ((hdL 47 tt).length < tt.length) = True := by rw [hd_lt]; exact eq_true hst
          have hnl : (hdL 47 tt).length < tt.length := by rw [hlt]; trivial
          have cD := cB hst
          have hst' : 47 ∈ bl s := p3.2 hst
          have hw3 := wi_add1 (hdL 47 tt).length (by omega)
          have hle2 : ((hdL 47 tt).length + 1 ≤ tt.length) = True := eq_true hnl
          have hle3 : (((hdL 47 tt).length + 1 : Nat) : Int) ≤ (tt.length : Int) := by omega
          have hle4 : ((hdL 47 tt).length : Int) ≤ (tt.length : Int) := by omega
          have b9' := b9
          have l1 : (szL (bl s)).length ≤ 1099511627776 := by omega
          have l2 : (denL (bl s)).length ≤ 1099511627776 := by omega
          by_cases h1 : okD (szL (bl s))
          · have h1' := decide_eq_true h1
            by_cases h2 : okD (denL (bl s))
            · have h2' := decide_eq_true h2
              by_cases h3 : mnL (bl s) = true ∧ szL (bl s) = [48]
              · rw [parF_1 (.inr (.inr h3))]
                have h4' := decide_eq_true h3.2
                first
                  | exact absurd (p4.symm.trans h3.1) (by decide)
                  | (simp (maxSteps := 1000000) only [go_sem, h00, h01, h02, htl, size_bl, hlt, hle, hle2, hle3, hle4, hw3, cA, cD, l1, l2, e0, str_eq, b8, b9', h1', h2', h4']
                     (repeat' (first | exact Conv.refl _ | refine And.intro ?_ ?_)) <;> first | omega | decide)
              · have hn : ¬ (¬ okD (szL (bl s)) ∨ ¬ okD (denL (bl s)) ∨ (mnL (bl s) = true ∧ szL (bl s) = [48])) := by
                  rintro (h | h | h)
                  · exact h h1
                  · exact h h2
                  · exact h3 h
                have hz := hzz h3
                by_cases h5 : 256 < (szL (bl s)).length
                · rw [parF_2 hn (.inl h5)]
                  simp (maxSteps := 1000000) only [go_sem, h00, h01, h02, htl, size_bl, hlt, hle, hle2, hle3, hle4, hw3, cA, cD, l1, l2, e0, str_eq, b8, b9', h1', h2', hz, h5]
                  (repeat' (first | exact Conv.refl _ | refine And.intro ?_ ?_)) <;> first | omega | decide
                · by_cases h6 : 256 < (denL (bl s)).length
                  · rw [parF_2 hn (.inr h6)]
                    simp (maxSteps := 1000000) only [go_sem, h00, h01, h02, htl, size_bl, hlt, hle, hle2, hle3, hle4, hw3, cA, cD, l1, l2, e0, str_eq, b8, b9', h1', h2', hz, h5, h6]
                    (repeat' (first | exact Conv.refl _ | refine And.intro ?_ ?_)) <;> first | omega | decide
                  · have hl : ¬ (256 < (szL (bl s)).length ∨ 256 < (denL (bl s)).length) := by omega
                    by_cases h7 : 47 ∈ bl s ∧ valL (denL (bl s)) < 2
                    · rw [parF_3 hn hl ⟨h7.1, .inl h7.2⟩]
                      first
                        | exact absurd h7.1 hst'
                        | (have h8 := h7.2
                           rw [den_dec h2] at h8
                           rcases h8 with h8 | h8
                           · have k1 := decide_eq_true h8
                             simp (maxSteps := 1000000) only [go_sem, h00, h01, h02, htl, size_bl, hlt, hle, hle2, hle3, hle4, hw3, cA, cD, l1, l2, e0, str_eq, b8, b9', h1', h2', hz, h5, h6, k1]
                             (repeat' (first | exact Conv.refl _ | refine And.intro ?_ ?_)) <;> first | omega | decide
                           · have k1 : decide (denL (bl s) = [48]) = false := decide_eq_false fun e => absurd (e.symm.trans h8) (by decide)
                             have k2 := decide_eq_true h8
                             simp (maxSteps := 1000000) only [go_sem, h00, h01, h02, htl, size_bl, hlt, hle, hle2, hle3, hle4, hw3, cA, cD, l1, l2, e0, str_eq, b8, b9', h1', h2', hz, h5, h6, k1, k2]
                             (repeat' (first | exact Conv.refl _ | refine And.intro ?_ ?_)) <;> first | omega | decide)
                    · have k12 : 47 ∈ bl s → decide (denL (bl s) = [48]) = false ∧ decide (denL (bl s) = [49]) = false := fun hh => by
                        have := mt (fun e : denL (bl s) = [48] ∨ denL (bl s) = [49] => (by rw [den_dec h2]; exact e : valL (denL (bl s)) < 2)) (fun e => h7 ⟨hh, e⟩)
                        exact ⟨decide_eq_false fun e => this (.inl e), decide_eq_false fun e => this (.inr e)⟩
                      have h2le : 47 ∈ bl s → 2 ≤ valL (denL (bl s)) := fun hh => by have : ¬ valL (denL (bl s)) < 2 := fun e => h7 ⟨hh, e⟩; omega
                      have hpos : 0 < valL (denL (bl s)) := den_pos' h2le
                      have dsz : (∀ c ∈ szL (bl s), 48 ≤ c ∧ c ≤ 57) = True := eq_true h1.2.2
                      have dden : (∀ c ∈ denL (bl s), 48 ≤ c ∧ c ≤ 57) = True := eq_true h2.2.2
                      have l3 : (szL (bl s)).length ≤ 8589934592 := by omega
                      have l4 : (denL (bl s)).length ≤ 8589934592 := by omega
                      have v1' := valL_blen h1 (by omega)
                      have v2' := valL_blen h2 (by omega)
                      have v1 := Nat.le_trans v1' (show _ ≤ 34359738368 by decide)
                      have v2 := Nat.le_trans v2' (show _ ≤ 34359738368 by decide)
                      have flq : fl (qlow (sg false (valL (szL (bl s)))) (valL (denL (bl s)))) ≤ FB := by
                        rw [qlow_eq]
                        exact fl_mk (by unfold wl; rw [sg_abs]; exact Nat.le_trans v1' (by decide)) (Nat.le_trans v2' (by decide)) hpos
                      by_cases h9 : 47 ∈ bl s ∧ Nat.gcd (valL (szL (bl s))) (valL (denL (bl s))) ≠ 1
                      · rw [parF_3 hn hl ⟨h9.1, .inr h9.2⟩]
                        first
                          | exact absurd h9.1 hst'
                          | (have tx := text_no h9.1 (h2le h9.1) h9.2
                             rw [p4] at tx
                             have tx' := decide_eq_false tx
                             obtain ⟨k1, k2⟩ := k12 h9.1
                             simp (maxSteps := 1000000) only [go_sem, h00, h01, h02, htl, size_bl, hlt, hle, hle2, hle3, hle4, hw3, cA, cD, l1, l2, e0, str_eq, b8, b9', h1', h2', hz, h5, h6, k1, k2, dsz, dden, l3, l4, v1, v2, hpos, flq, tx']
                             (repeat' (first | exact Conv.refl _ | refine And.intro ?_ ?_)) <;> first | omega | decide)
                      · rw [parF_4 hn hl (by
                          rintro ⟨x1, x2⟩
                          rcases x2 with x2 | x2
                          · exact h7 ⟨x1, x2⟩
                          · exact h9 ⟨x1, x2⟩)]
                        have tx := text_of h1 (fun e => hn (.inr (.inr e))) h2 h2le (fun x1 => Decidable.byContradiction fun x2 => h9 ⟨x1, x2⟩)
                        rw [p4] at tx ⊢
                        have tx' := decide_eq_true tx
                        first
                          | (have hst2 : 47 ∈ bl s := hst'
                             obtain ⟨k1, k2⟩ := k12 hst2
                             simp (maxSteps := 1000000) only [go_sem, h00, h01, h02, htl, size_bl, hlt, hle, hle2, hle3, hle4, hw3, cA, cD, l1, l2, e0, str_eq, b8, b9', h1', h2', hz, h5, h6, k1, k2, dsz, dden, l3, l4, v1, v2, hpos, flq, tx']
                             (repeat' (first | exact Conv.refl _ | refine And.intro ?_ ?_)) <;> first | omega | decide)
                          | (simp (maxSteps := 1000000) only [go_sem, h00, h01, h02, htl, size_bl, hlt, hle, hle2, hle3, hle4, hw3, cA, cD, l1, l2, e0, str_eq, b8, b9', h1', h2', hz, h5, h6, dsz, dden, l3, l4, v1, v2, hpos, flq, tx']
                             (repeat' (first | exact Conv.refl _ | refine And.intro ?_ ?_)) <;> first | omega | decide)
            · have h2' := decide_eq_false h2
              rw [parF_1 (.inr (.inl h2))]
              simp (maxSteps := 1000000) only [go_sem, h00, h01, h02, htl, size_bl, hlt, hle, hle2, hle3, hle4, hw3, cA, cD, l1, l2, e0, str_eq, b8, b9', h1', h2']
              (repeat' (first | exact Conv.refl _ | refine And.intro ?_ ?_)) <;> first | omega | decide
          · have h1' := decide_eq_false h1
            rw [parF_1 (.inl h1)]
            simp (maxSteps := 1000000) only [go_sem, h00, h01, h02, htl, size_bl, hlt, hle, hle2, hle3, hle4, hw3, cA, cD, l1, l2, e0, str_eq, b8, b9', h1']
            (repeat' (first | exact Conv.refl _ | refine And.intro ?_ ?_)) <;> first | omega | decide
        · have hlt : ((hdL 47 tt).length < tt.length) = False := by rw [hd_lt]; exact eq_false hst
          have cD : bl ⟨#[49]⟩ = denL (bl s) := (show bl ⟨#[49]⟩ = [49] from rfl).trans (cN hst)
          have hst' : 47 ∉ bl s := fun h => hst (p3.1 h)
          have hw3 : True := trivial
          have hle2 : True := trivial
          have hle3 : True := trivial
          have hle4 : ((hdL 47 tt).length : Int) ≤ (tt.length : Int) := by omega
          have b9' : True := trivial
          have l1 : (szL (bl s)).length ≤ 1099511627776 := by omega
          have l2 : (denL (bl s)).length ≤ 1099511627776 := by omega
          by_cases h1 : okD (szL (bl s))
          · have h1' := decide_eq_true h1
            by_cases h2 : okD (denL (bl s))
            · have h2' := decide_eq_true h2
              by_cases h3 : mnL (bl s) = true ∧ szL (bl s) = [48]
              · rw [parF_1 (.inr (.inr h3))]
                have h4' := decide_eq_true h3.2
                first
                  | exact absurd (p4.symm.trans h3.1) (by decide)
                  | (simp (maxSteps := 1000000) only [go_sem, h00, h01, h02, htl, size_bl, hlt, hle, hle2, hle3, hle4, hw3, cA, cD, l1, l2, e0, str_eq, b8, b9', h1', h2', h4']
                     (repeat' (first | exact Conv.refl _ | refine And.intro ?_ ?_)) <;> first | omega | decide)
              · have hn : ¬ (¬ okD (szL (bl s)) ∨ ¬ okD (denL (bl s)) ∨ (mnL (bl s) = true ∧ szL (bl s) = [48])) := by
                  rintro (h | h | h)
                  · exact h h1
                  · exact h h2
                  · exact h3 h
                have hz := hzz h3
                by_cases h5 : 256 < (szL (bl s)).length
                · rw [parF_2 hn (.inl h5)]
                  simp (maxSteps := 1000000) only [go_sem, h00, h01, h02, htl, size_bl, hlt, hle, hle2, hle3, hle4, hw3, cA, cD, l1, l2, e0, str_eq, b8, b9', h1', h2', hz, h5]
                  (repeat' (first | exact Conv.refl _ | refine And.intro ?_ ?_)) <;> first | omega | decide
                · by_cases h6 : 256 < (denL (bl s)).length
                  · rw [parF_2 hn (.inr h6)]
                    simp (maxSteps := 1000000) only [go_sem, h00, h01, h02, htl, size_bl, hlt, hle, hle2, hle3, hle4, hw3, cA, cD, l1, l2, e0, str_eq, b8, b9', h1', h2', hz, h5, h6]
                    (repeat' (first | exact Conv.refl _ | refine And.intro ?_ ?_)) <;> first | omega | decide
                  · have hl : ¬ (256 < (szL (bl s)).length ∨ 256 < (denL (bl s)).length) := by omega
                    by_cases h7 : 47 ∈ bl s ∧ valL (denL (bl s)) < 2
                    · rw [parF_3 hn hl ⟨h7.1, .inl h7.2⟩]
                      first
                        | exact absurd h7.1 hst'
                        | (have h8 := h7.2
                           rw [den_dec h2] at h8
                           rcases h8 with h8 | h8
                           · have k1 := decide_eq_true h8
                             simp (maxSteps := 1000000) only [go_sem, h00, h01, h02, htl, size_bl, hlt, hle, hle2, hle3, hle4, hw3, cA, cD, l1, l2, e0, str_eq, b8, b9', h1', h2', hz, h5, h6, k1]
                             (repeat' (first | exact Conv.refl _ | refine And.intro ?_ ?_)) <;> first | omega | decide
                           · have k1 : decide (denL (bl s) = [48]) = false := decide_eq_false fun e => absurd (e.symm.trans h8) (by decide)
                             have k2 := decide_eq_true h8
                             simp (maxSteps := 1000000) only [go_sem, h00, h01, h02, htl, size_bl, hlt, hle, hle2, hle3, hle4, hw3, cA, cD, l1, l2, e0, str_eq, b8, b9', h1', h2', hz, h5, h6, k1, k2]
                             (repeat' (first | exact Conv.refl _ | refine And.intro ?_ ?_)) <;> first | omega | decide)
                    · have k12 : 47 ∈ bl s → decide (denL (bl s) = [48]) = false ∧ decide (denL (bl s) = [49]) = false := fun hh => by
                        have := mt (fun e : denL (bl s) = [48] ∨ denL (bl s) = [49] => (by rw [den_dec h2]; exact e : valL (denL (bl s)) < 2)) (fun e => h7 ⟨hh, e⟩)
                        exact ⟨decide_eq_false fun e => this (.inl e), decide_eq_false fun e => this (.inr e)⟩
                      have h2le : 47 ∈ bl s → 2 ≤ valL (denL (bl s)) := fun hh => by have : ¬ valL (denL (bl s)) < 2 := fun e => h7 ⟨hh, e⟩; omega
                      have hpos : 0 < valL (denL (bl s)) := den_pos' h2le
                      have dsz : (∀ c ∈ szL (bl s), 48 ≤ c ∧ c ≤ 57) = True := eq_true h1.2.2
                      have dden : (∀ c ∈ denL (bl s), 48 ≤ c ∧ c ≤ 57) = True := eq_true h2.2.2
                      have l3 : (szL (bl s)).length ≤ 8589934592 := by omega
                      have l4 : (denL (bl s)).length ≤ 8589934592 := by omega
                      have v1' := valL_blen h1 (by omega)
                      have v2' := valL_blen h2 (by omega)
                      have v1 := Nat.le_trans v1' (show _ ≤ 34359738368 by decide)
                      have v2 := Nat.le_trans v2' (show _ ≤ 34359738368 by decide)
                      have flq : fl (qlow (sg false (valL (szL (bl s)))) (valL (denL (bl s)))) ≤ FB := by
                        rw [qlow_eq]
                        exact fl_mk (by unfold wl; rw [sg_abs]; exact Nat.le_trans v1' (by decide)) (Nat.le_trans v2' (by decide)) hpos
                      by_cases h9 : 47 ∈ bl s ∧ Nat.gcd (valL (szL (bl s))) (valL (denL (bl s))) ≠ 1
                      · rw [parF_3 hn hl ⟨h9.1, .inr h9.2⟩]
                        first
                          | exact absurd h9.1 hst'
                          | (have tx := text_no h9.1 (h2le h9.1) h9.2
                             rw [p4] at tx
                             have tx' := decide_eq_false tx
                             obtain ⟨k1, k2⟩ := k12 h9.1
                             simp (maxSteps := 1000000) only [go_sem, h00, h01, h02, htl, size_bl, hlt, hle, hle2, hle3, hle4, hw3, cA, cD, l1, l2, e0, str_eq, b8, b9', h1', h2', hz, h5, h6, k1, k2, dsz, dden, l3, l4, v1, v2, hpos, flq, tx']
                             (repeat' (first | exact Conv.refl _ | refine And.intro ?_ ?_)) <;> first | omega | decide)
                      · rw [parF_4 hn hl (by
                          rintro ⟨x1, x2⟩
                          rcases x2 with x2 | x2
                          · exact h7 ⟨x1, x2⟩
                          · exact h9 ⟨x1, x2⟩)]
                        have tx := text_of h1 (fun e => hn (.inr (.inr e))) h2 h2le (fun x1 => Decidable.byContradiction fun x2 => h9 ⟨x1, x2⟩)
                        rw [p4] at tx ⊢
                        have tx' := decide_eq_true tx
                        first
                          | (have hst2 : 47 ∈ bl s := hst'
                             obtain ⟨k1, k2⟩ := k12 hst2
                             simp (maxSteps := 1000000) only [go_sem, h00, h01, h02, htl, size_bl, hlt, hle, hle2, hle3, hle4, hw3, cA, cD, l1, l2, e0, str_eq, b8, b9', h1', h2', hz, h5, h6, k1, k2, dsz, dden, l3, l4, v1, v2, hpos, flq, tx']
                             (repeat' (first | exact Conv.refl _ | refine And.intro ?_ ?_)) <;> first | omega | decide)
                          | (simp (maxSteps := 1000000) only [go_sem, h00, h01, h02, htl, size_bl, hlt, hle, hle2, hle3, hle4, hw3, cA, cD, l1, l2, e0, str_eq, b8, b9', h1', h2', hz, h5, h6, dsz, dden, l3, l4, v1, v2, hpos, flq, tx']
                             (repeat' (first | exact Conv.refl _ | refine And.intro ?_ ?_)) <;> first | omega | decide)
            · have h2' := decide_eq_false h2
              rw [parF_1 (.inr (.inl h2))]
              simp (maxSteps := 1000000) only [go_sem, h00, h01, h02, htl, size_bl, hlt, hle, hle2, hle3, hle4, hw3, cA, cD, l1, l2, e0, str_eq, b8, b9', h1', h2']
              (repeat' (first | exact Conv.refl _ | refine And.intro ?_ ?_)) <;> first | omega | decide
          · have h1' := decide_eq_false h1
            rw [parF_1 (.inl h1)]
            simp (maxSteps := 1000000) only [go_sem, h00, h01, h02, htl, size_bl, hlt, hle, hle2, hle3, hle4, hw3, cA, cD, l1, l2, e0, str_eq, b8, b9', h1']
            (repeat' (first | exact Conv.refl _ | refine And.intro ?_ ?_)) <;> first | omega | decide
      · have hkl : k < tt.length := by omega
        have hw1 := wi_pred' k (by omega)
        have hw2 := wi_pred k (by omega)
        have e1 : (((k + 1 : Nat) : Int) - 1) = (k : Int) := by omega
        have hgk := get_bl s k
        rw [ht] at hgk
        obtain ⟨st1, st2⟩ := hd_step hkl
        by_cases h47 : tt.getD k 0 = 47
        · have h47' : (tt.getD k 0 == 47) = true := by rw [h47]; rfl
          simp (maxSteps := 1000000) only [go_sem, e1, size_bl, htl, hkl, hgk, h47', hw1]
          refine ⟨k, Kept.of rfl (by rw [st1 h47]; exact (by repeat (first | exact KT.nil | refine KT.upd rfl (by first | rfl | exact hr | exact hr2 | (simp only [go_sem]; done)) ?_))) (KM.p (by repeat (first | exact KMp.nil | refine KMp.upd rfl (by first | rfl | (simp only [go_sem]; done)) ?_))), by show k ≤ _; omega, Nat.lt_succ_self _⟩
        · have h47' : (tt.getD k 0 == 47) = false := beq_eq_false_iff_ne.2 h47
          simp (maxSteps := 1000000) only [go_sem, e1, size_bl, htl, hkl, hgk, h47', hw1]
          refine ⟨k, Kept.of rfl (by rw [st2 h47]; exact (by repeat (first | exact KT.nil | refine KT.upd rfl (by first | rfl | exact hr | exact hr2 | (simp only [go_sem]; done)) ?_))) (KM.p (by repeat (first | exact KMp.nil | refine KMp.upd rfl (by first | rfl | (simp only [go_sem]; done)) ?_))), by show k ≤ _; omega, Nat.lt_succ_self _⟩
def rParse3S0 : Nat := 0
noncomputable def rParse3S : List AV → Option (Prop × AV)
  | [.str s] => some ((bl s).length ≤ 4294967296, .tup [(.agg [.opq (.rfrac ((parF (bl s)).1)), .pad, .pad]), .int .i64 (parF (bl s)).2])
  | _ => none
theorem rParse3S_ok (hP : PrgOk P) (args p r) (h : rParse3S args = some (p, r)) (hp : p) : CSpec P 45 args r := by
  unfold rParse3S at h
  split at h
  · simp only [Option.some.injEq, Prod.mk.injEq] at h
    obtain ⟨rfl, rfl⟩ := h
    exact rParse3_spec hP _ hp
  · simp at h
attribute [go_sem] rParse3S
end Go.Proofs.YtjnhekedclcbfaaGreatDoor.AM
/- The statements of layer 3: their helpers. -/
namespace Go.Proofs.YtjnhekedclcbfaaGreatDoor.AM
set_option linter.all false
set_option autoImplicit true
set_option relaxedAutoImplicit true
open Go Go.Proofs
set_option maxRecDepth 100000
set_option maxHeartbeats 8000000
set_option linter.unusedSimpArgs false
variable {P : Program}

theorem beyond3_spec (hP : PrgOk P) (l : List ByteArray) (hl : l.length ≤ 1099511627776) : CSpec P 8 [.imm l.length (l.map .str)] (.bool (l.any fun s => decide (2048 < s.size))) := by
  have HE := Sh_ok hP
  refine CSpec_vc (E := ⟨T0, Sh⟩) (fn8 hP) HE hP.mix rfl (by first | rfl | (simp only [go_sem]; done)) (by first | rfl | (simp only [go_sem]; done)) (Nat.le_of_ble_eq_true rfl) ?_
  simp (maxSteps := 1000000) only [go_sem]
  refine trX_loop HE hP.mix [] (fun i : Nat => ⟨upd (upd (upd (upd (fun _ => .junk) 0 (.imm l.length (l.map .str))) 2 (.bool false)) 5 (.int .i64 (l.length : Int))) 6 (.int .i64 (i : Int)), fun _ => .unused, 16⟩)
    (fun i => i ≤ l.length ∧ ∀ j, j < i → (l.getD j ⟨#[]⟩).size ≤ 2048) (fun i => l.length - i) 0 20 (by repeat (first | exact Has.nil | refine Has.upd rfl ?_)) (Kept.of rfl (by repeat (first | exact KT.nil | refine KT.upd rfl (by first | rfl | exact hr | exact hr2 | (simp only [go_sem]; done)) ?_)) (KM.p (by repeat (first | exact KMp.nil | refine KMp.upd rfl (by first | rfl | (simp only [go_sem]; done)) ?_)))) ⟨Nat.zero_le _, fun j hj => absurd hj (Nat.not_lt_zero _)⟩ 16 (by kernel_rfl) ?_
  rintro i ⟨q1, q2⟩
  by_cases hi : i < l.length
  · have hwi := wi_add1 i (by omega)
    by_cases hb : 2048 < (l.getD i ⟨#[]⟩).size
    · simp (maxSteps := 1000000) only [go_sem, hi, hb, strs_get hi, hwi]
      have e : (l.any fun s => decide (2048 < s.size)) = true := List.any_eq_true.2 ⟨l.getD i ⟨#[]⟩, by rw [List.getD_eq_getElem?_getD, List.getElem?_eq_getElem hi]; exact List.getElem_mem hi, by simpa using hb⟩
      rw [e]; exact ⟨by omega, .refl _⟩
    · simp (maxSteps := 1000000) only [go_sem, hi, hb, strs_get hi, hwi]
      exact ⟨by omega, i + 1, Kept.of rfl (by repeat (first | exact KT.nil | refine KT.upd rfl (by first | rfl | exact hr | exact hr2 | (simp only [go_sem]; done)) ?_)) (KM.p (by repeat (first | exact KMp.nil | refine KMp.upd rfl (by first | rfl | (simp only [go_sem]; done)) ?_))), ⟨by omega, fun j hj => by
        rcases Nat.lt_or_ge j i with h | h
        · exact q2 j h
        · rw [show j = i by omega]; omega⟩, by omega⟩
  · simp (maxSteps := 1000000) only [go_sem, hi]
    have e : (l.any fun s => decide (2048 < s.size)) = false := List.any_eq_false.2 fun s hs => by
      obtain ⟨j, hj, rfl⟩ := List.getElem_of_mem hs
      have := q2 j (by omega)
      rw [List.getD_eq_getElem?_getD, List.getElem?_eq_getElem hj] at this
      simpa using this
    rw [e]; exact .refl _
def beyond3S : List AV → Option (Prop × AV)
  | [.imm 1 [.str a]] => some (True, .bool (decide (2048 < a.size)))
  | [.imm 2 [.str a, .str b]] => some (True, .bool (decide (2048 < a.size) || decide (2048 < b.size)))
  | [.imm 3 [.str a, .str b, .str c]] => some (True, .bool (decide (2048 < a.size) || decide (2048 < b.size) || decide (2048 < c.size)))
  | _ => none
theorem beyond3S_ok (hP : PrgOk P) (args p r) (h : beyond3S args = some (p, r)) (hp : p) : CSpec P 8 args r := by
  unfold beyond3S at h
  split at h
  · rename_i a
    simp only [Option.some.injEq, Prod.mk.injEq] at h
    obtain ⟨_, rfl⟩ := h
    have := beyond3_spec hP [a] (by simp)
    simpa using this
  · rename_i a b
    simp only [Option.some.injEq, Prod.mk.injEq] at h
    obtain ⟨_, rfl⟩ := h
    have := beyond3_spec hP [a, b] (by simp)
    simpa using this
  · rename_i a b c
    simp only [Option.some.injEq, Prod.mk.injEq] at h
    obtain ⟨_, rfl⟩ := h
    have := beyond3_spec hP [a, b, c] (by simp)
    simpa [Bool.or_assoc] using this
  · simp at h
attribute [go_sem] beyond3S
/-- A text that is written down. -/
theorem lit_text {q : Rat} {s : ByteArray} (l : List Nat) (hb : bl s = l) (h1 : okD (szL l)) (h2 : ¬ (mnL l = true ∧ szL l = [48])) (h3 : okD (denL l)) (h4 : 47 ∈ l → 2 ≤ valL (denL l)) (h5 : 47 ∈ l → Nat.gcd (valL (szL l)) (valL (denL l)) = 1) (hq : q = mkRat (sg (mnL l) (valL (szL l))) (valL (denL l))) : ((qtS q).toList == s.toList) = true := by
  rw [str_eq]
  refine decide_eq_true ?_
  rw [hq, ← qlow_eq, text_of h1 h2 h3 h4 h5, hb]
theorem works3_spec (hP : PrgOk P) : CSpec P 7 [] (.bool true) := by
  have HE := Lt5_all hP TF hP.tF
  obtain ⟨A, hA⟩ : ∃ A, qdiv ((6 : Int) : Rat) ((-4 : Int) : Rat) = A := ⟨_, rfl⟩
  have hA' : A = mkRat (-3) 2 := by rw [← hA, qdiv_eq]; decide +kernel
  have w1 : bl ⟨#[48, 46, 53, 48]⟩ = [48, 46, 53, 48] := rfl
  obtain ⟨B, hB⟩ : ∃ B, qlow 50 100 = B := ⟨_, rfl⟩
  have w2 : litF [48, 46, 53, 48] = (B, 0) := by rw [← hB]; exact litF_3 (by decide) (by decide)
  have hB' : B = mkRat 1 2 := by rw [← hB, qlow_eq]; decide +kernel
  have t1 : ((qtS A).toList == (ByteArray.mk #[45, 51, 47, 50]).toList) = true := lit_text [45, 51, 47, 50] rfl (by decide) (by decide) (by decide) (by decide) (by decide) (by rw [hA']; decide +kernel)
  have t2 : ((qtS B).toList == (ByteArray.mk #[49, 47, 50]).toList) = true := lit_text [49, 47, 50] rfl (by decide) (by decide) (by decide) (by decide) (by decide) (by rw [hB']; decide +kernel)
  have t3 : ((qtS (qadd A B)).toList == (ByteArray.mk #[45, 49]).toList) = true := lit_text [45, 49] rfl (by decide) (by decide) (by decide) (by decide) (by decide) (by rw [qadd_eq, hA', hB']; decide +kernel)
  have t4 : ((itS (flo A)).toList == (ByteArray.mk #[45, 50]).toList) = true := by
    rw [show flo A = -2 by rw [hA']; decide +kernel]
    exact itS_lit (parW_neg (d := [50]) ⟨by decide, by decide, by decide⟩ (by decide) rfl (by decide))
  have c1 : cmpQ A B = -1 := by rw [hA', hB']; decide +kernel
  have b0 : ((-4 : Int) = 0) = False := by decide
  have fA : fl A ≤ 8 := by rw [hA']; decide +kernel
  have fB : fl B ≤ 8 := by rw [hB']; decide +kernel
  have fA2 : fl A ≤ FB := Nat.le_trans fA (by decide)
  have fB2 : fl B ≤ FB := Nat.le_trans fB (by decide)
  have f0 : fl 0 ≤ FB := fl_zero _
  have fs : fl (qadd A B) ≤ FB := Nat.le_trans (fl_qadd fA fB) (by decide)
  have wf : wl (flo A) ≤ 68719476736 := Nat.le_trans (flo_wl (fl_num fA)) (by decide)
  refine CSpec_vc (E := ⟨TF, Lt5⟩) (fn7 hP) HE hP.mix rfl (by first | rfl | (simp only [go_sem]; done)) (by first | rfl | (simp only [go_sem]; done)) (Nat.le_of_ble_eq_true rfl) ?_
  simp (maxSteps := 1000000) only [go_sem, hA, w1, w2, t1, t2, t3, t4, c1, b0, fA2, fB2, f0, fs, wf]
  (repeat' (first | exact Conv.refl _ | refine And.intro ?_ ?_)) <;> first | omega | decide
def works3S : List AV → Option (Prop × AV)
  | [] => some (True, .bool true)
  | _ => none
theorem works3S_ok (hP : PrgOk P) (args p r) (h : works3S args = some (p, r)) (hp : p) : CSpec P 7 args r := by
  unfold works3S at h
  split at h
  · simp only [Option.some.injEq, Prod.mk.injEq] at h
    obtain ⟨rfl, rfl⟩ := h
    exact works3_spec hP
  · simp at h
attribute [go_sem] works3S
noncomputable def Jt0 : Nat → List AV → Option (Prop × AV) := addS (addS (addS (addS (addS (addS (addS (addS (addS (addS (addS (addS (addS (addS (addS (addS Lt5 10 rOneS) 29 rNegS) 27 rSignS) 22 rWholeS) 31 rAdd3S) 35 rMul3S) 39 rDiv3S) 41 rFloS) 46 rText3S) 15 rMake3S) 20 rInt3S) 33 rSub3S) 37 rCmp3S) 45 rParse3S) 8 beyond3S) 7 works3S
theorem Jt0_all (hP : PrgOk P) (T) (hT : TyOk P T) : EnvOk P ⟨T, Jt0⟩ := (((((((((((((((((Lt5_all hP T hT).add (rOneS_ok hP)).add (rNegS_ok hP)).add (rSignS_ok hP)).add (rWholeS_ok hP)).add (rAdd3S_ok hP)).add (rMul3S_ok hP)).add (rDiv3S_ok hP)).add (rFloS_ok hP)).add (rText3S_ok hP)).add (rMake3S_ok hP)).add (rInt3S_ok hP)).add (rSub3S_ok hP)).add (rCmp3S_ok hP)).add (rParse3S_ok hP)).add (beyond3S_ok hP)).add (works3S_ok hP))
theorem Jt0_at (f a) : Jt0 f a = (addS (addS (addS (addS (addS (addS (addS (addS (addS (addS (addS (addS (addS (addS (addS (addS Lt5 10 rOneS) 29 rNegS) 27 rSignS) 22 rWholeS) 31 rAdd3S) 35 rMul3S) 39 rDiv3S) 41 rFloS) 46 rText3S) 15 rMake3S) 20 rInt3S) 33 rSub3S) 37 rCmp3S) 45 rParse3S) 8 beyond3S) 7 works3S) f a := rfl
attribute [go_sem] Jt0_at
theorem read_spec (hP : PrgOk P) (s : ByteArray) (hs : (bl s).length ≤ 4294967296) : CSpec P 9 [.str s] (.tup [(.agg [.opq (.frac ((parF (bl s)).1)), .pad, .pad, .pad, .pad]), (.agg [.bool (decide (((parF (bl s)).1).num < 0)), (.imm (digs 65536 (((parF (bl s)).1).num.natAbs)).length (List.map (fun d : Nat => AV.int .u32 (d : Int)) (digs 65536 (((parF (bl s)).1).num.natAbs)))), (.imm (digs 65536 (((parF (bl s)).1).den)).length (List.map (fun d : Nat => AV.int .u32 (d : Int)) (digs 65536 (((parF (bl s)).1).den))))]), .bool true]) := by
  have HE := Jt0_all hP TF hP.tF
  refine CSpec.conv (r := .tup [(.agg [.opq (.frac ((parF (bl s)).1)), .pad, .pad, .pad, .pad]), (.agg [.opq (.rfrac ((parF (bl s)).1)), .pad, .pad]), .bool true]) ?_ (CvL.conv (CvL.tup (.agg (.refl _) (.rfIn _ (.refl _))) .nil))
  have h1 : (bl s).length ≤ 549755813888 := by omega
  have h2 : fl (parF (bl s)).1 ≤ FB := Nat.le_trans (parF_fl _) (by decide)
  refine CSpec_vc (E := ⟨TF, Jt0⟩) (fn9 hP) HE hP.mix rfl (by first | rfl | (simp only [go_sem]; done)) (by first | rfl | (simp only [go_sem]; done)) (Nat.le_of_ble_eq_true rfl) ?_
  simp (maxSteps := 1000000) only [go_sem, hs, h1, h2, beq_self_eq_true, qtS_eq]
  (repeat' (first | exact Conv.refl _ | refine And.intro ?_ ?_)) <;> first | omega | decide
noncomputable def readS : List AV → Option (Prop × AV)
  | [.str s] => some ((bl s).length ≤ 4294967296, .tup [(.agg [.opq (.frac ((parF (bl s)).1)), .pad, .pad, .pad, .pad]), (.agg [.bool (decide (((parF (bl s)).1).num < 0)), (.imm (digs 65536 (((parF (bl s)).1).num.natAbs)).length (List.map (fun d : Nat => AV.int .u32 (d : Int)) (digs 65536 (((parF (bl s)).1).num.natAbs)))), (.imm (digs 65536 (((parF (bl s)).1).den)).length (List.map (fun d : Nat => AV.int .u32 (d : Int)) (digs 65536 (((parF (bl s)).1).den))))]), .bool true])
  | _ => none
theorem readS_ok (hP : PrgOk P) (args p r) (h : readS args = some (p, r)) (hp : p) : CSpec P 9 args r := by
  unfold readS at h
  split at h
  · simp only [Option.some.injEq, Prod.mk.injEq] at h
    obtain ⟨rfl, rfl⟩ := h
    exact read_spec hP _ hp
  · simp at h
theorem tells3_spec (hP : PrgOk P) (a b : Rat) (ha : fl a ≤ FB) (hb : fl b ≤ FB) : CSpec P 14 [(.agg [.opq (.frac (a)), .pad, .pad, .pad, .pad]), (.agg [.opq (.rfrac (b)), .pad, .pad])] (.bool (decide (a = b))) := by
  have HE := Jt0_all hP TF hP.tF
  refine CSpec_vc (E := ⟨TF, Jt0⟩) (fn14 hP) HE hP.mix rfl (by first | rfl | (simp only [go_sem]; done)) (by first | rfl | (simp only [go_sem]; done)) (Nat.le_of_ble_eq_true rfl) ?_
  simp (maxSteps := 1000000) only [go_sem, ha, hb, qtS_eq]
  (repeat' (first | exact Conv.refl _ | refine And.intro ?_ ?_)) <;> first | omega | decide
noncomputable def tells3S : List AV → Option (Prop × AV)
  | [x, y] => (rawF x).bind fun a => (rawRF y).map fun b => (a.1 ∧ b.1 ∧ fl a.2 ≤ FB ∧ fl b.2 ≤ FB, .bool (decide (a.2 = b.2)))
  | _ => none
theorem tells3S_eq (x y) : tells3S [x, y] = (rawF x).bind fun a => (rawRF y).map fun b => (a.1 ∧ b.1 ∧ fl a.2 ≤ FB ∧ fl b.2 ≤ FB, .bool (decide (a.2 = b.2))) := rfl
theorem tells3S_ok (hP : PrgOk P) (args p r) (he : tells3S args = some (p, r)) (hp : p) : CSpec P 14 args r := by
  unfold tells3S at he
  split at he
  · simp only [Option.bind_eq_some_iff, Option.map_eq_some_iff, Prod.exists, Prod.mk.injEq] at he
    obtain ⟨q, a, h1, q', b, h2, rfl, rfl⟩ := he
    exact (tells3_spec hP a b hp.2.2.1 hp.2.2.2).cv (rawF_cv h1 hp.1 (rawRF_cv h2 hp.2.1 .nil))
  · simp at he
attribute [go_sem] readS tells3S_eq
noncomputable def Jt1 : Nat → List AV → Option (Prop × AV) := addS (addS Jt0 9 readS) 14 tells3S
theorem Jt1_all (hP : PrgOk P) (T) (hT : TyOk P T) : EnvOk P ⟨T, Jt1⟩ := (((Jt0_all hP T hT).add (readS_ok hP)).add (tells3S_ok hP))
theorem Jt1_at (f a) : Jt1 f a = (addS (addS Jt0 9 readS) 14 tells3S) f a := rfl
attribute [go_sem] Jt1_at
end Go.Proofs.YtjnhekedclcbfaaGreatDoor.AM
