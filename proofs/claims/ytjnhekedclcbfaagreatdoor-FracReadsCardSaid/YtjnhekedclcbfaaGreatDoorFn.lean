/- The document's fractions: literals. -/
import Derived.Test.YtjnhekedclcbfaaGreatDoorB10
namespace Go.Proofs.YtjnhekedclcbfaaGreatDoor.AM
set_option linter.all false
set_option autoImplicit true
set_option relaxedAutoImplicit true
open Go Go.Proofs
set_option maxRecDepth 100000
set_option maxHeartbeats 8000000
set_option linter.unusedSimpArgs false
variable {P : Program}

/-- Bytes az a text. -/
def bA (m : List Nat) : ByteArray := bytesS (m.map fun d : Nat => AV.int .u8 (d : Int))
theorem bl_bA {m : List Nat} (h : ∀ c ∈ m, c < 256) : bl (bA m) = m := bl_bytesS h
def nd (l : List Nat) : List Nat := l.filter (fun c => decide (c ≠ 46))
theorem nd_app (a b : List Nat) : nd (a ++ b) = nd a ++ nd b := List.filter_append ..
theorem nd_no {l : List Nat} (h : 46 ∉ l) : nd l = l := List.filter_eq_self.2 fun c hc => decide_eq_true fun e => h (e ▸ hc)
theorem nd_one {x : Nat} (h : x ≠ 46) : nd [x] = [x] := nd_no fun e => h (List.mem_singleton.1 e).symm
theorem nd_mem {l : List Nat} {c : Nat} (h : c ∈ nd l) : c ∈ l := (List.mem_filter.1 h).1
theorem take_split {l : List Nat} {i : Nat} (h : i < l.length) : l = l.take i ++ l.getD i 0 :: l.drop (i + 1) := by
  have e : l.drop i = l.getD i 0 :: l.drop (i + 1) := by
    rw [List.drop_eq_getElem_cons h, List.getD_eq_getElem?_getD, List.getElem?_eq_getElem h]; rfl
  rw [← e, List.take_append_drop]
theorem hd_at {l : List Nat} {i : Nat} (h : i < l.length) (h1 : l.getD i 0 = 46) (h2 : 46 ∉ l.take i) : (hdL 46 l).length = i := by
  have e := take_split h
  rw [h1] at e
  have := (hd_app (b := l.drop (i + 1)) h2).1
  rw [← e] at this
  rw [this, List.length_take]; omega
theorem in_parts {l : List Nat} {c : Nat} (h : c ∈ l) (h2 : c ≠ 46) : c ∈ hdL 46 l ++ tlL 46 l := by
  by_cases hs : 46 ∈ l
  · rw [(hd_yes hs).1] at h
    rcases List.mem_append.1 h with h | h
    · exact List.mem_append.2 (.inl h)
    · rcases List.mem_cons.1 h with h | h
      · exact absurd h h2
      · exact List.mem_append.2 (.inr h)
  · rw [(hd_no hs).1]; exact List.mem_append.2 (.inl h)
theorem one_dot {l : List Nat} (h : l.count 46 ≤ 1) : nd l = hdL 46 l ++ tlL 46 l := by
  by_cases hs : 46 ∈ l
  · have e := (hd_yes hs).1
    have hn := hd_not 46 l
    have hc := congrArg (List.count 46) e
    rw [List.count_append, List.count_cons_self, List.count_eq_zero.2 hn] at hc
    have ht : 46 ∉ tlL 46 l := List.count_eq_zero.1 (by omega)
    have : nd l = nd (hdL 46 l ++ 46 :: tlL 46 l) := by rw [← e]
    rw [this, nd_app, nd_no hn]
    show _ ++ nd (46 :: tlL 46 l) = _
    have : nd (46 :: tlL 46 l) = nd (tlL 46 l) := rfl
    rw [this, nd_no ht]
  · rw [nd_no hs, (hd_no hs).1, (hd_no hs).2.1, List.append_nil]
theorem two_dots {l : List Nat} (h : 1 < l.count 46) : ¬ dgs (hdL 46 l ++ tlL 46 l) := by
  intro hd
  have hs : 46 ∈ l := List.count_pos_iff.1 (by omega)
  have e := (hd_yes hs).1
  have hc := congrArg (List.count 46) e
  rw [List.count_append, List.count_cons_self, List.count_eq_zero.2 (hd_not 46 l)] at hc
  have ht : 46 ∈ tlL 46 l := List.count_pos_iff.1 (by omega)
  have := (hd 46 (List.mem_append.2 (.inr ht))).1
  omega
/-- Where the point stands, az far az was read. -/
def ptL (l : List Nat) (i : Nat) : Nat := if 46 ∈ l.take i then (hdL 46 l).length else l.length
theorem rLit_spec (hP : PrgOk P) (s : ByteArray) (hs : (bl s).length ≤ 4294967296) : CSpec P 18 [.str s] (.tup [(.agg [.opq (.rfrac ((litF (bl s)).1)), .pad, .pad]), .int .i64 (litF (bl s)).2]) := by
  have HE := Fr4_ok hP
  have e0 : ((0 : Int) : Rat) = 0 := rfl
  obtain ⟨l, hl⟩ : ∃ l, bl s = l := ⟨_, rfl⟩
  have hlt := bl_lt s
  rw [hl] at hlt hs ⊢
  have htl : (bl s).length = l.length := by rw [hl]
  refine CSpec_vc (E := ⟨T0, Fr4⟩) (fn18 hP) HE hP.mix rfl (by first | rfl | (simp only [go_sem]; done)) (by first | rfl | (simp only [go_sem]; done)) (Nat.le_of_ble_eq_true rfl) ?_
  simp (maxSteps := 1000000) only [go_sem, size_bl, htl]
  refine trX_loop HE hP.mix [0] (fun i : Nat => ⟨upd (upd (upd (upd (upd (upd (fun _ => .junk) 0 (.str s)) 2 (.ref 0 0)) 3 (.int .i64 0)) 4 (.int .i64 (ptL l i : Int))) 5 (.str (bA (nd (l.take i))))) 6 (.int .i64 (i : Int)), upd (fun _ => .unused) 0 (.live [.bool false, .nils, .nils]), 83⟩)
    (fun i => i ≤ l.length ∧ (∀ c ∈ nd (l.take i), 48 ≤ c ∧ c ≤ 57) ∧ (l.take i).count 46 ≤ 1) (fun i => l.length - i) 0 20 (by repeat (first | exact Has.nil | refine Has.upd rfl ?_)) (Kept.of rfl (by repeat (first | exact KT.nil | refine KT.upd rfl (by first | rfl | exact hr | exact hr2 | (simp only [go_sem]; done)) ?_)) (KM.p (by repeat (first | exact KMp.nil | refine KMp.upd rfl (by first | rfl | (simp only [go_sem]; done)) ?_)))) ⟨Nat.zero_le _, fun c hc => by simp [nd] at hc, by simp⟩ 83 (by kernel_rfl) ?_
  rintro i ⟨hi0, hi1, hi2⟩
  have hi0 : i ≤ l.length := hi0
  by_cases hi : i < l.length
  · have hw := wi_add1 i (by omega)
    have hg := get_bl s i
    rw [hl] at hg
    have hts := take_snoc hi
    have hmem : l.getD i 0 ∈ l := getD_mem hi
    by_cases hd : 48 ≤ l.getD i 0 ∧ l.getD i 0 ≤ 57
    · have h1 := hd.1
      have h2 := hd.2
      have h1' : (48 : Int) ≤ ((l.getD i 0 : Nat) : Int) := by omega
      have h2' : ((l.getD i 0 : Nat) : Int) ≤ 57 := by omega
      have hnd : nd (l.take (i + 1)) = nd (l.take i) ++ [l.getD i 0] := by
        rw [hts, nd_app, nd_one (by omega)]
      have hall : ∀ c ∈ nd (l.take (i + 1)), 48 ≤ c ∧ c ≤ 57 := fun c hc => by
        rw [hnd] at hc
        rcases List.mem_append.1 hc with hc | hc
        · exact hi1 c hc
        · rw [List.mem_singleton.1 hc]; exact hd
      have htx : bA (nd (l.take i)) ++ s.extract i (i + 1) = bA (nd (l.take (i + 1))) := by
        apply bl_inj
        rw [bl_app, bl_bA (fun c hc => by have := hi1 c hc; omega), bl_bA (fun c hc => by have := hall c hc; omega), bl_extract, hl, hnd]
        congr 1
        have e : l.drop i = l.getD i 0 :: l.drop (i + 1) := by
          rw [List.drop_eq_getElem_cons hi, List.getD_eq_getElem?_getD, List.getElem?_eq_getElem hi]; rfl
        rw [e, show i + 1 - i = 1 by omega]; rfl
      have hpt : ptL l (i + 1) = ptL l i := by
        unfold ptL; rw [hts]
        have : 46 ∈ l.take i ++ [l.getD i 0] ↔ 46 ∈ l.take i := by
          rw [List.mem_append, List.mem_singleton]
          exact ⟨fun h => h.resolve_right (by omega), .inl⟩
        simp only [this]
      have hcnt : (l.take (i + 1)).count 46 ≤ 1 := by
        have hne : l.getD i 0 ≠ 46 := by omega
        rw [hts, List.count_append, (List.count_eq_zero (a := 46) (l := [l.getD i 0])).2 (by rw [List.mem_singleton]; exact fun e => hne e.symm)]; omega
      have z1 : (bl (bA (nd (l.take i)))).length + (bl (s.extract i (i + 1))).length ≤ 9223372036854775807 := by
        rw [bl_bA (fun c hc => by have := hi1 c hc; omega), bl_extract, hl]
        have h3 : (nd (l.take i)).length ≤ (l.take i).length := List.length_filter_le _ _
        rw [List.length_take] at h3 ⊢; rw [List.length_drop]; omega
      have h3 : (i : Int) ≤ ((i + 1 : Nat) : Int) := by omega
      have h4 : ((i + 1 : Nat) : Int) ≤ (l.length : Int) := by omega
      have h5 : i + 1 ≤ l.length := hi
      have h6 : i ≤ i + 1 := Nat.le_succ i
      simp (maxSteps := 1000000) only [go_sem, size_bl, htl, hi, hg, h1, h2, h1', h2', hw, htx, h3, h4, h5, h6]
      refine ⟨z1, i + 1, Kept.of rfl (by rw [hpt]; exact (by repeat (first | exact KT.nil | refine KT.upd rfl (by first | rfl | exact hr | exact hr2 | (simp only [go_sem]; done)) ?_))) (KM.p (by repeat (first | exact KMp.nil | refine KMp.upd rfl (by first | rfl | (simp only [go_sem]; done)) ?_))), ⟨by show i + 1 ≤ _; omega, hall, hcnt⟩, by show l.length - (i + 1) < l.length - i; omega⟩
    · have hdi : ((48 ≤ l.getD i 0) = False) ∨ ((48 ≤ l.getD i 0) = True ∧ (l.getD i 0 ≤ 57) = False) := by
        by_cases hx : 48 ≤ l.getD i 0
        · exact .inr ⟨eq_true hx, eq_false fun h => hd ⟨hx, h⟩⟩
        · exact .inl (eq_false hx)
      by_cases h46 : l.getD i 0 = 46
      · have h46b : (l.getD i 0 == 46) = true := by rw [h46]; rfl
        have hx : (48 ≤ l.getD i 0) = False := eq_false (by omega)
        have hx' : ((48 : Int) ≤ ((l.getD i 0 : Nat) : Int)) = False := eq_false (by omega)
        by_cases hin : 46 ∈ l.take i
        · have hbad : ¬ dgs (hdL 46 l ++ tlL 46 l) := two_dots (by
            have h7 : (l.take (i + 1)).count 46 ≤ l.count 46 := (List.take_sublist _ _).count_le _
            rw [hts, List.count_append, h46] at h7
            have h8 : 0 < (l.take i).count 46 := List.count_pos_iff.2 hin
            have h9 : [46].count 46 = 1 := rfl
            omega)
          have hml : 46 ∈ l := List.mem_of_mem_take hin
          have hpl : (ptL l i == l.length) = false := beq_eq_false_iff_ne.2 (by
            unfold ptL; rw [if_pos hin]
            have h7 := hd_lt 46 l
            have : (hdL 46 l).length < l.length := by rw [h7]; exact hml
            omega)
          rw [litF_1 (.inr (.inr hbad))]
          simp (maxSteps := 1000000) only [go_sem, size_bl, htl, hi, hg, hx, hx', h46b, hpl, e0]
          (repeat' (first | exact Conv.refl _ | refine And.intro ?_ ?_)) <;> first | omega | decide
        · have hpt0 : ptL l i = l.length := by unfold ptL; rw [if_neg hin]
          have hpl : (ptL l i == l.length) = true := by rw [hpt0]; exact beq_self_eq_true _
          have hm1 : 46 ∈ l.take (i + 1) := by rw [hts, h46]; simp
          have hpt1 : ptL l (i + 1) = i := by
            unfold ptL; rw [if_pos hm1]; exact hd_at hi h46 hin
          have hnd1 : nd (l.take (i + 1)) = nd (l.take i) := by
            rw [hts, nd_app, h46]; exact List.append_nil _
          have hcnt : (l.take (i + 1)).count 46 ≤ 1 := by
            rw [hts, List.count_append, h46, List.count_eq_zero.2 hin]; exact Nat.le_refl _
          simp (maxSteps := 1000000) only [go_sem, size_bl, htl, hi, hg, hx, hx', h46b, hpl, hw]
          refine ⟨i + 1, Kept.of rfl (by rw [hpt1, hnd1]; exact (by repeat (first | exact KT.nil | refine KT.upd rfl (by first | rfl | exact hr | exact hr2 | (simp only [go_sem]; done)) ?_))) (KM.p (by repeat (first | exact KMp.nil | refine KMp.upd rfl (by first | rfl | (simp only [go_sem]; done)) ?_))), ⟨by show i + 1 ≤ _; omega, by rw [hnd1]; exact hi1, hcnt⟩, by show l.length - (i + 1) < l.length - i; omega⟩
      · have h46b : (l.getD i 0 == 46) = false := beq_eq_false_iff_ne.2 h46
        have hbad : ¬ dgs (hdL 46 l ++ tlL 46 l) := fun h => hd (h _ (in_parts hmem h46))
        rw [litF_1 (.inr (.inr hbad))]
        rcases hdi with hx | ⟨hx, hy⟩
        · have hxn : ¬ 48 ≤ l.getD i 0 := by rw [hx]; exact id
          have hx' : ((48 : Int) ≤ ((l.getD i 0 : Nat) : Int)) = False := eq_false (by omega)
          simp (maxSteps := 1000000) only [go_sem, size_bl, htl, hi, hg, hx, hx', h46b, e0]
          (repeat' (first | exact Conv.refl _ | refine And.intro ?_ ?_)) <;> first | omega | decide
        · have hxn : 48 ≤ l.getD i 0 := by rw [hx]; trivial
          have hyn : ¬ l.getD i 0 ≤ 57 := by rw [hy]; exact id
          have hx' : ((48 : Int) ≤ ((l.getD i 0 : Nat) : Int)) = True := eq_true (by omega)
          have hy' : (((l.getD i 0 : Nat) : Int) ≤ 57) = False := eq_false (by omega)
          simp (maxSteps := 1000000) only [go_sem, size_bl, htl, hi, hg, hx, hx', hy, hy', h46b, e0]
          (repeat' (first | exact Conv.refl _ | refine And.intro ?_ ?_)) <;> first | omega | decide
  · have hie : i = l.length := by omega
    subst hie
    rw [List.take_length] at hi1 hi2
    have hparts := one_dot hi2
    have hdg : dgs (hdL 46 l ++ tlL 46 l) := by rw [← hparts]; exact hi1
    have hD : bl (bA (nd (l.take l.length))) = hdL 46 l ++ tlL 46 l := by rw [List.take_length, ← hparts]; exact bl_bA (fun c hc => by have := hi1 c hc; omega)
    have hDl : (bl (bA (nd (l.take l.length)))).length = (hdL 46 l ++ tlL 46 l).length := by rw [hD]
    obtain ⟨p, hp⟩ : ∃ p, ptL l l.length = p := ⟨_, rfl⟩
    have hp' : p = if 46 ∈ l then (hdL 46 l).length else l.length := by rw [← hp]; unfold ptL; rw [List.take_length]
    have hlen : 46 ∈ l → l.length = (hdL 46 l).length + 1 + (tlL 46 l).length := fun h => by
      have := congrArg List.length (hd_yes h).1
      rw [List.length_append, List.length_cons] at this; omega
    by_cases hA : hdL 46 l = []
    · have hp0 : p = 0 := by
        rw [hp']; split
        · rw [hA]; rfl
        · rename_i h; rw [← (hd_no h).1, hA]; rfl
      have hp0' : (p == 0) = true := by rw [hp0]; rfl
      rw [litF_1 (.inl hA)]
      simp (maxSteps := 1000000) only [go_sem, size_bl, htl, hi, hp, hp0', e0]
      (repeat' (first | exact Conv.refl _ | refine And.intro ?_ ?_)) <;> first | omega | decide
    · have hAp : 0 < (hdL 46 l).length := List.length_pos_iff.2 hA
      have hle := hd_le 46 l
      have hp0' : (p == 0) = false := beq_eq_false_iff_ne.2 (by rw [hp']; split <;> omega)
      have hl0 : (l.length == 0) = false := beq_eq_false_iff_ne.2 (by omega)
      have hw1 : IntKind.i64.wrap ((l.length : Int) - 1) = ((l.length - 1 : Nat) : Int) := wi_sub l.length 1 (by omega) (by omega)
      by_cases hB : 46 ∈ l ∧ tlL 46 l = []
      · have hpB : (p == l.length - 1) = true := by
          rw [beq_iff_eq, hp', if_pos hB.1]
          have h7 := hlen hB.1
          rw [hB.2] at h7; simp at h7; omega
        rw [litF_1 (.inr (.inl hB))]
        simp (maxSteps := 1000000) only [go_sem, size_bl, htl, hi, hp, hp0', hw1, hpB, e0]
        (repeat' (first | exact Conv.refl _ | refine And.intro ?_ ?_)) <;> first | omega | decide
      · have hpB : (p == l.length - 1) = false := beq_eq_false_iff_ne.2 (by
          rw [hp']; split
          · rename_i h
            have h7 := hlen h
            have : 0 < (tlL 46 l).length := List.length_pos_iff.2 fun e => hB ⟨h, e⟩
            omega
          · omega)
        have hn : ¬ (hdL 46 l = [] ∨ (46 ∈ l ∧ tlL 46 l = []) ∨ ¬ dgs (hdL 46 l ++ tlL 46 l)) := by
          rintro (h | h | h)
          · exact hA h
          · exact hB h
          · exact h hdg
        by_cases h5 : 256 < (hdL 46 l ++ tlL 46 l).length
        · rw [litF_2 hn h5]
          have h5' : 256 < (hdL 46 l).length + (tlL 46 l).length := by rw [← List.length_append]; exact h5
          simp (maxSteps := 1000000) only [go_sem, size_bl, htl, hi, hp, hp0', hw1, hpB, hl0, hDl, h5, h5', e0]
          (repeat' (first | exact Conv.refl _ | refine And.intro ?_ ?_)) <;> first | omega | decide
        · rw [litF_3 hn h5]
          have h5' : ¬ 256 < (hdL 46 l).length + (tlL 46 l).length := by rw [← List.length_append]; exact h5
          have b1 : ((1 : Int).toNat) = 1 := rfl
          have hple : p ≤ l.length := by rw [hp']; split <;> omega
          have hw2 := wi_add1 p (by omega)
          simp (maxSteps := 1000000) only [go_sem, size_bl, htl, hi, hp, hp0', hw1, hpB, hl0, hDl, h5, h5', b1, hw2]
          refine ⟨by decide, ?_⟩
          have hB6 : (tlL 46 l).length ≤ 256 := by omega
          have h10 : blen 10 ≤ 68719476736 := by decide
          have h10i : (10 : Int).toNat = 10 := rfl
          have i10 : ((0 : Int) ≤ 10) = True := eq_true (by decide)
          refine trX_loop HE hP.mix [0] (fun k : Nat => ⟨upd (upd (upd (upd (upd (upd (fun _ => .junk) 0 (.str s)) 2 (.ref 0 0)) 3 (.int .i64 0)) 5 (.str (bA (nd (l.take l.length))))) 7 (.imm (digs 65536 (10 ^ k)).length (List.map (fun d : Nat => AV.int .u32 (d : Int)) (digs 65536 (10 ^ k))))) 8 (.int .i64 ((p + 1 + k : Nat) : Int)), upd (fun _ => .unused) 0 (.live [.bool false, .nils, .nils]), 83⟩)
            (fun k => k ≤ (tlL 46 l).length) (fun k => (tlL 46 l).length - k) 0 20 (by repeat (first | exact Has.nil | refine Has.upd rfl ?_)) (Kept.of rfl (by repeat (first | exact KT.nil | refine KT.upd rfl (by first | rfl | exact hr | exact hr2 | (simp only [go_sem]; done)) ?_)) (KM.p (by repeat (first | exact KMp.nil | refine KMp.upd rfl (by first | rfl | (simp only [go_sem]; done)) ?_)))) (Nat.zero_le _) 83 (by kernel_rfl) ?_
          intro k hk0
          have hk0 : k ≤ (tlL 46 l).length := hk0
          have hbt : blen (10 ^ k) ≤ 68719476736 := Nat.le_trans (blen_ten k) (by omega)
          have hbt2 : blen (10 ^ k) ≤ 34359738368 := Nat.le_trans (blen_ten k) (by omega)
          have hpw : 10 ^ k * 10 = 10 ^ (k + 1) := (Nat.pow_succ 10 k).symm
          have hw3 := wi_add1 (p + 1 + k) (by omega)
          by_cases hk : k < (tlL 46 l).length
          · have hc : p + 1 + k < l.length := by
              by_cases h : 46 ∈ l
              · have h7 := hlen h; rw [if_pos h] at hp'; omega
              · rw [(hd_no h).2.1] at hk; simp at hk
            simp (maxSteps := 1000000) only [go_sem, size_bl, htl, hc, hbt, h10, h10i, i10, hpw, hw3]
            exact ⟨k + 1, Kept.of rfl (by repeat (first | exact KT.nil | refine KT.upd rfl (by first | rfl | exact hr | exact hr2 | (simp only [go_sem]; done)) ?_)) (KM.p (by repeat (first | exact KMp.nil | refine KMp.upd rfl (by first | rfl | (simp only [go_sem]; done)) ?_))), by show k + 1 ≤ _; omega, by show (tlL 46 l).length - (k + 1) < (tlL 46 l).length - k; omega⟩
          · have hc : ¬ p + 1 + k < l.length := by
              by_cases h : 46 ∈ l
              · have h7 := hlen h; rw [if_pos h] at hp'; omega
              · rw [if_neg h] at hp'; omega
            have hke : k = (tlL 46 l).length := by omega
            subst hke
            have dgT : (∀ c ∈ hdL 46 l ++ tlL 46 l, 48 ≤ c ∧ c ≤ 57) = True := eq_true hdg
            have l8 : (hdL 46 l).length + (tlL 46 l).length ≤ 8589934592 := by omega
            have v1 : blen (valL (hdL 46 l ++ tlL 46 l)) ≤ 34359738368 := Nat.le_trans (valL_blen4 fun c hc => (hdg c hc).2) (by rw [List.length_append]; omega)
            have hp0 : 0 < 10 ^ (tlL 46 l).length := Nat.pow_pos (by decide)
            simp (maxSteps := 1000000) only [go_sem, size_bl, htl, hc, hD, dgT, List.length_append, l8, v1, hbt2, hp0, sg_f]
            (repeat' (first | exact Conv.refl _ | refine And.intro ?_ ?_)) <;> first | omega | decide
noncomputable def rLitS : List AV → Option (Prop × AV)
  | [.str s] => some ((bl s).length ≤ 4294967296, .tup [(.agg [.opq (.rfrac ((litF (bl s)).1)), .pad, .pad]), .int .i64 (litF (bl s)).2])
  | _ => none
theorem rLitS_ok (hP : PrgOk P) (args p r) (h : rLitS args = some (p, r)) (hp : p) : CSpec P 18 args r := by
  unfold rLitS at h
  split at h
  · simp only [Option.some.injEq, Prod.mk.injEq] at h
    obtain ⟨rfl, rfl⟩ := h
    exact rLit_spec hP _ hp
  · simp at h
attribute [go_sem] rLitS
end Go.Proofs.YtjnhekedclcbfaaGreatDoor.AM
