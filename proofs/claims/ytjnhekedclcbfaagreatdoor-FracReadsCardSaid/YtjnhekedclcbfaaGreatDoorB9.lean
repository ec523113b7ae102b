/- Texts of fractions: plain facts. -/
import Derived.Test.YtjnhekedclcbfaaGreatDoorB8
import Derived.Test.YtjnhekedclcbfaaGreatDoorB2
namespace Go.Proofs.YtjnhekedclcbfaaGreatDoor.AM
set_option linter.all false
set_option autoImplicit true
set_option relaxedAutoImplicit true
open Go Go.Proofs
set_option maxRecDepth 100000

/-- Ahead of a byte, and behind it. -/
def hdL (c : Nat) : List Nat → List Nat
  | [] => []
  | x :: t => if x = c then [] else x :: hdL c t
def tlL (c : Nat) : List Nat → List Nat
  | [] => []
  | x :: t => if x = c then t else tlL c t
theorem hd_no {c : Nat} : ∀ {l : List Nat}, c ∉ l → hdL c l = l ∧ tlL c l = [] ∧ ixL c l = -1
  | [], _ => ⟨rfl, rfl, rfl⟩
  | x :: t, h => by
    have h1 : ¬ x = c := fun e => h (by simp [e])
    have ih := hd_no (c := c) (l := t) fun e => h (List.mem_cons_of_mem _ e)
    unfold hdL tlL ixL
    rw [if_neg h1, if_neg h1, if_neg h1, ih.1, ih.2.1, if_pos ih.2.2]
    exact ⟨rfl, rfl, rfl⟩
theorem hd_yes {c : Nat} : ∀ {l : List Nat}, c ∈ l → l = hdL c l ++ c :: tlL c l ∧ ixL c l = ((hdL c l).length : Int)
  | [], h => by simp at h
  | x :: t, h => by
    unfold hdL tlL ixL
    by_cases h1 : x = c
    · rw [if_pos h1, if_pos h1, if_pos h1, h1]; exact ⟨rfl, rfl⟩
    · have ih := hd_yes (l := t) (by
        rcases List.mem_cons.1 h with e | e
        · exact absurd e.symm h1
        · exact e)
      rw [if_neg h1, if_neg h1, if_neg h1, if_neg (by rw [ih.2]; omega), ih.2]
      refine ⟨by rw [List.cons_append, ← ih.1], by rw [List.length_cons]; omega⟩
theorem hd_not (c : Nat) : ∀ l : List Nat, c ∉ hdL c l
  | [] => by simp [hdL]
  | x :: t => by
    have ih := hd_not c t
    unfold hdL; split
    · simp
    · rename_i h; intro e
      rcases List.mem_cons.1 e with e | e
      · exact h e.symm
      · exact ih e
theorem hd_app {c : Nat} {b : List Nat} : ∀ {a : List Nat}, c ∉ a → hdL c (a ++ c :: b) = a ∧ tlL c (a ++ c :: b) = b
  | [], _ => by simp [hdL, tlL]
  | x :: t, h => by
    have h1 : ¬ x = c := fun e => h (by simp [e])
    have ih := hd_app (c := c) (b := b) (a := t) fun e => h (List.mem_cons_of_mem _ e)
    rw [List.cons_append]
    unfold hdL tlL
    rw [if_neg h1, if_neg h1, ih.1, ih.2]
    exact ⟨rfl, rfl⟩
theorem take_hd (c : Nat) : ∀ l : List Nat, l.take (hdL c l).length = hdL c l
  | [] => rfl
  | x :: t => by
    have ih := take_hd c t
    unfold hdL; split
    · rfl
    · rw [List.length_cons, List.take_succ_cons, ih]
theorem drop_hd (c : Nat) : ∀ l : List Nat, l.drop ((hdL c l).length + 1) = tlL c l
  | [] => rfl
  | x :: t => by
    have ih := drop_hd c t
    unfold hdL tlL; split
    · rfl
    · rw [List.length_cons, List.drop_succ_cons, ih]
theorem hd_le (c : Nat) (l : List Nat) : (hdL c l).length ≤ l.length := by
  have := congrArg List.length (take_hd c l)
  rw [List.length_take] at this; omega
theorem hd_lt (c : Nat) (l : List Nat) : ((hdL c l).length < l.length) = (c ∈ l) := by
  rw [eq_iff_iff]
  constructor
  · intro h
    by_cases hc : c ∈ l
    · exact hc
    · rw [(hd_no hc).1] at h; omega
  · intro h
    have := congrArg List.length (hd_yes h).1
    rw [List.length_append, List.length_cons] at this; omega
theorem tl_le (c : Nat) (l : List Nat) : (tlL c l).length ≤ l.length := by
  rw [← drop_hd, List.length_drop]; omega
/-- The two parts of a text. -/
def cutA (c : Nat) (s : ByteArray) : ByteArray := s.extract 0 (hdL c (bl s)).length
def cutB (c : Nat) (s : ByteArray) : ByteArray := s.extract ((hdL c (bl s)).length + 1) s.size
theorem bl_cutA (c s) : bl (cutA c s) = hdL c (bl s) := by
  unfold cutA; rw [bl_extract, List.drop_zero, Nat.sub_zero, take_hd]
theorem bl_cutB (c s) : bl (cutB c s) = tlL c (bl s) := by
  unfold cutB; rw [bl_extract, drop_hd]
  refine List.take_of_length_le ?_
  have h := congrArg List.length (drop_hd c (bl s))
  rw [List.length_drop] at h
  rw [size_bl]; omega
theorem cutA_no {c s} (h : c ∉ bl s) : cutA c s = s := bl_inj (by rw [bl_cutA, (hd_no h).1])
theorem cutB_no {c s} (h : c ∉ bl s) : cutB c s = ⟨#[]⟩ := bl_inj (by rw [bl_cutB, (hd_no h).2.1]; rfl)

def dgs (l : List Nat) : Prop := ∀ c ∈ l, 48 ≤ c ∧ c ≤ 57
instance dgs_dec (l : List Nat) : Decidable (dgs l) := by unfold dgs; infer_instance
theorem isDg_eq (b : UInt8) : isDg b = decide (48 ≤ b.toNat ∧ b.toNat ≤ 57) := by
  unfold isDg; rw [Bool.eq_iff_iff]; simp
theorem dw_nil {α : Type} {p : α → Bool} : ∀ {l : List α}, l.dropWhile p = [] ↔ ∀ x ∈ l, p x = true
  | [] => by simp
  | a :: l => by
    rw [List.dropWhile_cons]
    have ih := dw_nil (p := p) (l := l)
    by_cases h : p a = true
    · rw [if_pos h, ih]; simp [h]
    · rw [if_neg h]; simp [h]
theorem trD_nil (s : ByteArray) : (bl (trD s)).isEmpty = decide (dgs (bl s)) := by
  rw [Bool.eq_iff_iff, decide_eq_true_eq, List.isEmpty_iff]
  unfold bl trD dgs
  rw [List.map_eq_nil_iff]
  show _ = [] ↔ _
  rw [dw_nil]
  constructor
  · intro h c hc
    obtain ⟨b, hb, rfl⟩ := List.mem_map.1 hc
    have hb' : b ∈ s.data.toList.reverse := List.mem_reverse.2 hb
    rw [← List.takeWhile_append_dropWhile (p := isDg) (l := s.data.toList.reverse)] at hb'
    have k : isDg b = true := by
      rcases List.mem_append.1 hb' with hb' | hb'
      · exact List.all_eq_true.1 List.all_takeWhile b hb'
      · exact h b (List.mem_reverse.2 hb')
    rw [isDg_eq] at k; exact of_decide_eq_true k
  · intro h b hb
    have hn : s.data.toList.reverse.dropWhile isDg = [] := dw_nil.2 fun x hx => by
      rw [isDg_eq]; exact decide_eq_true (h _ (List.mem_map.2 ⟨x, List.mem_reverse.1 hx, rfl⟩))
    rw [hn] at hb; simp at hb
/-- Without the noughts ahead. -/
def dz : List Nat → List Nat
  | [] => []
  | x :: t => if x = 48 then dz t else x :: t
theorem bl_trZ (s : ByteArray) : bl (trZ s) = dz (bl s) := by
  unfold bl trZ
  show (s.data.toList.dropWhile isZr).map UInt8.toNat = _
  generalize s.data.toList = L
  induction L with
  | nil => rfl
  | cons b t ih =>
    rw [List.map_cons]
    unfold dz
    rw [List.dropWhile_cons]
    have e : (isZr b = true) = (b.toNat = 48) := by
      unfold isZr
      rw [beq_iff_eq, eq_iff_iff, ← UInt8.toNat_inj]; rfl
    by_cases h : b.toNat = 48
    · rw [if_pos (e ▸ h), if_pos h]; exact ih
    · rw [if_neg (e ▸ h), if_neg h]; rfl
theorem valL_dz : ∀ l : List Nat, valL (dz l) = valL l
  | [] => rfl
  | x :: t => by
    unfold dz; split
    · rename_i h
      rw [valL_dz t, h]
      have := valL_app [48] t
      rw [List.singleton_append] at this
      rw [this]
      have : valL [48] = 0 := rfl
      rw [this, Nat.zero_mul, Nat.zero_add]
    · rfl
theorem dz_le : ∀ l : List Nat, (dz l).length ≤ l.length
  | [] => Nat.le_refl _
  | x :: t => by
    have := dz_le t
    unfold dz; split
    · rw [List.length_cons]; omega
    · exact Nat.le_refl _
theorem dz_ok : ∀ {l : List Nat}, dgs l → dz l ≠ [] → okD (dz l)
  | [], _, h => absurd rfl h
  | x :: t, hd, h => by
    unfold dz at h ⊢
    split
    · rename_i hx
      rw [if_pos hx] at h
      exact dz_ok (fun c hc => hd c (by simp [hc])) h
    · rename_i hx
      exact ⟨by simp, fun e => hx (by simpa using e.2), hd⟩
theorem okD_dgs {l : List Nat} : okD l ↔ l ≠ [] ∧ (dgs l ∧ (l.length = 1 ∨ l.getD 0 0 ≠ 48)) := by
  unfold okD dgs
  constructor
  · rintro ⟨h1, h2, h3⟩
    refine ⟨h1, h3, ?_⟩
    by_cases h : l.length = 1
    · exact .inl h
    · have : 0 < l.length := List.length_pos_iff.2 h1
      exact .inr fun e => h2 ⟨by omega, e⟩
  · rintro ⟨h1, h3, h2⟩
    refine ⟨h1, ?_, h3⟩
    rintro ⟨a, b⟩
    rcases h2 with h2 | h2
    · omega
    · exact h2 b
theorem okD_no {l : List Nat} (h : okD l) {c : Nat} (hc : c < 48) : c ∉ l := fun e => by have := (h.2.2 c e).1; omega

/-- What a text tells az a fraction. -/
def denL (l : List Nat) : List Nat := if 47 ∈ l then tlL 47 l else [49]
def mnL (l : List Nat) : Bool := decide ((hdL 47 l).getD 0 0 = 45)
def szL (l : List Nat) : List Nat := if (hdL 47 l).getD 0 0 = 45 then (hdL 47 l).drop 1 else hdL 47 l
noncomputable def parF (l : List Nat) : Rat × Int :=
  if ¬ okD (szL l) ∨ ¬ okD (denL l) ∨ (mnL l = true ∧ szL l = [48]) then (0, 12)
  else if 256 < (szL l).length ∨ 256 < (denL l).length then (0, 3)
  else if 47 ∈ l ∧ (valL (denL l) < 2 ∨ Nat.gcd (valL (szL l)) (valL (denL l)) ≠ 1) then (0, 12)
  else (qlow (sg (mnL l) (valL (szL l))) (valL (denL l)), 0)
theorem parF_1 {l} (h : ¬ okD (szL l) ∨ ¬ okD (denL l) ∨ (mnL l = true ∧ szL l = [48])) : parF l = (0, 12) := if_pos h
theorem parF_2 {l} (h : ¬ (¬ okD (szL l) ∨ ¬ okD (denL l) ∨ (mnL l = true ∧ szL l = [48]))) (h2 : 256 < (szL l).length ∨ 256 < (denL l).length) : parF l = (0, 3) := by
  unfold parF; rw [if_neg h, if_pos h2]
theorem parF_3 {l} (h : ¬ (¬ okD (szL l) ∨ ¬ okD (denL l) ∨ (mnL l = true ∧ szL l = [48]))) (h2 : ¬ (256 < (szL l).length ∨ 256 < (denL l).length)) (h3 : 47 ∈ l ∧ (valL (denL l) < 2 ∨ Nat.gcd (valL (szL l)) (valL (denL l)) ≠ 1)) : parF l = (0, 12) := by
  unfold parF; rw [if_neg h, if_neg h2, if_pos h3]
theorem parF_4 {l} (h : ¬ (¬ okD (szL l) ∨ ¬ okD (denL l) ∨ (mnL l = true ∧ szL l = [48]))) (h2 : ¬ (256 < (szL l).length ∨ 256 < (denL l).length)) (h3 : ¬ (47 ∈ l ∧ (valL (denL l) < 2 ∨ Nat.gcd (valL (szL l)) (valL (denL l)) ≠ 1))) : parF l = (qlow (sg (mnL l) (valL (szL l))) (valL (denL l)), 0) := by
  unfold parF; rw [if_neg h, if_neg h2, if_neg h3]
theorem den_one {l} (h : 47 ∉ l) : denL l = [49] := if_neg h
theorem sz_mn {l} (h : mnL l = true) : hdL 47 l = 45 :: szL l := by
  have h' := of_decide_eq_true h
  unfold szL; rw [if_pos h']
  cases hh : hdL 47 l with
  | nil => rw [hh] at h'; simp at h'
  | cons c t => rw [hh] at h'; simp at h'; rw [h']; rfl
theorem sz_ps {l} (h : mnL l = false) : hdL 47 l = szL l := by
  have h' := of_decide_eq_false h
  unfold szL; rw [if_neg h']
theorem val_zero {l : List Nat} (h : okD l) (h0 : valL l = 0) : l = [48] := by
  have := decL_val h
  rw [h0] at this; rw [← this]; rfl
/-- The numerator's text. -/
theorem num_text {l} (h1 : okD (szL l)) (h2 : ¬ (mnL l = true ∧ szL l = [48])) : bl (itS (sg (mnL l) (valL (szL l)))) = hdL 47 l := by
  rw [bl_itS, sg_abs, decL_val h1]
  cases hm : mnL l
  · rw [if_neg (by rw [sg_f]; omega)]; exact (sz_ps hm).symm
  · rw [if_pos]
    · exact (sz_mn hm).symm
    · rw [sg_t]
      have : valL (szL l) ≠ 0 := fun e => h2 ⟨hm, val_zero h1 e⟩
      omega
theorem bl_qtS (q : Rat) : bl (qtS q) = if q.den = 1 then bl (itS q.num) else bl (itS q.num) ++ 47 :: decL q.den := by
  unfold qtS; split
  · rfl
  · rw [bl_app, bl_app, bl_decS, List.append_assoc]; rfl
theorem no_stroke (z : Int) : 47 ∉ bl (itS z) := by
  rw [bl_itS]
  have := okD_no (okD_decL z.natAbs) (c := 47) (by decide)
  split
  · intro e
    rcases List.mem_cons.1 e with e | e
    · exact absurd e (by decide)
    · exact this e
  · exact this
theorem mk_low {m : Bool} {n d : Nat} (hd : 0 < d) (hg : Nat.gcd n d = 1) (h : m = true → 0 < n) : (mkRat (sg m n) d).num = sg m n ∧ (mkRat (sg m n) d).den = d := by
  rw [mk_num hd, mk_den hd, sg_abs, hg, Nat.div_one, Nat.div_one]
  refine ⟨?_, rfl⟩
  have e : decide (sg m n < 0) = m := by
    cases m
    · rw [sg_f]; exact decide_eq_false (by omega)
    · rw [sg_t]; have := h rfl; exact decide_eq_true (by omega)
  rw [e]
/-- The text of what a text tells is the text. -/
theorem text_of {l} (h1 : okD (szL l)) (h2 : ¬ (mnL l = true ∧ szL l = [48])) (h3 : okD (denL l)) (h4 : 47 ∈ l → 2 ≤ valL (denL l)) (h5 : 47 ∈ l → Nat.gcd (valL (szL l)) (valL (denL l)) = 1) : bl (qtS (qlow (sg (mnL l) (valL (szL l))) (valL (denL l)))) = l := by
  have hn := num_text h1 h2
  have hm : mnL l = true → 0 < valL (szL l) := fun hm => Nat.pos_of_ne_zero fun e => h2 ⟨hm, val_zero h1 e⟩
  rw [bl_qtS, qlow_eq]
  by_cases hs : 47 ∈ l
  · have h4' := h4 hs
    have k := mk_low (d := valL (denL l)) (by omega) (h5 hs) hm
    rw [k.1, k.2, if_neg (by omega), hn, decL_val h3, denL, if_pos hs]
    exact (hd_yes hs).1.symm
  · have hd1 : valL (denL l) = 1 := by rw [den_one hs]; rfl
    rw [hd1]
    have k := mk_low (d := 1) (by decide) (Nat.gcd_one_right _) hm
    rw [k.1, k.2, if_pos rfl, hn, (hd_no hs).1]
/-- .. and only if nothing divides both. -/
theorem text_no {l} (hs : 47 ∈ l) (h4 : 2 ≤ valL (denL l)) (h5 : Nat.gcd (valL (szL l)) (valL (denL l)) ≠ 1) : bl (qtS (qlow (sg (mnL l) (valL (szL l))) (valL (denL l)))) ≠ l := by
  intro e
  rw [bl_qtS, qlow_eq] at e
  split at e
  · exact no_stroke _ (by rw [e]; exact hs)
  · have h := (hd_app (c := 47) (b := decL (mkRat (sg (mnL l) (valL (szL l))) (valL (denL l))).den) (no_stroke (mkRat (sg (mnL l) (valL (szL l))) (valL (denL l))).num)).2
    rw [e] at h
    have h6 : denL l = decL (mkRat (sg (mnL l) (valL (szL l))) (valL (denL l))).den := by rw [← h, denL, if_pos hs]
    have h7 := congrArg valL h6
    rw [valL_decL, mk_den (by omega), sg_abs] at h7
    have hg : 0 < Nat.gcd (valL (szL l)) (valL (denL l)) := Nat.gcd_pos_of_pos_right _ (by omega)
    have h8 : valL (denL l) / Nat.gcd (valL (szL l)) (valL (denL l)) < valL (denL l) := Nat.div_lt_self (by omega) (by omega)
    omega
theorem parF_cases (l : List Nat) : (parF l = (0, 12)) ∨ (parF l = (0, 3)) ∨ (parF l = (qlow (sg (mnL l) (valL (szL l))) (valL (denL l)), 0) ∧ okD (szL l) ∧ okD (denL l) ∧ ¬ (mnL l = true ∧ szL l = [48]) ∧ (szL l).length ≤ 256 ∧ (denL l).length ≤ 256 ∧ (47 ∈ l → 2 ≤ valL (denL l)) ∧ (47 ∈ l → Nat.gcd (valL (szL l)) (valL (denL l)) = 1)) := by
  by_cases h1 : ¬ okD (szL l) ∨ ¬ okD (denL l) ∨ (mnL l = true ∧ szL l = [48])
  · exact .inl (parF_1 h1)
  · by_cases h2 : 256 < (szL l).length ∨ 256 < (denL l).length
    · exact .inr (.inl (parF_2 h1 h2))
    · by_cases h3 : 47 ∈ l ∧ (valL (denL l) < 2 ∨ Nat.gcd (valL (szL l)) (valL (denL l)) ≠ 1)
      · exact .inl (parF_3 h1 h2 h3)
      · simp only [not_or, Decidable.not_not] at h1 h2
        refine .inr (.inr ⟨parF_4 (by simp only [not_or, Decidable.not_not]; exact h1) (by simp only [not_or]; exact h2) h3, h1.1, h1.2.1, h1.2.2, by omega, by omega, fun hs => ?_, fun hs => ?_⟩)
        · exact Decidable.byContradiction fun e => h3 ⟨hs, .inl (by omega)⟩
        · exact Decidable.byContradiction fun e => h3 ⟨hs, .inr e⟩
theorem den_pos' {l} (h : 47 ∈ l → 2 ≤ valL (denL l)) : 0 < valL (denL l) := by
  by_cases hs : 47 ∈ l
  · have := h hs; omega
  · rw [den_one hs]; decide
theorem fl_zero (n : Nat) : fl 0 ≤ n + 1 := fl_le.2 ⟨Nat.le_trans (Nat.le_of_ble_eq_true rfl : wl (0 : Rat).num ≤ 0) (by omega), Nat.le_trans (Nat.le_of_ble_eq_true rfl : blen (0 : Rat).den ≤ 1) (by omega)⟩
theorem parF_fl (l : List Nat) : fl (parF l).1 ≤ 1024 := by
  rcases parF_cases l with h | h | ⟨h, h1, h2, _, h4, h5, h6, _⟩
  · rw [h]; exact fl_zero 1023
  · rw [h]; exact fl_zero 1023
  · rw [h, qlow_eq]
    exact fl_mk (by unfold wl; rw [sg_abs]; exact valL_blen h1 h4) (valL_blen h2 h5) (den_pos' h6)
theorem parF_text {s : ByteArray} (h : (parF (bl s)).2 = 0) : qtS (parF (bl s)).1 = s := by
  rcases parF_cases (bl s) with h' | h' | ⟨h', h1, h2, h3, _, _, h6, h7⟩
  · rw [h'] at h; exact absurd h (by decide)
  · rw [h'] at h; exact absurd h (by decide)
  · rw [h']; exact bl_inj (text_of h1 h3 h2 h6 h7)
theorem parF_err (l : List Nat) : (parF l).2 = 0 ∨ ((parF l).1 = 0 ∧ ((parF l).2 = 12 ∨ (parF l).2 = 3)) := by
  rcases parF_cases l with h' | h' | ⟨h', _⟩
  · rw [h']; exact .inr ⟨rfl, .inl rfl⟩
  · rw [h']; exact .inr ⟨rfl, .inr rfl⟩
  · rw [h']; exact .inl rfl
theorem qtS_inj {a b : Rat} (h : qtS a = qtS b) : a = b := by
  have e := congrArg bl h
  rw [bl_qtS, bl_qtS] at e
  have na := no_stroke a.num
  have nb := no_stroke b.num
  by_cases h1 : a.den = 1
  · rw [if_pos h1] at e
    by_cases h2 : b.den = 1
    · rw [if_pos h2] at e
      exact Rat.ext (itS_inj (bl_inj e)) (by rw [h1, h2])
    · rw [if_neg h2] at e
      exact absurd (by rw [e]; simp) na
  · rw [if_neg h1] at e
    by_cases h2 : b.den = 1
    · rw [if_pos h2] at e
      exact absurd (by rw [← e]; simp) nb
    · rw [if_neg h2] at e
      have ha := hd_app (b := decL a.den) na
      have hb := hd_app (b := decL b.den) nb
      rw [e] at ha
      refine Rat.ext (itS_inj (bl_inj (ha.1.symm.trans hb.1))) ?_
      have := congrArg valL (ha.2.symm.trans hb.2)
      rwa [valL_decL, valL_decL] at this
theorem qtS_eq (a b : Rat) : ((qtS a).toList == (qtS b).toList) = decide (a = b) := by
  rw [str_same]; exact decide_eq_decide.2 ⟨qtS_inj, fun h => h ▸ rfl⟩

/-- What a text tells az a literal. -/
noncomputable def litF (l : List Nat) : Rat × Int :=
  if hdL 46 l = [] ∨ (46 ∈ l ∧ tlL 46 l = []) ∨ ¬ dgs (hdL 46 l ++ tlL 46 l) then (0, 12)
  else if 256 < (hdL 46 l ++ tlL 46 l).length then (0, 3)
  else (qlow (valL (hdL 46 l ++ tlL 46 l)) (10 ^ (tlL 46 l).length), 0)
theorem litF_1 {l} (h : hdL 46 l = [] ∨ (46 ∈ l ∧ tlL 46 l = []) ∨ ¬ dgs (hdL 46 l ++ tlL 46 l)) : litF l = (0, 12) := if_pos h
theorem litF_2 {l} (h : ¬ (hdL 46 l = [] ∨ (46 ∈ l ∧ tlL 46 l = []) ∨ ¬ dgs (hdL 46 l ++ tlL 46 l))) (h2 : 256 < (hdL 46 l ++ tlL 46 l).length) : litF l = (0, 3) := by
  unfold litF; rw [if_neg h, if_pos h2]
theorem litF_3 {l} (h : ¬ (hdL 46 l = [] ∨ (46 ∈ l ∧ tlL 46 l = []) ∨ ¬ dgs (hdL 46 l ++ tlL 46 l))) (h2 : ¬ 256 < (hdL 46 l ++ tlL 46 l).length) : litF l = (qlow (valL (hdL 46 l ++ tlL 46 l)) (10 ^ (tlL 46 l).length), 0) := by
  unfold litF; rw [if_neg h, if_neg h2]
theorem blen_ten (n : Nat) : blen (10 ^ n) ≤ 4 * n + 1 := by
  rw [blen_le_iff]
  have : (10 : Nat) ^ n ≤ 16 ^ n := Nat.pow_le_pow_left (by decide) _
  have e : (16 : Nat) ^ n = 2 ^ (4 * n) := by rw [show (16 : Nat) = 2 ^ 4 from rfl, ← Nat.pow_mul]
  rw [Nat.pow_succ, ← e]
  have := Nat.pow_pos (n := n) (show 0 < 16 by decide)
  omega
theorem litF_fl (l : List Nat) : fl (litF l).1 ≤ 2048 := by
  unfold litF
  split
  · exact fl_zero 2047
  · split
    · exact fl_zero 2047
    · rename_i h h2
      simp only [not_or, Decidable.not_not] at h
      rw [qlow_eq]
      refine fl_mk ?_ (Nat.le_trans (blen_ten _) ?_) (Nat.pow_pos (by decide))
      · unfold wl; rw [Int.natAbs_natCast]
        exact Nat.le_trans (valL_blen4 fun c hc => (h.2.2 c hc).2) (by omega)
      · rw [List.length_append] at h2; omega
end Go.Proofs.YtjnhekedclcbfaaGreatDoor.AM
/- Fractions: read from texts. -/
namespace Go.Proofs.YtjnhekedclcbfaaGreatDoor.AM
set_option linter.all false
set_option autoImplicit true
set_option relaxedAutoImplicit true
open Go Go.Proofs
set_option maxRecDepth 100000
set_option maxHeartbeats 8000000
set_option linter.unusedSimpArgs false
variable {P : Program}

def ixbS : List AV → Option (Prop × AV)
  | [.str s, .str ⟨⟨[d]⟩⟩] => some (True, .int .i64 (ixL d.toNat (bz s)))
  | _ => none
theorem ixbS_eq (s d) : ixbS [.str s, .str ⟨#[d]⟩] = some (True, .int .i64 (ixL d.toNat (bz s))) := rfl
theorem ixbS_ok (hP : PrgOk P) (args p r) (h : ixbS args = some (p, r)) (hp : p) : CSpec P 105 args r := by
  unfold ixbS at h
  split at h
  · simp only [Option.some.injEq, Prod.mk.injEq] at h
    obtain ⟨rfl, rfl⟩ := h
    exact hP.ixb _ _
  · simp at h
def trmS : List AV → Option (Prop × AV)
  | [.str s, .str ⟨⟨[48, 49, 50, 51, 52, 53, 54, 55, 56, 57]⟩⟩] => some (s.size ≤ 9223372036854775807, .str (trD s))
  | _ => none
theorem trmS_eq (s) : trmS [.str s, .str ⟨#[48, 49, 50, 51, 52, 53, 54, 55, 56, 57]⟩] = some (s.size ≤ 9223372036854775807, .str (trD s)) := rfl
theorem trmS_ok (hP : PrgOk P) (args p r) (h : trmS args = some (p, r)) (hp : p) : CSpec P 54 args r := by
  unfold trmS at h
  split at h
  · simp only [Option.some.injEq, Prod.mk.injEq] at h
    obtain ⟨rfl, rfl⟩ := h
    exact hP.trm _ hp
  · simp at h
def trlS : List AV → Option (Prop × AV)
  | [.str s, .str ⟨⟨[48]⟩⟩] => some (True, .str (trZ s))
  | _ => none
theorem trlS_eq (s) : trlS [.str s, .str ⟨#[48]⟩] = some (True, .str (trZ s)) := rfl
theorem trlS_ok (hP : PrgOk P) (args p r) (h : trlS args = some (p, r)) (hp : p) : CSpec P 55 args r := by
  unfold trlS at h
  split at h
  · simp only [Option.some.injEq, Prod.mk.injEq] at h
    obtain ⟨rfl, rfl⟩ := h
    exact hP.trl _
  · simp at h
attribute [go_sem] ixbS_eq trmS_eq trlS_eq
noncomputable def Lt0 : Nat → List AV → Option (Prop × AV) := addS (addS (addS Ft4 105 ixbS) 54 trmS) 55 trlS
theorem Lt0_all (hP : PrgOk P) (T) (hT : TyOk P T) : EnvOk P ⟨T, Lt0⟩ := ((((Ft4_all hP T hT).add (ixbS_ok hP)).add (trmS_ok hP)).add (trlS_ok hP))
theorem Lt0_at (f a) : Lt0 f a = (addS (addS (addS Ft4 105 ixbS) 54 trmS) 55 trlS) f a := rfl
attribute [go_sem] Lt0_at
theorem lcut_spec (hP : PrgOk P) (s : ByteArray) (d : UInt8) (hs : (bl s).length ≤ 1099511627776) : CSpec P 87 [.str s, .str ⟨#[d]⟩] (.tup [.str (cutA d.toNat s), .str (cutB d.toNat s), .bool (decide (d.toNat ∈ bl s))]) := by
  have HE := Lt0_all hP TF hP.tF
  have e1 : (#[d] : Array UInt8).size = 1 := rfl
  have e2 : (ByteArray.mk #[d]).size = 1 := rfl
  by_cases h : d.toNat ∈ bl s
  · have hi : ixL d.toNat (bz s) = ((hdL d.toNat (bl s)).length : Int) := (hd_yes h).2
    have hl : (hdL d.toNat (bl s)).length < (bl s).length := by rw [hd_lt]; exact h
    have hd : decide (d.toNat ∈ bl s) = true := decide_eq_true h
    rw [hd]
    unfold cutA cutB
    generalize (hdL d.toNat (bl s)).length = n at *
    have hw : IntKind.i64.wrap ((n : Int) + ((1 : Nat) : Int)) = ((n + 1 : Nat) : Int) := wi_add1 n (by omega)
    have h0 : ((0 : Int) ≤ (n : Int)) = True := eq_true (by omega)
    have h1 : (n : Int) ≤ ((bl s).length : Int) := by omega
    have h2 : ((n + 1 : Nat) : Int) ≤ ((bl s).length : Int) := by omega
    refine CSpec_vc (E := ⟨TF, Lt0⟩) (fn87 hP) HE hP.mix rfl (by first | rfl | (simp only [go_sem]; done)) (by first | rfl | (simp only [go_sem]; done)) (Nat.le_of_ble_eq_true rfl) ?_
    simp (maxSteps := 1000000) only [go_sem, hi, hw, h0, h1, h2, e1, e2, size_bl, Int.toNat_natCast]
    (repeat' (first | exact Conv.refl _ | refine And.intro ?_ ?_)) <;> first | omega | decide
  · have hi : ixL d.toNat (bz s) = -1 := (hd_no h).2.2
    have hd : decide (d.toNat ∈ bl s) = false := decide_eq_false h
    have hm : ((0 : Int) ≤ -1) = False := eq_false (by decide)
    rw [hd, cutA_no h, cutB_no h]
    refine CSpec_vc (E := ⟨TF, Lt0⟩) (fn87 hP) HE hP.mix rfl (by first | rfl | (simp only [go_sem]; done)) (by first | rfl | (simp only [go_sem]; done)) (Nat.le_of_ble_eq_true rfl) ?_
    simp (maxSteps := 1000000) only [go_sem, hi, hm]
    (repeat' (first | exact Conv.refl _ | refine And.intro ?_ ?_)) <;> first | omega | decide
def lcutS : List AV → Option (Prop × AV)
  | [.str s, .str ⟨⟨[d]⟩⟩] => some ((bl s).length ≤ 1099511627776, .tup [.str (cutA d.toNat s), .str (cutB d.toNat s), .bool (decide (d.toNat ∈ bl s))])
  | _ => none
theorem lcutS_eq (s d) : lcutS [.str s, .str ⟨#[d]⟩] = some ((bl s).length ≤ 1099511627776, .tup [.str (cutA d.toNat s), .str (cutB d.toNat s), .bool (decide (d.toNat ∈ bl s))]) := rfl
theorem lcutS_ok (hP : PrgOk P) (args p r) (h : lcutS args = some (p, r)) (hp : p) : CSpec P 87 args r := by
  unfold lcutS at h
  split at h
  · simp only [Option.some.injEq, Prod.mk.injEq] at h
    obtain ⟨rfl, rfl⟩ := h
    exact lcut_spec hP _ _ hp
  · simp at h
attribute [go_sem] lcutS_eq
/-- Without a byte ahead. -/
def tpS (d : UInt8) (s : ByteArray) : ByteArray := if (bl s).getD 0 0 = d.toNat ∧ 0 < (bl s).length then s.extract 1 s.size else s
theorem bl_tpS (s : ByteArray) : bl (tpS 45 s) = if (bl s).getD 0 0 = 45 then (bl s).drop 1 else bl s := by
  unfold tpS
  have e : (45 : UInt8).toNat = 45 := rfl
  rw [e]
  by_cases h : (bl s).getD 0 0 = 45
  · have h0 : 0 < (bl s).length := by
      cases hb : bl s with
      | nil => rw [hb] at h; simp at h
      | cons c t => simp
    rw [if_pos ⟨h, h0⟩, if_pos h, bl_extract]
    exact List.take_of_length_le (by rw [List.length_drop, size_bl]; omega)
  · rw [if_neg (fun e => h e.1), if_neg h]
theorem hpf_spec (hP : PrgOk P) (s : ByteArray) (d : UInt8) : CSpec P 116 [.str s, .str ⟨#[d]⟩] (.bool (decide ((bl s).getD 0 0 = d.toNat ∧ 0 < (bl s).length))) := by
  have HE := Lt0_all hP TF hP.tF
  have e1 : (#[d] : Array UInt8).size = 1 := rfl
  have e2 : (ByteArray.mk #[d]).size = 1 := rfl
  by_cases h : 0 < (bl s).length
  · have h1 : (1 : Nat) ≤ (bl s).length := h
    have h1' : (1 : Int) ≤ ((bl s).length : Int) := by omega
    have h2 : ((s.extract 0 1).toList == (ByteArray.mk #[d]).toList) = decide ((bl s).getD 0 0 = d.toNat ∧ 0 < (bl s).length) := by
      rw [str_same]
      refine decide_eq_decide.2 ?_
      have hb : bl (s.extract 0 1) = [(bl s).getD 0 0] := by
        rw [bl_extract]
        cases hb : bl s with
        | nil => rw [hb] at h; simp at h
        | cons c t => rfl
      constructor
      · intro e
        rw [e] at hb
        exact ⟨(List.cons.inj hb).1.symm, h⟩
      · intro e
        exact bl_inj (by rw [hb, e.1]; rfl)
    have i1 : (1 : Int).toNat = 1 := rfl
    refine CSpec_vc (E := ⟨TF, Lt0⟩) (fn116 hP) HE hP.mix rfl (by first | rfl | (simp only [go_sem]; done)) (by first | rfl | (simp only [go_sem]; done)) (Nat.le_of_ble_eq_true rfl) ?_
    simp (maxSteps := 1000000) only [go_sem, e1, e2, size_bl, h1, h1', h2, i1]
    (repeat' (first | exact Conv.refl _ | refine And.intro ?_ ?_)) <;> first | omega | decide
  · have h1 : (1 ≤ (bl s).length) = False := eq_false (by omega)
    have h1' : ((1 : Int) ≤ ((bl s).length : Int)) = False := eq_false (by omega)
    rw [decide_eq_false (fun e => h e.2)]
    refine CSpec_vc (E := ⟨TF, Lt0⟩) (fn116 hP) HE hP.mix rfl (by first | rfl | (simp only [go_sem]; done)) (by first | rfl | (simp only [go_sem]; done)) (Nat.le_of_ble_eq_true rfl) ?_
    simp (maxSteps := 1000000) only [go_sem, e1, e2, size_bl, h1, h1']
    (repeat' (first | exact Conv.refl _ | refine And.intro ?_ ?_)) <;> first | omega | decide
def hpfS : List AV → Option (Prop × AV)
  | [.str s, .str ⟨⟨[d]⟩⟩] => some (True, .bool (decide ((bl s).getD 0 0 = d.toNat ∧ 0 < (bl s).length)))
  | _ => none
theorem hpfS_eq (s d) : hpfS [.str s, .str ⟨#[d]⟩] = some (True, .bool (decide ((bl s).getD 0 0 = d.toNat ∧ 0 < (bl s).length))) := rfl
theorem hpfS_ok (hP : PrgOk P) (args p r) (h : hpfS args = some (p, r)) (hp : p) : CSpec P 116 args r := by
  unfold hpfS at h
  split at h
  · simp only [Option.some.injEq, Prod.mk.injEq] at h
    obtain ⟨rfl, rfl⟩ := h
    exact hpf_spec hP _ _
  · simp at h
attribute [go_sem] hpfS_eq
noncomputable def Lt1 : Nat → List AV → Option (Prop × AV) := addS (addS Lt0 87 lcutS) 116 hpfS
theorem Lt1_all (hP : PrgOk P) (T) (hT : TyOk P T) : EnvOk P ⟨T, Lt1⟩ := (((Lt0_all hP T hT).add (lcutS_ok hP)).add (hpfS_ok hP))
theorem Lt1_at (f a) : Lt1 f a = (addS (addS Lt0 87 lcutS) 116 hpfS) f a := rfl
attribute [go_sem] Lt1_at
theorem sCut_spec (hP : PrgOk P) (s : ByteArray) (d : UInt8) (hs : (bl s).length ≤ 1099511627776) : CSpec P 53 [.str s, .str ⟨#[d]⟩] (.tup [.str (cutA d.toNat s), .str (cutB d.toNat s), .bool (decide (d.toNat ∈ bl s))]) := by
  have HE := Lt1_all hP TF hP.tF
  refine CSpec_vc (E := ⟨TF, Lt1⟩) (fn53 hP) HE hP.mix rfl (by first | rfl | (simp only [go_sem]; done)) (by first | rfl | (simp only [go_sem]; done)) (Nat.le_of_ble_eq_true rfl) ?_
  simp (maxSteps := 1000000) only [go_sem, hs]
  (repeat' (first | exact Conv.refl _ | refine And.intro ?_ ?_)) <;> first | omega | decide
theorem ltp_spec (hP : PrgOk P) (s : ByteArray) (d : UInt8) : CSpec P 103 [.str s, .str ⟨#[d]⟩] (.str (tpS d s)) := by
  have HE := Lt1_all hP TF hP.tF
  have e1 : (#[d] : Array UInt8).size = 1 := rfl
  have e2 : (ByteArray.mk #[d]).size = 1 := rfl
  have i1 : (1 : Int).toNat = 1 := rfl
  by_cases h : (bl s).getD 0 0 = d.toNat ∧ 0 < (bl s).length
  · have hd := decide_eq_true h
    have h1 : (1 : Nat) ≤ (bl s).length := h.2
    have h1' : (1 : Int) ≤ ((bl s).length : Int) := by omega
    unfold tpS
    rw [if_pos h]
    refine CSpec_vc (E := ⟨TF, Lt1⟩) (fn103 hP) HE hP.mix rfl (by first | rfl | (simp only [go_sem]; done)) (by first | rfl | (simp only [go_sem]; done)) (Nat.le_of_ble_eq_true rfl) ?_
    simp (maxSteps := 1000000) only [go_sem, hd, e1, e2, size_bl, h1, h1', i1]
    (repeat' (first | exact Conv.refl _ | refine And.intro ?_ ?_)) <;> first | omega | decide
  · have hd := decide_eq_false h
    unfold tpS
    rw [if_neg h]
    refine CSpec_vc (E := ⟨TF, Lt1⟩) (fn103 hP) HE hP.mix rfl (by first | rfl | (simp only [go_sem]; done)) (by first | rfl | (simp only [go_sem]; done)) (Nat.le_of_ble_eq_true rfl) ?_
    simp (maxSteps := 1000000) only [go_sem, hd]
    (repeat' (first | exact Conv.refl _ | refine And.intro ?_ ?_)) <;> first | omega | decide
def tprS : List AV → Option (Prop × AV)
  | [.str s, .str ⟨⟨[d]⟩⟩] => some (True, .str (tpS d s))
  | _ => none
theorem tprS_eq (s d) : tprS [.str s, .str ⟨#[d]⟩] = some (True, .str (tpS d s)) := rfl
theorem tprS_ok (hP : PrgOk P) (args p r) (h : tprS args = some (p, r)) (hp : p) : CSpec P 103 args r := by
  unfold tprS at h
  split at h
  · simp only [Option.some.injEq, Prod.mk.injEq] at h
    obtain ⟨rfl, rfl⟩ := h
    exact ltp_spec hP _ _
  · simp at h
attribute [go_sem] tprS_eq
noncomputable def Lt2 : Nat → List AV → Option (Prop × AV) := addS Lt1 103 tprS
theorem Lt2_all (hP : PrgOk P) (T) (hT : TyOk P T) : EnvOk P ⟨T, Lt2⟩ := ((Lt1_all hP T hT).add (tprS_ok hP))
theorem Lt2_at (f a) : Lt2 f a = (addS Lt1 103 tprS) f a := rfl
attribute [go_sem] Lt2_at
theorem tp_spec (hP : PrgOk P) (s : ByteArray) (d : UInt8) : CSpec P 79 [.str s, .str ⟨#[d]⟩] (.str (tpS d s)) := by
  have HE := Lt2_all hP TF hP.tF
  refine CSpec_vc (E := ⟨TF, Lt2⟩) (fn79 hP) HE hP.mix rfl (by first | rfl | (simp only [go_sem]; done)) (by first | rfl | (simp only [go_sem]; done)) (Nat.le_of_ble_eq_true rfl) ?_
  simp (maxSteps := 1000000) only [go_sem]
  (repeat' (first | exact Conv.refl _ | refine And.intro ?_ ?_)) <;> first | omega | decide
def tprS2 : List AV → Option (Prop × AV) := tprS
theorem tprS2_ok (hP : PrgOk P) (args p r) (h : tprS2 args = some (p, r)) (hp : p) : CSpec P 79 args r := by
  unfold tprS2 tprS at h
  split at h
  · simp only [Option.some.injEq, Prod.mk.injEq] at h
    obtain ⟨rfl, rfl⟩ := h
    exact tp_spec hP _ _
  · simp at h
def sCutS : List AV → Option (Prop × AV) := lcutS
theorem sCutS_ok (hP : PrgOk P) (args p r) (h : sCutS args = some (p, r)) (hp : p) : CSpec P 53 args r := by
  unfold sCutS lcutS at h
  split at h
  · simp only [Option.some.injEq, Prod.mk.injEq] at h
    obtain ⟨rfl, rfl⟩ := h
    exact sCut_spec hP _ _ hp
  · simp at h
attribute [go_sem] tprS2 sCutS
theorem fdg_spec (hP : PrgOk P) (s : ByteArray) (hs : (bl s).length ≤ 1099511627776) : CSpec P 80 [.str s] (.bool (decide (okD (bl s)))) := by
  have HE := Lt2_all hP TF hP.tF
  have hsz : s.size ≤ 9223372036854775807 := by rw [size_bl]; omega
  have hsz' : (bl s).length ≤ 9223372036854775807 := by omega
  have ht := trD_nil s
  have hg := get_bl s 0
  refine CSpec_vc (E := ⟨TF, Lt2⟩) (fn80 hP) HE hP.mix rfl (by first | rfl | (simp only [go_sem]; done)) (by first | rfl | (simp only [go_sem]; done)) (Nat.le_of_ble_eq_true rfl) ?_
  obtain ⟨l, hl⟩ : ∃ l, bl s = l := ⟨_, rfl⟩
  rw [hl] at hs hsz' ht hg ⊢
  have hk := okD_dgs (l := l)
  by_cases h1 : l = []
  · have h1' : l.isEmpty = true := by rw [h1]; rfl
    rw [decide_eq_false (fun e => (hk.1 e).1 h1)]
    simp (maxSteps := 1000000) only [go_sem, toList_nil, hl, h1']
    (repeat' (first | exact Conv.refl _ | refine And.intro ?_ ?_)) <;> first | omega | decide
  · have h1' : l.isEmpty = false := by cases l with | nil => exact absurd rfl h1 | cons => rfl
    by_cases h2 : dgs l
    · have h2' := decide_eq_true h2
      have hp : 0 < l.length := List.length_pos_iff.2 h1
      by_cases h3 : l.length = 1
      · have h3' : ((l.length : Int) == 1) = true := by rw [h3]; rfl
        have h3n : (l.length == 1) = true := by rw [h3]; rfl
        rw [decide_eq_true (hk.2 ⟨h1, h2, .inl h3⟩)]
        simp (maxSteps := 1000000) only [go_sem, toList_nil, hl, h1', h2', ht, h3', h3n, size_bl, hsz']
        (repeat' (first | exact Conv.refl _ | refine And.intro ?_ ?_)) <;> first | omega | decide
      · have h3' : ((l.length : Int) == 1) = false := beq_eq_false_iff_ne.2 (by omega)
        have h3n : (l.length == 1) = false := beq_eq_false_iff_ne.2 h3
        have h4 : decide (okD l) = (((l.getD 0 0 : Nat) : Int) != 48) := by
          rw [Bool.eq_iff_iff, decide_eq_true_eq, bne_iff_ne]
          exact ⟨fun e => by have := (hk.1 e).2.2.resolve_left h3; omega, fun e => hk.2 ⟨h1, h2, .inr (by omega)⟩⟩
        rw [h4]
        simp (maxSteps := 1000000) only [go_sem, toList_nil, hl, h1', h2', ht, h3', h3n, size_bl, hsz', hg, hp]
        (repeat' (first | exact Conv.refl _ | refine And.intro ?_ ?_)) <;> first | omega | decide
    · have h2' := decide_eq_false h2
      rw [decide_eq_false (fun e => h2 (hk.1 e).2.1)]
      simp (maxSteps := 1000000) only [go_sem, toList_nil, hl, h1', h2', ht, size_bl, hsz']
      (repeat' (first | exact Conv.refl _ | refine And.intro ?_ ?_)) <;> first | omega | decide
def fdgS : List AV → Option (Prop × AV)
  | [.str s] => some ((bl s).length ≤ 1099511627776, .bool (decide (okD (bl s))))
  | _ => none
theorem fdgS_ok (hP : PrgOk P) (args p r) (h : fdgS args = some (p, r)) (hp : p) : CSpec P 80 args r := by
  unfold fdgS at h
  split at h
  · simp only [Option.some.injEq, Prod.mk.injEq] at h
    obtain ⟨rfl, rfl⟩ := h
    exact fdg_spec hP _ hp
  · simp at h
attribute [go_sem] fdgS
noncomputable def Lt3 : Nat → List AV → Option (Prop × AV) := addS (addS (addS Lt2 79 tprS2) 53 sCutS) 80 fdgS
theorem Lt3_all (hP : PrgOk P) (T) (hT : TyOk P T) : EnvOk P ⟨T, Lt3⟩ := ((((Lt2_all hP T hT).add (tprS2_ok hP)).add (sCutS_ok hP)).add (fdgS_ok hP))
theorem Lt3_at (f a) : Lt3 f a = (addS (addS (addS Lt2 79 tprS2) 53 sCutS) 80 fdgS) f a := rfl
attribute [go_sem] Lt3_at
end Go.Proofs.YtjnhekedclcbfaaGreatDoor.AM
/- Fractions: Parse and Literal. -/
namespace Go.Proofs.YtjnhekedclcbfaaGreatDoor.AM
set_option linter.all false
set_option autoImplicit true
set_option relaxedAutoImplicit true
open Go Go.Proofs
set_option maxRecDepth 100000
set_option maxHeartbeats 8000000
set_option linter.unusedSimpArgs false
variable {P : Program}

theorem bl_sz (s : ByteArray) : bl (tpS 45 (cutA 47 s)) = szL (bl s) := by rw [bl_tpS, bl_cutA]; rfl
theorem str_eq (x : ByteArray) (y : ByteArray) : (x.toList == y.toList) = decide (bl x = bl y) := by
  rw [str_same]; exact decide_eq_decide.2 ⟨fun h => h ▸ rfl, bl_inj⟩
theorem mn_lt (l : List Nat) : decide ((szL l).length < (hdL 47 l).length) = mnL l := by
  cases h : mnL l
  · rw [sz_ps h]; exact decide_eq_false (Nat.lt_irrefl _)
  · rw [sz_mn h, List.length_cons]; exact decide_eq_true (by omega)
theorem sz_le (l : List Nat) : (szL l).length ≤ l.length := by
  have := hd_le 47 l
  unfold szL; split
  · rw [List.length_drop]; omega
  · exact this
theorem den_le (l : List Nat) : (denL l).length ≤ l.length + 1 := by
  have := tl_le 47 l
  unfold denL; split
  · omega
  · simp
theorem blen_lt2 (d : Nat) : (blen d < 2) = (d < 2) := by
  rw [eq_iff_iff, show (blen d < 2) = (blen d ≤ 1) from eq_iff_iff.2 ⟨by omega, by omega⟩, blen_le_iff]
theorem blen_ne1 (d : Nat) : ((blen d : Int) != 1) = decide (d ≠ 1) := by
  rw [Bool.eq_iff_iff, bne_iff_ne, decide_eq_true_eq, Ne, Ne, ← blen_one_iff]; omega
theorem fParse_spec (hP : PrgOk P) (s : ByteArray) (hs : (bl s).length ≤ 549755813888) : CSpec P 44 [.str s] (.tup [(.agg [.opq (.frac ((parF (bl s)).1)), .pad, .pad, .pad, .pad]), .int .i64 (parF (bl s)).2]) := by
  have HE := Lt3_all hP TF hP.tF
  have e47 : (47 : UInt8).toNat = 47 := rfl
  have b1 := bl_sz s
  have b4 : bl ⟨#[48]⟩ = [48] := rfl
  have c1 := bl_cutA 47 s
  have m1 := mn_lt (bl s)
  have hs' : (bl s).length ≤ 1099511627776 := by omega
  have l1 : (szL (bl s)).length ≤ 1099511627776 := Nat.le_trans (sz_le _) hs'
  have l2 : (denL (bl s)).length ≤ 1099511627776 := Nat.le_trans (den_le _) (by omega)
  refine CSpec_vc (E := ⟨TF, Lt3⟩) (fn44 hP) HE hP.mix rfl (by first | rfl | (simp only [go_sem]; done)) (by first | rfl | (simp only [go_sem]; done)) (Nat.le_of_ble_eq_true rfl) ?_
  by_cases hst : 47 ∈ bl s
  · have hst' : decide (47 ∈ bl s) = true := decide_eq_true hst
    have b5 : bl (cutB 47 s) = denL (bl s) := by rw [bl_cutB]; unfold denL; rw [if_pos hst]
    by_cases h1 : okD (szL (bl s))
    · have h1' := decide_eq_true h1
      by_cases h2 : okD (denL (bl s))
      · have h2' := decide_eq_true h2
        by_cases h3 : mnL (bl s) = true ∧ szL (bl s) = [48]
        · have h4' := decide_eq_true h3.2
          rw [parF_1 (.inr (.inr h3))]
          simp (maxSteps := 1000000) only [go_sem, hs', e47, b1, b4, b5, c1, size_bl, m1, hst', l1, l2, h1', h2', h3.1, h4', str_eq]
          (repeat' (first | exact Conv.refl _ | refine And.intro ?_ ?_)) <;> first | omega | decide
        · have hn : ¬ (¬ okD (szL (bl s)) ∨ ¬ okD (denL (bl s)) ∨ (mnL (bl s) = true ∧ szL (bl s) = [48])) := by
            rintro (h | h | h)
            · exact h h1
            · exact h h2
            · exact h3 h
          have hm : mnL (bl s) = false ∨ (mnL (bl s) = true ∧ decide (szL (bl s) = [48]) = false) := by
            cases hm : mnL (bl s)
            · exact .inl rfl
            · exact .inr ⟨rfl, decide_eq_false fun e => h3 ⟨hm, e⟩⟩
          have two : (0 : Int) != 3 := by decide
          by_cases h5 : (szL (bl s)).length ≤ 256
          · have p1 := parse_ok h1 h5
            have v1 := valL_blen h1 h5
            by_cases h6 : (denL (bl s)).length ≤ 256
            · have p2 := parse_ok h2 h6
              have v2 := valL_blen h2 h6
              have v1' := Nat.le_trans v1 (show _ ≤ 68719476736 by decide)
              have v2' := Nat.le_trans v2 (show _ ≤ 68719476736 by decide)
              have v2'' := Nat.le_trans v2 (show _ ≤ 34359738368 by decide)
              have g1 : blen (Nat.gcd (valL (szL (bl s))) (valL (denL (bl s)))) ≤ 68719476736 := gcd_blen v1' v2'
              have w1 : wl (sg (mnL (bl s)) (valL (szL (bl s)))) ≤ 34359738368 := by unfold wl; rw [sg_abs]; exact Nat.le_trans v1 (by decide)
              have hl : ¬ (256 < (szL (bl s)).length ∨ 256 < (denL (bl s)).length) := by omega
              by_cases h7 : 47 ∈ bl s ∧ (valL (denL (bl s)) < 2 ∨ Nat.gcd (valL (szL (bl s))) (valL (denL (bl s))) ≠ 1)
              · rw [parF_3 hn hl h7]
                by_cases h8 : valL (denL (bl s)) < 2
                · rcases hm with hm | ⟨hm, hm2⟩
                  · first
                    | exact absurd h7.1 hst
                    | (simp (maxSteps := 1000000) only [go_sem, hs', e47, b1, b4, b5, c1, size_bl, m1, hst', l1, l2, h1', h2', str_eq, hm, p1, p2, v1', v2', blen_lt2, h8]
                       (repeat' (first | exact Conv.refl _ | refine And.intro ?_ ?_)) <;> first | omega | decide)
                  · first
                    | exact absurd h7.1 hst
                    | (simp (maxSteps := 1000000) only [go_sem, hs', e47, b1, b4, b5, c1, size_bl, m1, hst', l1, l2, h1', h2', str_eq, hm, hm2, p1, p2, v1', v2', blen_lt2, h8]
                       (repeat' (first | exact Conv.refl _ | refine And.intro ?_ ?_)) <;> first | omega | decide)
                · have h9 : decide (Nat.gcd (valL (szL (bl s))) (valL (denL (bl s))) ≠ 1) = true := decide_eq_true (h7.2.resolve_left h8)
                  rcases hm with hm | ⟨hm, hm2⟩
                  · first
                    | exact absurd h7.1 hst
                    | (simp (maxSteps := 1000000) only [go_sem, hs', e47, b1, b4, b5, c1, size_bl, m1, hst', l1, l2, h1', h2', str_eq, hm, p1, p2, v1', v2', blen_lt2, h8, g1, blen_ne1, h9]
                       (repeat' (first | exact Conv.refl _ | refine And.intro ?_ ?_)) <;> first | omega | decide)
                  · first
                    | exact absurd h7.1 hst
                    | (simp (maxSteps := 1000000) only [go_sem, hs', e47, b1, b4, b5, c1, size_bl, m1, hst', l1, l2, h1', h2', str_eq, hm, hm2, p1, p2, v1', v2', blen_lt2, h8, g1, blen_ne1, h9]
                       (repeat' (first | exact Conv.refl _ | refine And.intro ?_ ?_)) <;> first | omega | decide)
              · rw [parF_4 hn hl h7]
                have h8 : 47 ∈ bl s → ¬ valL (denL (bl s)) < 2 := fun k e => h7 ⟨k, .inl e⟩
                have h9 : 47 ∈ bl s → decide (Nat.gcd (valL (szL (bl s))) (valL (denL (bl s))) ≠ 1) = false := fun k => decide_eq_false fun e => h7 ⟨k, .inr e⟩
                have hpos : 0 < valL (denL (bl s)) := den_pos' fun k => by have := h8 k; omega
                rcases hm with hm | ⟨hm, hm2⟩
                · rw [hm] at w1 ⊢
                  first
                    | (have h8 := h8 hst
                       have h9 := h9 hst
                       simp (maxSteps := 1000000) only [go_sem, hs', e47, b1, b4, b5, c1, size_bl, m1, hst', l1, l2, h1', h2', str_eq, hm, p1, p2, v1', v2', v2'', blen_lt2, h8, g1, blen_ne1, h9, w1, hpos]
                       (repeat' (first | exact Conv.refl _ | refine And.intro ?_ ?_)) <;> first | omega | decide)
                    | (simp (maxSteps := 1000000) only [go_sem, hs', e47, b1, b4, b5, c1, size_bl, m1, hst', l1, l2, h1', h2', str_eq, hm, p1, p2, v1', v2', v2'', w1, hpos]
                       (repeat' (first | exact Conv.refl _ | refine And.intro ?_ ?_)) <;> first | omega | decide)
                · rw [hm] at w1 ⊢
                  first
                    | (have h8 := h8 hst
                       have h9 := h9 hst
                       simp (maxSteps := 1000000) only [go_sem, hs', e47, b1, b4, b5, c1, size_bl, m1, hst', l1, l2, h1', h2', str_eq, hm, hm2, p1, p2, v1', v2', v2'', blen_lt2, h8, g1, blen_ne1, h9, w1, hpos]
                       (repeat' (first | exact Conv.refl _ | refine And.intro ?_ ?_)) <;> first | omega | decide)
                    | (simp (maxSteps := 1000000) only [go_sem, hs', e47, b1, b4, b5, c1, size_bl, m1, hst', l1, l2, h1', h2', str_eq, hm, hm2, p1, p2, v1', v2', v2'', w1, hpos]
                       (repeat' (first | exact Conv.refl _ | refine And.intro ?_ ?_)) <;> first | omega | decide)
            · have p2 := parse_long h2 (show 256 < (denL (bl s)).length by omega)
              rw [parF_2 hn (.inr (by omega))]
              rcases hm with hm | ⟨hm, hm2⟩
              · simp (maxSteps := 1000000) only [go_sem, hs', e47, b1, b4, b5, c1, size_bl, m1, hst', l1, l2, h1', h2', str_eq, hm, p1, p2]
                (repeat' (first | exact Conv.refl _ | refine And.intro ?_ ?_)) <;> first | omega | decide
              · simp (maxSteps := 1000000) only [go_sem, hs', e47, b1, b4, b5, c1, size_bl, m1, hst', l1, l2, h1', h2', str_eq, hm, hm2, p1, p2]
                (repeat' (first | exact Conv.refl _ | refine And.intro ?_ ?_)) <;> first | omega | decide
          · have p1 := parse_long h1 (show 256 < (szL (bl s)).length by omega)
            have p2 : ∃ n e, parseR (denL (bl s)) = .tup [(.agg [.opq (.nat (n)), .pad]), .int .i64 e] := by
              by_cases h6 : (denL (bl s)).length ≤ 256
              · exact ⟨_, _, parse_ok h2 h6⟩
              · exact ⟨_, _, parse_long h2 (by omega)⟩
            obtain ⟨n2, e2, p2⟩ := p2
            rw [parF_2 hn (.inl (by omega))]
            rcases hm with hm | ⟨hm, hm2⟩
            · simp (maxSteps := 1000000) only [go_sem, hs', e47, b1, b4, b5, c1, size_bl, m1, hst', l1, l2, h1', h2', str_eq, hm, p1, p2]
              (repeat' (first | exact Conv.refl _ | refine And.intro ?_ ?_)) <;> first | omega | decide
            · simp (maxSteps := 1000000) only [go_sem, hs', e47, b1, b4, b5, c1, size_bl, m1, hst', l1, l2, h1', h2', str_eq, hm, hm2, p1, p2]
              (repeat' (first | exact Conv.refl _ | refine And.intro ?_ ?_)) <;> first | omega | decide
      · have h2' := decide_eq_false h2
        rw [parF_1 (.inr (.inl h2))]
        simp (maxSteps := 1000000) only [go_sem, hs', e47, b1, b4, b5, c1, size_bl, m1, hst', l1, l2, h1', h2', str_eq]
        (repeat' (first | exact Conv.refl _ | refine And.intro ?_ ?_)) <;> first | omega | decide
    · have h1' := decide_eq_false h1
      rw [parF_1 (.inl h1)]
      simp (maxSteps := 1000000) only [go_sem, hs', e47, b1, b4, b5, c1, size_bl, m1, hst', l1, l2, h1', str_eq]
      (repeat' (first | exact Conv.refl _ | refine And.intro ?_ ?_)) <;> first | omega | decide
  · have hst' : decide (47 ∈ bl s) = false := decide_eq_false hst
    have b5 : bl ⟨#[49]⟩ = denL (bl s) := (den_one hst).symm
    by_cases h1 : okD (szL (bl s))
    · have h1' := decide_eq_true h1
      by_cases h2 : okD (denL (bl s))
      · have h2' := decide_eq_true h2
        by_cases h3 : mnL (bl s) = true ∧ szL (bl s) = [48]
        · have h4' := decide_eq_true h3.2
          rw [parF_1 (.inr (.inr h3))]
          simp (maxSteps := 1000000) only [go_sem, hs', e47, b1, b4, b5, c1, size_bl, m1, hst', l1, l2, h1', h2', h3.1, h4', str_eq]
          (repeat' (first | exact Conv.refl _ | refine And.intro ?_ ?_)) <;> first | omega | decide
        · have hn : ¬ (¬ okD (szL (bl s)) ∨ ¬ okD (denL (bl s)) ∨ (mnL (bl s) = true ∧ szL (bl s) = [48])) := by
            rintro (h | h | h)
            · exact h h1
            · exact h h2
            · exact h3 h
          have hm : mnL (bl s) = false ∨ (mnL (bl s) = true ∧ decide (szL (bl s) = [48]) = false) := by
            cases hm : mnL (bl s)
            · exact .inl rfl
            · exact .inr ⟨rfl, decide_eq_false fun e => h3 ⟨hm, e⟩⟩
          have two : (0 : Int) != 3 := by decide
          by_cases h5 : (szL (bl s)).length ≤ 256
          · have p1 := parse_ok h1 h5
            have v1 := valL_blen h1 h5
            by_cases h6 : (denL (bl s)).length ≤ 256
            · have p2 := parse_ok h2 h6
              have v2 := valL_blen h2 h6
              have v1' := Nat.le_trans v1 (show _ ≤ 68719476736 by decide)
              have v2' := Nat.le_trans v2 (show _ ≤ 68719476736 by decide)
              have v2'' := Nat.le_trans v2 (show _ ≤ 34359738368 by decide)
              have g1 : blen (Nat.gcd (valL (szL (bl s))) (valL (denL (bl s)))) ≤ 68719476736 := gcd_blen v1' v2'
              have w1 : wl (sg (mnL (bl s)) (valL (szL (bl s)))) ≤ 34359738368 := by unfold wl; rw [sg_abs]; exact Nat.le_trans v1 (by decide)
              have hl : ¬ (256 < (szL (bl s)).length ∨ 256 < (denL (bl s)).length) := by omega
              by_cases h7 : 47 ∈ bl s ∧ (valL (denL (bl s)) < 2 ∨ Nat.gcd (valL (szL (bl s))) (valL (denL (bl s))) ≠ 1)
              · rw [parF_3 hn hl h7]
                by_cases h8 : valL (denL (bl s)) < 2
                · rcases hm with hm | ⟨hm, hm2⟩
                  · first
                    | exact absurd h7.1 hst
                    | (simp (maxSteps := 1000000) only [go_sem, hs', e47, b1, b4, b5, c1, size_bl, m1, hst', l1, l2, h1', h2', str_eq, hm, p1, p2, v1', v2', blen_lt2, h8]
                       (repeat' (first | exact Conv.refl _ | refine And.intro ?_ ?_)) <;> first | omega | decide)
                  · first
                    | exact absurd h7.1 hst
                    | (simp (maxSteps := 1000000) only [go_sem, hs', e47, b1, b4, b5, c1, size_bl, m1, hst', l1, l2, h1', h2', str_eq, hm, hm2, p1, p2, v1', v2', blen_lt2, h8]
                       (repeat' (first | exact Conv.refl _ | refine And.intro ?_ ?_)) <;> first | omega | decide)
                · have h9 : decide (Nat.gcd (valL (szL (bl s))) (valL (denL (bl s))) ≠ 1) = true := decide_eq_true (h7.2.resolve_left h8)
                  rcases hm with hm | ⟨hm, hm2⟩
                  · first
                    | exact absurd h7.1 hst
                    | (simp (maxSteps := 1000000) only [go_sem, hs', e47, b1, b4, b5, c1, size_bl, m1, hst', l1, l2, h1', h2', str_eq, hm, p1, p2, v1', v2', blen_lt2, h8, g1, blen_ne1, h9]
                       (repeat' (first | exact Conv.refl _ | refine And.intro ?_ ?_)) <;> first | omega | decide)
                  · first
                    | exact absurd h7.1 hst
                    | (simp (maxSteps := 1000000) only [go_sem, hs', e47, b1, b4, b5, c1, size_bl, m1, hst', l1, l2, h1', h2', str_eq, hm, hm2, p1, p2, v1', v2', blen_lt2, h8, g1, blen_ne1, h9]
                       (repeat' (first | exact Conv.refl _ | refine And.intro ?_ ?_)) <;> first | omega | decide)
              · rw [parF_4 hn hl h7]
                have h8 : 47 ∈ bl s → ¬ valL (denL (bl s)) < 2 := fun k e => h7 ⟨k, .inl e⟩
                have h9 : 47 ∈ bl s → decide (Nat.gcd (valL (szL (bl s))) (valL (denL (bl s))) ≠ 1) = false := fun k => decide_eq_false fun e => h7 ⟨k, .inr e⟩
                have hpos : 0 < valL (denL (bl s)) := den_pos' fun k => by have := h8 k; omega
                rcases hm with hm | ⟨hm, hm2⟩
                · rw [hm] at w1 ⊢
                  first
                    | (have h8 := h8 hst
                       have h9 := h9 hst
                       simp (maxSteps := 1000000) only [go_sem, hs', e47, b1, b4, b5, c1, size_bl, m1, hst', l1, l2, h1', h2', str_eq, hm, p1, p2, v1', v2', v2'', blen_lt2, h8, g1, blen_ne1, h9, w1, hpos]
                       (repeat' (first | exact Conv.refl _ | refine And.intro ?_ ?_)) <;> first | omega | decide)
                    | (simp (maxSteps := 1000000) only [go_sem, hs', e47, b1, b4, b5, c1, size_bl, m1, hst', l1, l2, h1', h2', str_eq, hm, p1, p2, v1', v2', v2'', w1, hpos]
                       (repeat' (first | exact Conv.refl _ | refine And.intro ?_ ?_)) <;> first | omega | decide)
                · rw [hm] at w1 ⊢
                  first
                    | (have h8 := h8 hst
                       have h9 := h9 hst
                       simp (maxSteps := 1000000) only [go_sem, hs', e47, b1, b4, b5, c1, size_bl, m1, hst', l1, l2, h1', h2', str_eq, hm, hm2, p1, p2, v1', v2', v2'', blen_lt2, h8, g1, blen_ne1, h9, w1, hpos]
                       (repeat' (first | exact Conv.refl _ | refine And.intro ?_ ?_)) <;> first | omega | decide)
                    | (simp (maxSteps := 1000000) only [go_sem, hs', e47, b1, b4, b5, c1, size_bl, m1, hst', l1, l2, h1', h2', str_eq, hm, hm2, p1, p2, v1', v2', v2'', w1, hpos]
                       (repeat' (first | exact Conv.refl _ | refine And.intro ?_ ?_)) <;> first | omega | decide)
            · have p2 := parse_long h2 (show 256 < (denL (bl s)).length by omega)
              rw [parF_2 hn (.inr (by omega))]
              rcases hm with hm | ⟨hm, hm2⟩
              · simp (maxSteps := 1000000) only [go_sem, hs', e47, b1, b4, b5, c1, size_bl, m1, hst', l1, l2, h1', h2', str_eq, hm, p1, p2]
                (repeat' (first | exact Conv.refl _ | refine And.intro ?_ ?_)) <;> first | omega | decide
              · simp (maxSteps := 1000000) only [go_sem, hs', e47, b1, b4, b5, c1, size_bl, m1, hst', l1, l2, h1', h2', str_eq, hm, hm2, p1, p2]
                (repeat' (first | exact Conv.refl _ | refine And.intro ?_ ?_)) <;> first | omega | decide
          · have p1 := parse_long h1 (show 256 < (szL (bl s)).length by omega)
            have p2 : ∃ n e, parseR (denL (bl s)) = .tup [(.agg [.opq (.nat (n)), .pad]), .int .i64 e] := by
              by_cases h6 : (denL (bl s)).length ≤ 256
              · exact ⟨_, _, parse_ok h2 h6⟩
              · exact ⟨_, _, parse_long h2 (by omega)⟩
            obtain ⟨n2, e2, p2⟩ := p2
            rw [parF_2 hn (.inl (by omega))]
            rcases hm with hm | ⟨hm, hm2⟩
            · simp (maxSteps := 1000000) only [go_sem, hs', e47, b1, b4, b5, c1, size_bl, m1, hst', l1, l2, h1', h2', str_eq, hm, p1, p2]
              (repeat' (first | exact Conv.refl _ | refine And.intro ?_ ?_)) <;> first | omega | decide
            · simp (maxSteps := 1000000) only [go_sem, hs', e47, b1, b4, b5, c1, size_bl, m1, hst', l1, l2, h1', h2', str_eq, hm, hm2, p1, p2]
              (repeat' (first | exact Conv.refl _ | refine And.intro ?_ ?_)) <;> first | omega | decide
      · have h2' := decide_eq_false h2
        rw [parF_1 (.inr (.inl h2))]
        simp (maxSteps := 1000000) only [go_sem, hs', e47, b1, b4, b5, c1, size_bl, m1, hst', l1, l2, h1', h2', str_eq]
        (repeat' (first | exact Conv.refl _ | refine And.intro ?_ ?_)) <;> first | omega | decide
    · have h1' := decide_eq_false h1
      rw [parF_1 (.inl h1)]
      simp (maxSteps := 1000000) only [go_sem, hs', e47, b1, b4, b5, c1, size_bl, m1, hst', l1, l2, h1', str_eq]
      (repeat' (first | exact Conv.refl _ | refine And.intro ?_ ?_)) <;> first | omega | decide
noncomputable def fParseS : List AV → Option (Prop × AV)
  | [.str s] => some ((bl s).length ≤ 549755813888, .tup [(.agg [.opq (.frac ((parF (bl s)).1)), .pad, .pad, .pad, .pad]), .int .i64 (parF (bl s)).2])
  | _ => none
theorem fParseS_ok (hP : PrgOk P) (args p r) (h : fParseS args = some (p, r)) (hp : p) : CSpec P 44 args r := by
  unfold fParseS at h
  split at h
  · simp only [Option.some.injEq, Prod.mk.injEq] at h
    obtain ⟨rfl, rfl⟩ := h
    exact fParse_spec hP _ hp
  · simp at h
attribute [go_sem] fParseS
end Go.Proofs.YtjnhekedclcbfaaGreatDoor.AM
/- Fractions: literals. -/
namespace Go.Proofs.YtjnhekedclcbfaaGreatDoor.AM
set_option linter.all false
set_option autoImplicit true
set_option relaxedAutoImplicit true
open Go Go.Proofs
set_option maxRecDepth 100000
set_option maxHeartbeats 8000000
set_option linter.unusedSimpArgs false
variable {P : Program}

noncomputable def Lt4 : Nat → List AV → Option (Prop × AV) := addS Lt3 44 fParseS
theorem Lt4_all (hP : PrgOk P) (T) (hT : TyOk P T) : EnvOk P ⟨T, Lt4⟩ := ((Lt3_all hP T hT).add (fParseS_ok hP))
theorem Lt4_at (f a) : Lt4 f a = (addS Lt3 44 fParseS) f a := rfl
attribute [go_sem] Lt4_at
theorem fLit_spec (hP : PrgOk P) (s : ByteArray) (hs : (bl s).length ≤ 549755813888) : CSpec P 17 [.str s] (.tup [(.agg [.opq (.frac ((litF (bl s)).1)), .pad, .pad, .pad, .pad]), .int .i64 (litF (bl s)).2]) := by
  have HE := Lt4_all hP TF hP.tF
  have e46 : (46 : UInt8).toNat = 46 := rfl
  have c1 := bl_cutA 46 s
  have c2 := bl_cutB 46 s
  have b0 : bl ⟨#[]⟩ = [] := rfl
  have hs' : (bl s).length ≤ 1099511627776 := by omega
  have lA := hd_le 46 (bl s)
  have lB := tl_le 46 (bl s)
  have z1 : (cutA 46 s).size + (cutB 46 s).size ≤ 9223372036854775807 := by rw [size_bl, size_bl, c1, c2]; omega
  have ca : bl (cutA 46 s ++ cutB 46 s) = hdL 46 (bl s) ++ tlL 46 (bl s) := by rw [bl_app, c1, c2]
  have z2 : (cutA 46 s ++ cutB 46 s).size ≤ 9223372036854775807 := by rw [ByteArray.size_append]; exact z1
  have z3 : (cutA 46 s ++ cutB 46 s).size = (hdL 46 (bl s) ++ tlL 46 (bl s)).length := by rw [size_bl, ca]
  have ht := trD_nil (cutA 46 s ++ cutB 46 s)
  rw [ca] at ht
  have hz := bl_trZ (cutA 46 s ++ cutB 46 s)
  rw [ca] at hz
  refine CSpec_vc (E := ⟨TF, Lt4⟩) (fn17 hP) HE hP.mix rfl (by first | rfl | (simp only [go_sem]; done)) (by first | rfl | (simp only [go_sem]; done)) (Nat.le_of_ble_eq_true rfl) ?_
  obtain ⟨A, hA⟩ : ∃ A, hdL 46 (bl s) = A := ⟨_, rfl⟩
  obtain ⟨B, hB⟩ : ∃ B, tlL 46 (bl s) = B := ⟨_, rfl⟩
  have hno : 46 ∉ bl s → B = [] := fun h => by rw [← hB]; exact (hd_no h).2.1
  have f1 : (A = [] ∨ (46 ∈ bl s ∧ B = []) ∨ ¬ dgs (A ++ B)) → litF (bl s) = (0, 12) := fun h => litF_1 (by rw [hA, hB]; exact h)
  have f2 : ¬ (A = [] ∨ (46 ∈ bl s ∧ B = []) ∨ ¬ dgs (A ++ B)) → 256 < (A ++ B).length → litF (bl s) = (0, 3) := fun h h2 => litF_2 (by rw [hA, hB]; exact h) (by rw [hA, hB]; exact h2)
  have f3 : ¬ (A = [] ∨ (46 ∈ bl s ∧ B = []) ∨ ¬ dgs (A ++ B)) → ¬ 256 < (A ++ B).length → litF (bl s) = (qlow (valL (A ++ B)) (10 ^ B.length), 0) := fun h h2 => by rw [litF_3 (by rw [hA, hB]; exact h) (by rw [hA, hB]; exact h2), hA, hB]
  rw [hA] at c1 z3 ht hz lA
  rw [hB] at c2 z3 ht hz lB
  by_cases h1 : A = []
  · have h1' : A.isEmpty = true := by rw [h1]; rfl
    rw [f1 (.inl h1)]
    simp (maxSteps := 1000000) only [go_sem, hs', e46, c1, c2, z1, z2, toList_nil, h1', ht]
    (repeat' (first | exact Conv.refl _ | refine And.intro ?_ ?_)) <;> first | omega | decide
  · have h1' : A.isEmpty = false := by cases A with | nil => exact absurd rfl h1 | cons => rfl
    by_cases h2 : 46 ∈ bl s ∧ B = []
    · have h2' := decide_eq_true h2.1
      have h2'' : B.isEmpty = true := by rw [h2.2]; rfl
      rw [f1 (.inr (.inl h2))]
      simp (maxSteps := 1000000) only [go_sem, hs', e46, c1, c2, z1, z2, toList_nil, h1', ht, h2', h2'']
      (repeat' (first | exact Conv.refl _ | refine And.intro ?_ ?_)) <;> first | omega | decide
    · have h3 : (46 ∈ bl s ∧ B.isEmpty = false) ∨ 46 ∉ bl s := by
        by_cases h : 46 ∈ bl s
        · refine .inl ⟨h, ?_⟩
          cases B with | nil => exact absurd ⟨h, rfl⟩ h2 | cons => rfl
        · exact .inr h
      rcases h3 with ⟨h3, h3'⟩ | h3
      · have h3 := decide_eq_true h3
        by_cases h4 : dgs (A ++ B)
        · have h4' := decide_eq_true h4
          have hn : ¬ (A = [] ∨ (46 ∈ bl s ∧ B = []) ∨ ¬ dgs (A ++ B)) := by
            rintro (h | h | h)
            · exact h1 h
            · exact h2 h
            · exact h h4
          by_cases h5 : 256 < (A ++ B).length
          · rw [f2 hn h5]
            rw [List.length_append] at h5
            simp (maxSteps := 1000000) only [go_sem, hs', e46, c1, c2, z1, z2, z3, toList_nil, h1', ht, h3, h3', h4', h5]
            (repeat' (first | exact Conv.refl _ | refine And.intro ?_ ?_)) <;> first | omega | decide
          · rw [f3 hn h5]
            by_cases h6 : dz (A ++ B) = []
            · have h6' : (dz (A ++ B)).isEmpty = true := by rw [h6]; rfl
              have hv : valL (A ++ B) = 0 := by rw [← valL_dz, h6]; rfl
              have hq : qlow (valL (A ++ B) : Nat) (10 ^ B.length) = 0 := by rw [hv, qlow_eq]; exact Rat.zero_mkRat _
              rw [List.length_append] at h5
              rw [hq]
              simp (maxSteps := 1000000) only [go_sem, hs', e46, c1, c2, z1, z2, z3, toList_nil, h1', ht, h3, h3', h4', h5, hz, h6']
              (repeat' (first | exact Conv.refl _ | refine And.intro ?_ ?_)) <;> first | omega | decide
            · have h6' : (dz (A ++ B)).isEmpty = false := by cases hd : dz (A ++ B) with | nil => exact absurd hd h6 | cons => rfl
              have hlen := dz_le (A ++ B)
              have hpa := parse_ok (dz_ok h4 h6) (Nat.le_trans hlen (by omega))
              have hdl : (dz (A ++ B)).length ≤ 1099511627776 := by omega
              have hvb : blen (valL (A ++ B)) ≤ 1024 := by
                have := valL_blen (dz_ok h4 h6) (Nat.le_trans hlen (by omega))
                rwa [valL_dz] at this
              rw [List.length_append] at h5
              rw [valL_dz] at hpa
              have h10 : blen 10 ≤ 68719476736 := by decide
              have h10i : (10 : Int).toNat = 10 := rfl
              have i10 : ((0 : Int) ≤ 10) = True := eq_true (by decide)
              simp (maxSteps := 1000000) only [go_sem, hs', e46, c1, c2, z1, z2, z3, toList_nil, h1', ht, h3, h3', h4', h5, hz, h6', hpa, hdl, size_bl]
              have z4 : A.length + B.length ≤ 9223372036854775807 := by omega
              refine ⟨z4, z4, ?_⟩
              have hB6 : B.length ≤ 256 := by omega
              refine trX_loop HE hP.mix [46, 42, 0] (fun i : Nat => ⟨upd (upd (upd (upd (upd (upd (fun _ => .junk) 2 (.ref 0 0)) 3 (.int .i64 0)) 8 (.ref 42 0)) 10 (.ref 46 0)) 51 (.int .i64 (B.length : Int))) 52 (.int .i64 (i : Int)), upd (upd (upd (fun _ => .unused) 0 (.live [.opq (.frac 0), .pad, .pad, .pad, .pad])) 42 (.live [.opq (.nat (valL (A ++ B))), .pad])) 46 (.live [.opq (.nat (10 ^ i)), .pad]), 62⟩)
                (fun i => i ≤ B.length) (fun i => B.length - i) 0 50 (by repeat (first | exact Has.nil | refine Has.upd rfl ?_)) (Kept.of rfl (by repeat (first | exact KT.nil | refine KT.upd rfl (by first | rfl | exact hr | exact hr2 | (simp only [go_sem]; done)) ?_)) (KM.p (by repeat (first | exact KMp.nil | refine KMp.upd rfl (by first | rfl | (simp only [go_sem]; done)) ?_)))) (Nat.zero_le _) 62 (by kernel_rfl) ?_
              intro i hi0
              have hi0 : i ≤ B.length := hi0
              have hbt : blen (10 ^ i) ≤ 68719476736 := Nat.le_trans (blen_ten i) (by omega)
              have hbt2 : blen (10 ^ i) ≤ 34359738368 := Nat.le_trans (blen_ten i) (by omega)
              have hpw : 10 ^ i * 10 = 10 ^ (i + 1) := (Nat.pow_succ 10 i).symm
              have hwi := wi_add1 i (by omega)
              by_cases hi : i < B.length
              · simp (maxSteps := 1000000) only [go_sem, hi, hbt, h10, h10i, i10, hpw, hwi]
                exact ⟨i + 1, Kept.of rfl (by repeat (first | exact KT.nil | refine KT.upd rfl (by first | rfl | exact hr | exact hr2 | (simp only [go_sem]; done)) ?_)) (KM.p (by repeat (first | exact KMp.nil | refine KMp.upd rfl (by first | rfl | (simp only [go_sem]; done)) ?_))), by show i + 1 ≤ _; omega, by show B.length - (i + 1) < B.length - i; omega⟩
              · have hie : i = B.length := by omega
                subst hie
                have w1 : wl (valL (A ++ B) : Int) ≤ 34359738368 := Nat.le_trans hvb (by decide)
                have w2 : blen (valL (A ++ B)) ≤ 34359738368 := Nat.le_trans hvb (by decide)
                have hp0 : 0 < 10 ^ B.length := Nat.pow_pos (by decide)
                simp (maxSteps := 1000000) only [go_sem, hi, hbt2, w1, w2, sg_f, hp0]
                (repeat' (first | exact Conv.refl _ | refine And.intro ?_ ?_)) <;> first | omega | decide
        · have h4' := decide_eq_false h4
          rw [f1 (.inr (.inr h4))]
          simp (maxSteps := 1000000) only [go_sem, hs', e46, c1, c2, z1, z2, toList_nil, h1', ht, h3, h3', h4']
          (repeat' (first | exact Conv.refl _ | refine And.intro ?_ ?_)) <;> first | omega | decide
      · have h3 := decide_eq_false h3
        by_cases h4 : dgs (A ++ B)
        · have h4' := decide_eq_true h4
          have hn : ¬ (A = [] ∨ (46 ∈ bl s ∧ B = []) ∨ ¬ dgs (A ++ B)) := by
            rintro (h | h | h)
            · exact h1 h
            · exact h2 h
            · exact h h4
          by_cases h5 : 256 < (A ++ B).length
          · rw [f2 hn h5]
            rw [List.length_append] at h5
            simp (maxSteps := 1000000) only [go_sem, hs', e46, c1, c2, z1, z2, z3, toList_nil, h1', ht, h3, h4', h5]
            (repeat' (first | exact Conv.refl _ | refine And.intro ?_ ?_)) <;> first | omega | decide
          · rw [f3 hn h5]
            by_cases h6 : dz (A ++ B) = []
            · have h6' : (dz (A ++ B)).isEmpty = true := by rw [h6]; rfl
              have hv : valL (A ++ B) = 0 := by rw [← valL_dz, h6]; rfl
              have hq : qlow (valL (A ++ B) : Nat) (10 ^ B.length) = 0 := by rw [hv, qlow_eq]; exact Rat.zero_mkRat _
              rw [List.length_append] at h5
              rw [hq]
              simp (maxSteps := 1000000) only [go_sem, hs', e46, c1, c2, z1, z2, z3, toList_nil, h1', ht, h3, h4', h5, hz, h6']
              (repeat' (first | exact Conv.refl _ | refine And.intro ?_ ?_)) <;> first | omega | decide
            · have h6' : (dz (A ++ B)).isEmpty = false := by cases hd : dz (A ++ B) with | nil => exact absurd hd h6 | cons => rfl
              have hlen := dz_le (A ++ B)
              have hpa := parse_ok (dz_ok h4 h6) (Nat.le_trans hlen (by omega))
              have hdl : (dz (A ++ B)).length ≤ 1099511627776 := by omega
              have hvb : blen (valL (A ++ B)) ≤ 1024 := by
                have := valL_blen (dz_ok h4 h6) (Nat.le_trans hlen (by omega))
                rwa [valL_dz] at this
              rw [List.length_append] at h5
              rw [valL_dz] at hpa
              have h10 : blen 10 ≤ 68719476736 := by decide
              have h10i : (10 : Int).toNat = 10 := rfl
              have i10 : ((0 : Int) ≤ 10) = True := eq_true (by decide)
              simp (maxSteps := 1000000) only [go_sem, hs', e46, c1, c2, z1, z2, z3, toList_nil, h1', ht, h3, h4', h5, hz, h6', hpa, hdl, size_bl]
              have z4 : A.length + B.length ≤ 9223372036854775807 := by omega
              refine ⟨z4, z4, ?_⟩
              have hB6 : B.length ≤ 256 := by omega
              refine trX_loop HE hP.mix [44, 40, 0] (fun i : Nat => ⟨upd (upd (upd (upd (upd (upd (fun _ => .junk) 2 (.ref 0 0)) 3 (.int .i64 0)) 8 (.ref 40 0)) 10 (.ref 44 0)) 51 (.int .i64 (B.length : Int))) 52 (.int .i64 (i : Int)), upd (upd (upd (fun _ => .unused) 0 (.live [.opq (.frac 0), .pad, .pad, .pad, .pad])) 40 (.live [.opq (.nat (valL (A ++ B))), .pad])) 44 (.live [.opq (.nat (10 ^ i)), .pad]), 62⟩)
                (fun i => i ≤ B.length) (fun i => B.length - i) 0 50 (by repeat (first | exact Has.nil | refine Has.upd rfl ?_)) (Kept.of rfl (by repeat (first | exact KT.nil | refine KT.upd rfl (by first | rfl | exact hr | exact hr2 | (simp only [go_sem]; done)) ?_)) (KM.p (by repeat (first | exact KMp.nil | refine KMp.upd rfl (by first | rfl | (simp only [go_sem]; done)) ?_)))) (Nat.zero_le _) 62 (by kernel_rfl) ?_
              intro i hi0
              have hi0 : i ≤ B.length := hi0
              have hbt : blen (10 ^ i) ≤ 68719476736 := Nat.le_trans (blen_ten i) (by omega)
              have hbt2 : blen (10 ^ i) ≤ 34359738368 := Nat.le_trans (blen_ten i) (by omega)
              have hpw : 10 ^ i * 10 = 10 ^ (i + 1) := (Nat.pow_succ 10 i).symm
              have hwi := wi_add1 i (by omega)
              by_cases hi : i < B.length
              · simp (maxSteps := 1000000) only [go_sem, hi, hbt, h10, h10i, i10, hpw, hwi]
                exact ⟨i + 1, Kept.of rfl (by repeat (first | exact KT.nil | refine KT.upd rfl (by first | rfl | exact hr | exact hr2 | (simp only [go_sem]; done)) ?_)) (KM.p (by repeat (first | exact KMp.nil | refine KMp.upd rfl (by first | rfl | (simp only [go_sem]; done)) ?_))), by show i + 1 ≤ _; omega, by show B.length - (i + 1) < B.length - i; omega⟩
              · have hie : i = B.length := by omega
                subst hie
                have w1 : wl (valL (A ++ B) : Int) ≤ 34359738368 := Nat.le_trans hvb (by decide)
                have w2 : blen (valL (A ++ B)) ≤ 34359738368 := Nat.le_trans hvb (by decide)
                have hp0 : 0 < 10 ^ B.length := Nat.pow_pos (by decide)
                simp (maxSteps := 1000000) only [go_sem, hi, hbt2, w1, w2, sg_f, hp0]
                (repeat' (first | exact Conv.refl _ | refine And.intro ?_ ?_)) <;> first | omega | decide
        · have h4' := decide_eq_false h4
          rw [f1 (.inr (.inr h4))]
          simp (maxSteps := 1000000) only [go_sem, hs', e46, c1, c2, z1, z2, toList_nil, h1', ht, h3, h4']
          (repeat' (first | exact Conv.refl _ | refine And.intro ?_ ?_)) <;> first | omega | decide
noncomputable def fLitS : List AV → Option (Prop × AV)
  | [.str s] => some ((bl s).length ≤ 549755813888, .tup [(.agg [.opq (.frac ((litF (bl s)).1)), .pad, .pad, .pad, .pad]), .int .i64 (litF (bl s)).2])
  | _ => none
theorem fLitS_ok (hP : PrgOk P) (args p r) (h : fLitS args = some (p, r)) (hp : p) : CSpec P 17 args r := by
  unfold fLitS at h
  split at h
  · simp only [Option.some.injEq, Prod.mk.injEq] at h
    obtain ⟨rfl, rfl⟩ := h
    exact fLit_spec hP _ hp
  · simp at h
attribute [go_sem] fLitS
noncomputable def Lt5 : Nat → List AV → Option (Prop × AV) := addS Lt4 17 fLitS
theorem Lt5_all (hP : PrgOk P) (T) (hT : TyOk P T) : EnvOk P ⟨T, Lt5⟩ := ((Lt4_all hP T hT).add (fLitS_ok hP))
theorem Lt5_at (f a) : Lt5 f a = (addS Lt4 17 fLitS) f a := rfl
attribute [go_sem] Lt5_at
end Go.Proofs.YtjnhekedclcbfaaGreatDoor.AM
/- The document's whole numbers. -/
namespace Go.Proofs.YtjnhekedclcbfaaGreatDoor.AM
set_option linter.all false
set_option autoImplicit true
set_option relaxedAutoImplicit true
open Go Go.Proofs
set_option maxRecDepth 100000
set_option maxHeartbeats 8000000
set_option linter.unusedSimpArgs false
variable {P : Program}

def rC (z : Int) : List AV := [.bool (decide (z < 0)), .opq (.rnat z.natAbs)]
theorem CvL.rintIn (z : Int) {xs bs} (h : CvL xs bs) : CvL ((.agg [.opq (.rint (z)), .pad]) :: xs) (.agg (rC z) :: bs) := .agg (by simpa [Pay.open, Pay.width, rC] using CvL.unfold (.rint z) []) h
theorem CvL.rintOut (z : Int) {xs bs} (h : CvL xs bs) : CvL (.agg (rC z) :: xs) ((.agg [.opq (.rint (z)), .pad]) :: bs) := .agg (by simpa [Pay.open, Pay.width, rC] using CvL.fold (.rint z) [] rfl) h
theorem Conv.rint (z : Int) : Conv (.agg (rC z)) (.agg [.opq (.rint (z)), .pad]) := CvL.conv (.rintOut z .nil)
theorem rC_sg {m : Bool} {a : Nat} (h : m = true → 0 < a) : rC (sg m a) = [.bool m, .opq (.rnat a)] := by
  unfold rC; rw [sg_abs, sg_neg]
  cases m
  · rfl
  · rw [decide_eq_true (h rfl)]; rfl
def rawI : AV → Option (Prop × Int)
  | .agg [.opq (.rint z), .pad] => some (True, z)
  | .agg [.bool m, .opq (.rnat a)] => some (m = true → 0 < a, sg m a)
  | _ => none
theorem rawI_atom (z : Int) : rawI (.agg [.opq (.rint (z)), .pad]) = some (True, z) := rfl
theorem rawI_raw (m a) : rawI (.agg [.bool m, .opq (.rnat a)]) = some (m = true → 0 < a, sg m a) := rfl
theorem rawI_cv {v : AV} {p z} (h : rawI v = some (p, z)) (hp : p) {xs bs} (k : CvL xs bs) : CvL (v :: xs) ((.agg [.opq (.rint (z)), .pad]) :: bs) := by
  unfold rawI at h
  split at h
  · simp only [Option.some.injEq, Prod.mk.injEq] at h
    obtain ⟨rfl, rfl⟩ := h
    exact .agg (.refl _) k
  · simp only [Option.some.injEq, Prod.mk.injEq] at h
    obtain ⟨rfl, rfl⟩ := h
    rw [← rC_sg hp]; exact .rintOut _ k
  · simp at h
def onI1 (f : Int → Prop × AV) : List AV → Option (Prop × AV)
  | [x] => (rawI x).map fun a => (a.1 ∧ (f a.2).1, (f a.2).2)
  | _ => none
def onI2 (f : Int → Int → Prop × AV) : List AV → Option (Prop × AV)
  | [x, y] => (rawI x).bind fun a => (rawI y).map fun b => (a.1 ∧ b.1 ∧ (f a.2 b.2).1, (f a.2 b.2).2)
  | _ => none
theorem onI1_ok {fi : Nat} {f : Int → Prop × AV} (h : ∀ a, (f a).1 → CSpec P fi [(.agg [.opq (.rint (a)), .pad])] (f a).2) (args p r) (he : onI1 f args = some (p, r)) (hp : p) : CSpec P fi args r := by
  unfold onI1 at he
  split at he
  · simp only [Option.map_eq_some_iff, Prod.exists, Prod.mk.injEq] at he
    obtain ⟨q, a, h1, rfl, rfl⟩ := he
    exact (h a hp.2).cv (rawI_cv h1 hp.1 .nil)
  · simp at he
theorem onI2_ok {fi : Nat} {f : Int → Int → Prop × AV} (h : ∀ a b, (f a b).1 → CSpec P fi [(.agg [.opq (.rint (a)), .pad]), (.agg [.opq (.rint (b)), .pad])] (f a b).2) (args p r) (he : onI2 f args = some (p, r)) (hp : p) : CSpec P fi args r := by
  unfold onI2 at he
  split at he
  · simp only [Option.bind_eq_some_iff, Option.map_eq_some_iff, Prod.exists, Prod.mk.injEq] at he
    obtain ⟨q, a, h1, q', b, h2, rfl, rfl⟩ := he
    exact (h a b hp.2.2).cv (rawI_cv h1 hp.1 (rawI_cv h2 hp.2.1 .nil))
  · simp at he
theorem onI1_eq (f x) : onI1 f [x] = (rawI x).map fun a => (a.1 ∧ (f a.2).1, (f a.2).2) := rfl
theorem onI2_eq (f x y) : onI2 f [x, y] = (rawI x).bind fun a => (rawI y).map fun b => (a.1 ∧ b.1 ∧ (f a.2 b.2).1, (f a.2 b.2).2) := rfl
attribute [go_sem] rawI_atom rawI_raw onI1_eq onI2_eq
theorem CvL.conv1 {a b : AV} (h : Conv a b) : CvL [a] [b] := fun X φ w l hl => by
  obtain ⟨v, rfl⟩ : ∃ v, l = [v] := by
    have := hl.length
    match l, this with
    | [v], _ => exact ⟨v, rfl⟩
  exact h X φ w v hl
theorem cmp_ge' {a b : Nat} (h : b ≤ a) : decide (0 ≤ cmpI a b) = true := by
  rcases Nat.lt_or_eq_of_le h with h | h
  · rw [cmpI_gt h]; rfl
  · rw [h, cmpI_eq]; rfl
theorem blen_pos_iff {a : Nat} : 0 < blen a ↔ 0 < a := by
  have := blen_zero_iff a; omega
def iMakeS : List AV → Option (Prop × AV)
  | [.bool m, x] => (rawR x).map fun a => (a.1 ∧ blen a.2 ≤ 68719476736, (.agg [.opq (.rint (sg m a.2)), .pad]))
  | _ => none
theorem iMakeS_eq (m x) : iMakeS [.bool m, x] = (rawR x).map fun a => (a.1 ∧ blen a.2 ≤ 68719476736, (.agg [.opq (.rint (sg m a.2)), .pad])) := rfl
attribute [go_sem] iMakeS_eq
def iSignS : List AV → Option (Prop × AV) := onI1 fun a => (wl a ≤ 68719476736, .int .i64 (sgnZ a))
attribute [go_sem] iSignS
noncomputable def It0 : Nat → List AV → Option (Prop × AV) := Sr
theorem It0_all (hP : PrgOk P) (T) (hT : TyOk P T) : EnvOk P ⟨T, It0⟩ := (Sr_all hP T hT)
attribute [go_sem] It0
def iOfS : List AV → Option (Prop × AV)
  | [.int .i64 n] => some (-9223372036854775808 ≤ n ∧ n ≤ 9223372036854775807, (.agg [.opq (.rint (n)), .pad]))
  | _ => none
attribute [go_sem] iOfS
def iTextS : List AV → Option (Prop × AV) := onI1 fun a => (wl a ≤ 68719476736, .str (itS a))
attribute [go_sem] iTextS
def iInt64S : List AV → Option (Prop × AV) := onI1 fun z => (wl z ≤ 68719476736, .tup [.int .i64 (if fitZ z = true then z else 0), .bool (fitZ z)])
attribute [go_sem] iInt64S
def iNegS : List AV → Option (Prop × AV) := onI1 fun a => (wl a ≤ 68719476736, (.agg [.opq (.rint (-a)), .pad]))
attribute [go_sem] iNegS
def iMulS : List AV → Option (Prop × AV) := onI2 fun a b => (wl a ≤ 34359738368 ∧ wl b ≤ 34359738368, (.agg [.opq (.rint (a * b)), .pad]))
attribute [go_sem] iMulS
def iAddS : List AV → Option (Prop × AV) := onI2 fun a b => (wl a ≤ 34359738368 ∧ wl b ≤ 34359738368, (.agg [.opq (.rint (a + b)), .pad]))
attribute [go_sem] iAddS
noncomputable def It1 : Nat → List AV → Option (Prop × AV) := It0
theorem It1_all (hP : PrgOk P) (T) (hT : TyOk P T) : EnvOk P ⟨T, It1⟩ := (It0_all hP T hT)
attribute [go_sem] It1
end Go.Proofs.YtjnhekedclcbfaaGreatDoor.AM
/- The document's fractions. -/
namespace Go.Proofs.YtjnhekedclcbfaaGreatDoor.AM
set_option linter.all false
set_option autoImplicit true
set_option relaxedAutoImplicit true
open Go Go.Proofs
set_option maxRecDepth 100000
set_option maxHeartbeats 8000000
set_option linter.unusedSimpArgs false
variable {P : Program}

theorem CvL.rnatOut (n : Nat) {xs bs} (k : CvL xs bs) : CvL ((.imm (digs 65536 (n)).length (List.map (fun d : Nat => AV.int .u32 (d : Int)) (digs 65536 (n)))) :: xs) ((.opq (.rnat (n))) :: bs) := fun W φ w l hl => by
  obtain ⟨v, vs, rfl, h1, h2⟩ := hl.uncons rfl
  exact (Conv.rnat n _ _ _ _ h1).app (k _ _ _ _ h2)
def rG (q : Rat) : List AV := [.bool (decide (q.num < 0)), (.imm (digs 65536 (q.num.natAbs)).length (List.map (fun d : Nat => AV.int .u32 (d : Int)) (digs 65536 (q.num.natAbs)))), (.imm (digs 65536 (q.den)).length (List.map (fun d : Nat => AV.int .u32 (d : Int)) (digs 65536 (q.den))))]
theorem CvL.rfIn (q : Rat) {xs bs} (h : CvL xs bs) : CvL ((.agg [.opq (.rfrac (q)), .pad, .pad]) :: xs) (.agg (rG q) :: bs) := by
  refine .agg (fun W φ w l hl => ?_) h
  have h1 : CvL [.opq (.rfrac q), .pad, .pad] [.bool (decide (q.num < 0)), (.opq (.rnat (q.num.natAbs))), (.opq (.rnat (q.den)))] := by simpa [Pay.open, Pay.width] using CvL.unfold (.rfrac q) []
  have h2 : CvL [.bool (decide (q.num < 0)), (.opq (.rnat (q.num.natAbs))), (.opq (.rnat (q.den)))] (rG q) := CvL.cons rfl (CvL.rnatIn _ (CvL.rnatIn _ .nil))
  exact h2 _ _ _ _ (h1 _ _ _ _ hl)
theorem CvL.rfOut (q : Rat) {xs bs} (h : CvL xs bs) : CvL (.agg (rG q) :: xs) ((.agg [.opq (.rfrac (q)), .pad, .pad]) :: bs) := by
  refine .agg (fun W φ w l hl => ?_) h
  have h1 : CvL [.bool (decide (q.num < 0)), (.opq (.rnat (q.num.natAbs))), (.opq (.rnat (q.den)))] [.opq (.rfrac q), .pad, .pad] := by simpa [Pay.open, Pay.width] using CvL.fold (.rfrac q) [] rfl
  have h2 : CvL (rG q) [.bool (decide (q.num < 0)), (.opq (.rnat (q.num.natAbs))), (.opq (.rnat (q.den)))] := CvL.cons rfl (CvL.rnatOut _ (CvL.rnatOut _ .nil))
  exact h1 _ _ _ _ (h2 _ _ _ _ hl)
theorem Conv.rf (q : Rat) : Conv (.agg (rG q)) (.agg [.opq (.rfrac (q)), .pad, .pad]) := CvL.conv (.rfOut q .nil)
theorem sg_lt {m : Bool} {n : Nat} (h : m = true → 0 < n) : decide (sg m n < 0) = m := by
  rw [sg_neg]; cases m
  · rfl
  · rw [decide_eq_true (h rfl)]; rfl
theorem rG_mk {m : Bool} {n d : Nat} (h : m = true → 0 < n) (hd : 0 < d) (hg : Nat.gcd n d = 1) : rG (mkRat (sg m n) d) = [.bool m, (.imm (digs 65536 (n)).length (List.map (fun d : Nat => AV.int .u32 (d : Int)) (digs 65536 (n)))), (.imm (digs 65536 (d)).length (List.map (fun d : Nat => AV.int .u32 (d : Int)) (digs 65536 (d))))] := by
  unfold rG
  rw [mk_num hd, mk_den hd, sg_abs, hg, Nat.div_one, Nat.div_one, sg_lt h, sg_lt h, sg_abs]
noncomputable def rawRF : AV → Option (Prop × Rat)
  | .agg [.opq (.rfrac q), .pad, .pad] => some (True, q)
  | .agg [.bool m, x, y] => (rawR x).bind fun n => (rawR y).map fun d => (n.1 ∧ d.1 ∧ (m = true → 0 < n.2) ∧ 0 < d.2 ∧ Nat.gcd n.2 d.2 = 1, qlow (sg m n.2) d.2)
  | _ => none
theorem rawRF_atom (q : Rat) : rawRF (.agg [.opq (.rfrac (q)), .pad, .pad]) = some (True, q) := rfl
theorem rawRF_raw (m x y) : rawRF (.agg [.bool m, x, y]) = (rawR x).bind fun n => (rawR y).map fun d => (n.1 ∧ d.1 ∧ (m = true → 0 < n.2) ∧ 0 < d.2 ∧ Nat.gcd n.2 d.2 = 1, qlow (sg m n.2) d.2) := rfl
theorem rawRF_G (q : Rat) : rawRF (.agg [.bool (decide ((q).num < 0)), (.imm (digs 65536 ((q).num.natAbs)).length (List.map (fun d : Nat => AV.int .u32 (d : Int)) (digs 65536 ((q).num.natAbs)))), (.imm (digs 65536 ((q).den)).length (List.map (fun d : Nat => AV.int .u32 (d : Int)) (digs 65536 ((q).den))))]) = some (True, q) := by
  rw [rawRF_raw, rawR_imm, rawR_imm]
  simp only [Option.bind_some, Option.map_some, isR_digs, map_ud32, dOf_digs16, true_and]
  rw [sg_of, qlow_eq, q_self]
  congr 2
  refine eq_true ⟨fun h => ?_, q.den_pos, q_gcd q⟩
  have := of_decide_eq_true h
  omega
theorem rawRF_cv {v : AV} {p q} (h : rawRF v = some (p, q)) (hp : p) {xs bs} (k : CvL xs bs) : CvL (v :: xs) ((.agg [.opq (.rfrac (q)), .pad, .pad]) :: bs) := by
  unfold rawRF at h
  split at h
  · simp only [Option.some.injEq, Prod.mk.injEq] at h
    obtain ⟨rfl, rfl⟩ := h
    exact .agg (.refl _) k
  · rename_i m x y
    simp only [Option.bind_eq_some_iff, Option.map_eq_some_iff, Prod.exists, Prod.mk.injEq] at h
    obtain ⟨p1, n, h1, p2, d, h2, rfl, rfl⟩ := h
    obtain ⟨c1, c2, c3, c4, c5⟩ := hp
    have e := rG_mk c3 c4 c5
    rw [qlow_eq]
    have h3 : CvL (.agg [.bool m, x, y] :: xs) (.agg (rG (mkRat (sg m n) d)) :: xs) := by
      rw [e]
      exact .agg (CvL.cons rfl (rawR_cv h1 c1 (rawR_cv h2 c2 .nil))) (.refl _)
    exact fun W φ w l hl => CvL.rfOut _ k _ _ _ _ (h3 _ _ _ _ hl)
  · simp at h
noncomputable def onQ1 (f : Rat → Prop × AV) : List AV → Option (Prop × AV)
  | [x] => (rawRF x).map fun a => (a.1 ∧ (f a.2).1, (f a.2).2)
  | _ => none
noncomputable def onQ2 (f : Rat → Rat → Prop × AV) : List AV → Option (Prop × AV)
  | [x, y] => (rawRF x).bind fun a => (rawRF y).map fun b => (a.1 ∧ b.1 ∧ (f a.2 b.2).1, (f a.2 b.2).2)
  | _ => none
theorem onQ1_ok {fi : Nat} {f : Rat → Prop × AV} (h : ∀ a, (f a).1 → CSpec P fi [(.agg [.opq (.rfrac (a)), .pad, .pad])] (f a).2) (args p r) (he : onQ1 f args = some (p, r)) (hp : p) : CSpec P fi args r := by
  unfold onQ1 at he
  split at he
  · simp only [Option.map_eq_some_iff, Prod.exists, Prod.mk.injEq] at he
    obtain ⟨q, a, h1, rfl, rfl⟩ := he
    exact (h a hp.2).cv (rawRF_cv h1 hp.1 .nil)
  · simp at he
theorem onQ2_ok {fi : Nat} {f : Rat → Rat → Prop × AV} (h : ∀ a b, (f a b).1 → CSpec P fi [(.agg [.opq (.rfrac (a)), .pad, .pad]), (.agg [.opq (.rfrac (b)), .pad, .pad])] (f a b).2) (args p r) (he : onQ2 f args = some (p, r)) (hp : p) : CSpec P fi args r := by
  unfold onQ2 at he
  split at he
  · simp only [Option.bind_eq_some_iff, Option.map_eq_some_iff, Prod.exists, Prod.mk.injEq] at he
    obtain ⟨q, a, h1, q', b, h2, rfl, rfl⟩ := he
    exact (h a b hp.2.2).cv (rawRF_cv h1 hp.1 (rawRF_cv h2 hp.2.1 .nil))
  · simp at he
theorem onQ1_eq (f x) : onQ1 f [x] = (rawRF x).map fun a => (a.1 ∧ (f a.2).1, (f a.2).2) := rfl
theorem onQ2_eq (f x y) : onQ2 f [x, y] = (rawRF x).bind fun a => (rawRF y).map fun b => (a.1 ∧ b.1 ∧ (f a.2 b.2).1, (f a.2 b.2).2) := rfl
attribute [go_sem] rawRF_atom rawRF_G onQ1_eq onQ2_eq
theorem digs0 (n : Nat) : ((digs 65536 n).length == 0) = decide (n = 0) := by
  rw [Bool.eq_iff_iff]; simp only [beq_iff_eq, decide_eq_true_eq]
  constructor
  · intro h
    have := dOf_digs16 n
    rw [List.length_eq_zero_iff.1 h] at this
    exact this.symm
  · intro h; rw [h, digs_zero]; rfl
theorem digs1 (n : Nat) : (0 < (digs 65536 n).length) = (0 < n) := by
  have := digs0 n
  rw [Bool.eq_iff_iff] at this; simp only [beq_iff_eq, decide_eq_true_eq] at this
  rw [eq_iff_iff]; omega
theorem digs1' {n : Nat} (h : (digs 65536 n).length = 1) : digs 65536 n = [n] := by
  have hd := dOf_digs16 n
  cases hl : digs 65536 n with
  | nil => rw [hl] at h; simp at h
  | cons c t =>
    rw [hl] at h hd
    have ht : t = [] := List.length_eq_zero_iff.1 (by simpa using h)
    subst ht
    simp [dOf] at hd
    rw [hd]
theorem rOne_spec (hP : PrgOk P) (n : Nat) (h : blen n ≤ 68719476736) : CSpec P 10 [(.imm (digs 65536 (n)).length (List.map (fun d : Nat => AV.int .u32 (d : Int)) (digs 65536 (n))))] (.bool (decide (n = 1))) := by
  have HE := Sp_ok hP
  by_cases h1 : (digs 65536 n).length = 1
  · rw [digs1' h1]
    have e : ((n : Int) == 1) = decide (n = 1) := by
      rw [Bool.eq_iff_iff]; simp only [beq_iff_eq, decide_eq_true_eq]; omega
    refine CSpec_vc (E := ⟨T0, Sp⟩) (fn10 hP) HE hP.mix rfl (by first | rfl | (simp only [go_sem]; done)) (by first | rfl | (simp only [go_sem]; done)) (Nat.le_of_ble_eq_true rfl) ?_
    simp (maxSteps := 1000000) only [go_sem, h, List.map_cons, List.map_nil, List.length_cons, List.length_nil, e]
    (repeat' (first | exact Conv.refl _ | refine And.intro ?_ ?_)) <;> first | omega | decide
  · have e1 : ((digs 65536 n).length == 1) = false := beq_eq_false_iff_ne.2 h1
    have e2 : decide (n = 1) = false := decide_eq_false fun e => h1 (by rw [e, digs_small 65536 1 (by decide) (by decide) (by decide)]; rfl)
    rw [e2]
    refine CSpec_vc (E := ⟨T0, Sp⟩) (fn10 hP) HE hP.mix rfl (by first | rfl | (simp only [go_sem]; done)) (by first | rfl | (simp only [go_sem]; done)) (Nat.le_of_ble_eq_true rfl) ?_
    simp (maxSteps := 1000000) only [go_sem, h, e1]
    (repeat' (first | exact Conv.refl _ | refine And.intro ?_ ?_)) <;> first | omega | decide
def rOneS : List AV → Option (Prop × AV) := onR1 fun a => (blen a ≤ 68719476736, .bool (decide (a = 1)))
theorem rOneS_ok (hP : PrgOk P) (args p r) : rOneS args = some (p, r) → p → CSpec P 10 args r := onR1_ok (fun a h => by exact rOne_spec hP a h) args p r
attribute [go_sem] rOneS
noncomputable def Fr0 : Nat → List AV → Option (Prop × AV) := addS Sp 10 rOneS
theorem Fr0_ok (hP : PrgOk P) : EnvOk P ⟨T0, Fr0⟩ := ((Sp_ok hP).add (rOneS_ok hP))
theorem Fr0_at (f a) : Fr0 f a = (addS Sp 10 rOneS) f a := rfl
attribute [go_sem] Fr0_at
theorem rLow_spec (hP : PrgOk P) (m : Bool) (n d : Nat) (hn : blen n ≤ 34359738368) (hd : blen d ≤ 34359738368) (h0 : 0 < d) : CSpec P 52 [.bool m, (.imm (digs 65536 (n)).length (List.map (fun d : Nat => AV.int .u32 (d : Int)) (digs 65536 (n)))), (.imm (digs 65536 (d)).length (List.map (fun d : Nat => AV.int .u32 (d : Int)) (digs 65536 (d))))] (.agg [.opq (.rfrac (qlow (sg m n) d)), .pad, .pad]) := by
  have HE := Fr0_ok hP
  rw [qlow_eq]
  refine CSpec.conv (r := .agg (rG (mkRat (sg m n) d))) ?_ (.rf _)
  have hn' := Nat.le_trans hn (show _ ≤ 68719476736 by decide)
  have hd' := Nat.le_trans hd (show _ ≤ 68719476736 by decide)
  refine CSpec_vc (E := ⟨T0, Fr0⟩) (fn52 hP) HE hP.mix rfl (by first | rfl | (simp only [go_sem]; done)) (by first | rfl | (simp only [go_sem]; done)) (Nat.le_of_ble_eq_true rfl) ?_
  by_cases h : n = 0
  · have e : rG (mkRat (sg m n) d) = [.bool false, (.imm (digs 65536 (0)).length (List.map (fun d : Nat => AV.int .u32 (d : Int)) (digs 65536 (0)))), (.imm (digs 65536 (1)).length (List.map (fun d : Nat => AV.int .u32 (d : Int)) (digs 65536 (1))))] := by
      have : mkRat (sg m n) d = 0 := by rw [h, sg_zero]; exact Rat.zero_mkRat _
      rw [this]; rfl
    have hb : decide (n = 0) = true := decide_eq_true h
    have i1 : (1 : Int).toNat = 1 := rfl
    rw [e]
    simp (maxSteps := 1000000) only [go_sem, digs0, hb, i1]
    rw [digs_zero]
    exact ⟨by omega, CvL.conv (.agg (CvL.cons (a := .bool false) rfl (.nilR (.refl _))) .nil)⟩
  · have hb : decide (n = 0) = false := decide_eq_false h
    have hg : 0 < Nat.gcd n d := Nat.gcd_pos_of_pos_right _ h0
    have hgb := gcd_blen hn hd
    have hp : 0 < n / Nat.gcd n d := Nat.div_pos (Nat.le_of_dvd (by omega) (Nat.gcd_dvd_left _ _)) hg
    have e : rG (mkRat (sg m n) d) = [.bool m, (.imm (digs 65536 (n / Nat.gcd n d)).length (List.map (fun d : Nat => AV.int .u32 (d : Int)) (digs 65536 (n / Nat.gcd n d)))), (.imm (digs 65536 (d / Nat.gcd n d)).length (List.map (fun d : Nat => AV.int .u32 (d : Int)) (digs 65536 (d / Nat.gcd n d))))] := by
      unfold rG
      rw [mk_num h0, mk_den h0, sg_abs, sg_lt (m := m) (n := n) (fun _ => by omega), sg_lt (m := m) (n := n / Nat.gcd n d) (fun _ => hp), sg_abs]
    rw [e]
    simp (maxSteps := 1000000) only [go_sem, digs0, hb, hn, hd, hn', hd', hg, hgb]
    (repeat' (first | exact Conv.refl _ | refine And.intro ?_ ?_)) <;> first | omega | decide
noncomputable def rLowS : List AV → Option (Prop × AV)
  | [.bool m, x, y] => (rawR x).bind fun n => (rawR y).map fun d => (n.1 ∧ d.1 ∧ blen n.2 ≤ 34359738368 ∧ blen d.2 ≤ 34359738368 ∧ 0 < d.2, (.agg [.opq (.rfrac (qlow (sg m n.2) d.2)), .pad, .pad]))
  | _ => none
theorem rLowS_eq (m x y) : rLowS [.bool m, x, y] = (rawR x).bind fun n => (rawR y).map fun d => (n.1 ∧ d.1 ∧ blen n.2 ≤ 34359738368 ∧ blen d.2 ≤ 34359738368 ∧ 0 < d.2, (.agg [.opq (.rfrac (qlow (sg m n.2) d.2)), .pad, .pad])) := rfl
theorem rLowS_ok (hP : PrgOk P) (args p r) (he : rLowS args = some (p, r)) (hp : p) : CSpec P 52 args r := by
  unfold rLowS at he
  split at he
  · simp only [Option.bind_eq_some_iff, Option.map_eq_some_iff, Prod.exists, Prod.mk.injEq] at he
    obtain ⟨q, a, h1, q', b, h2, rfl, rfl⟩ := he
    exact (rLow_spec hP _ a b hp.2.2.1 hp.2.2.2.1 hp.2.2.2.2).cv (.cons rfl (rawR_cv h1 hp.1 (rawR_cv h2 hp.2.1 .nil)))
  · simp at he
attribute [go_sem] rLowS_eq
def smB (m : Bool) (n : Nat) (k : Bool) (l : Nat) : Bool := if m = k then m else if l ≤ n then m else k
def smN (m : Bool) (n : Nat) (k : Bool) (l : Nat) : Nat := if m = k then n + l else if l ≤ n then n - l else l - n
theorem sm_sg (m n k l) : sg (smB m n k l) (smN m n k l) = sg m n + sg k l := by
  unfold smB smN
  cases m <;> cases k <;> simp [sg] <;> (repeat' split) <;> omega
theorem smN_blen {m n k l c} (h : blen n ≤ c) (h' : blen l ≤ c) : blen (smN m n k l) ≤ c + 1 := by
  have hs := wl_add2 (a := sg m n) (b := sg k l) (n := c) (by unfold wl; rw [sg_abs]; exact h) (by unfold wl; rw [sg_abs]; exact h')
  rw [← sm_sg] at hs; unfold wl at hs; rw [sg_abs] at hs; exact hs
theorem cmp_lt' {a b : Nat} (h : ¬ b ≤ a) : decide (0 ≤ cmpI a b) = false := by
  rw [cmpI_lt (by omega)]; rfl
theorem rSum_spec (hP : PrgOk P) (m : Bool) (n : Nat) (k : Bool) (l : Nat) (hn : blen n ≤ 34359738368) (hl : blen l ≤ 34359738368) : CSpec P 71 [.bool m, (.imm (digs 65536 (n)).length (List.map (fun d : Nat => AV.int .u32 (d : Int)) (digs 65536 (n)))), .bool k, (.imm (digs 65536 (l)).length (List.map (fun d : Nat => AV.int .u32 (d : Int)) (digs 65536 (l))))] (.tup [.bool (smB m n k l), (.imm (digs 65536 (smN m n k l)).length (List.map (fun d : Nat => AV.int .u32 (d : Int)) (digs 65536 (smN m n k l))))]) := by
  have HE := Fr0_ok hP
  have hn' := Nat.le_trans hn (show _ ≤ 68719476736 by decide)
  have hl' := Nat.le_trans hl (show _ ≤ 68719476736 by decide)
  refine CSpec_vc (E := ⟨T0, Fr0⟩) (fn71 hP) HE hP.mix rfl (by first | rfl | (simp only [go_sem]; done)) (by first | rfl | (simp only [go_sem]; done)) (Nat.le_of_ble_eq_true rfl) ?_
  by_cases h : m = k
  · subst h
    have e1 : smB m n m l = m := if_pos rfl
    have e2 : smN m n m l = n + l := if_pos rfl
    have hb : (m == m) = true := beq_self_eq_true m
    rw [e1, e2]
    simp (maxSteps := 1000000) only [go_sem, hn', hl', hb]
    (repeat' (first | exact Conv.refl _ | refine And.intro ?_ ?_)) <;> first | omega | decide
  · have hb : (m == k) = false := beq_eq_false_iff_ne.2 h
    by_cases h2 : l ≤ n
    · have e1 : smB m n k l = m := by unfold smB; rw [if_neg h, if_pos h2]
      have e2 : smN m n k l = n - l := by unfold smN; rw [if_neg h, if_pos h2]
      rw [e1, e2]
      simp (maxSteps := 1000000) only [go_sem, hn', hl', hb, cmp_ge' h2, h2]
      (repeat' (first | exact Conv.refl _ | refine And.intro ?_ ?_)) <;> first | omega | decide
    · have e1 : smB m n k l = k := by unfold smB; rw [if_neg h, if_neg h2]
      have e2 : smN m n k l = l - n := by unfold smN; rw [if_neg h, if_neg h2]
      have h3 : n ≤ l := by omega
      rw [e1, e2]
      simp (maxSteps := 1000000) only [go_sem, hn', hl', hb, cmp_lt' h2, h3]
      (repeat' (first | exact Conv.refl _ | refine And.intro ?_ ?_)) <;> first | omega | decide
def rSumS : List AV → Option (Prop × AV)
  | [.bool m, x, .bool k, y] => (rawR x).bind fun n => (rawR y).map fun l => (n.1 ∧ l.1 ∧ blen n.2 ≤ 34359738368 ∧ blen l.2 ≤ 34359738368, .tup [.bool (smB m n.2 k l.2), (.imm (digs 65536 (smN m n.2 k l.2)).length (List.map (fun d : Nat => AV.int .u32 (d : Int)) (digs 65536 (smN m n.2 k l.2))))])
  | _ => none
theorem rSumS_eq (m x k y) : rSumS [.bool m, x, .bool k, y] = (rawR x).bind fun n => (rawR y).map fun l => (n.1 ∧ l.1 ∧ blen n.2 ≤ 34359738368 ∧ blen l.2 ≤ 34359738368, .tup [.bool (smB m n.2 k l.2), (.imm (digs 65536 (smN m n.2 k l.2)).length (List.map (fun d : Nat => AV.int .u32 (d : Int)) (digs 65536 (smN m n.2 k l.2))))]) := rfl
theorem rSumS_ok (hP : PrgOk P) (args p r) (he : rSumS args = some (p, r)) (hp : p) : CSpec P 71 args r := by
  unfold rSumS at he
  split at he
  · simp only [Option.bind_eq_some_iff, Option.map_eq_some_iff, Prod.exists, Prod.mk.injEq] at he
    obtain ⟨q, a, h1, q', b, h2, rfl, rfl⟩ := he
    exact (rSum_spec hP _ a _ b hp.2.2.1 hp.2.2.2).cv (.cons rfl (rawR_cv h1 hp.1 (.cons rfl (rawR_cv h2 hp.2.1 .nil))))
  · simp at he
attribute [go_sem] rSumS_eq
theorem rNeg_spec (hP : PrgOk P) (q : Rat) : CSpec P 29 [(.agg [.opq (.rfrac (q)), .pad, .pad])] (.agg [.opq (.rfrac (qneg q)), .pad, .pad]) := by
  have HE := Fr0_ok hP
  rw [qneg_eq]
  refine CSpec.cv ?_ (.rfIn q .nil)
  refine CSpec.conv (r := .agg (rG (-q))) ?_ (.rf _)
  unfold rG
  rw [(neg_nd q).1, (neg_nd q).2, Int.natAbs_neg]
  refine CSpec_vc (E := ⟨T0, Fr0⟩) (fn29 hP) HE hP.mix rfl (by first | rfl | (simp only [go_sem]; done)) (by first | rfl | (simp only [go_sem]; done)) (Nat.le_of_ble_eq_true rfl) ?_
  by_cases h : q.num < 0
  · have e : decide (-q.num < 0) = false := decide_eq_false (by omega)
    rw [e]
    simp (maxSteps := 1000000) only [go_sem, h]
    (repeat' (first | exact Conv.refl _ | refine And.intro ?_ ?_)) <;> first | omega | decide
  · by_cases h2 : q.num = 0
    · have e : decide (-q.num < 0) = false := decide_eq_false (by omega)
      have h3 : (0 < q.num.natAbs) = False := eq_false (by omega)
      rw [e]
      simp (maxSteps := 1000000) only [go_sem, h, digs1, h3]
      (repeat' (first | exact Conv.refl _ | refine And.intro ?_ ?_)) <;> first | omega | decide
    · have e : decide (-q.num < 0) = true := decide_eq_true (by omega)
      have h3 : (0 < q.num.natAbs) = True := eq_true (by omega)
      rw [e]
      simp (maxSteps := 1000000) only [go_sem, h, digs1, h3]
      (repeat' (first | exact Conv.refl _ | refine And.intro ?_ ?_)) <;> first | omega | decide
noncomputable def rNegS : List AV → Option (Prop × AV) := onQ1 fun q => (True, (.agg [.opq (.rfrac (qneg q)), .pad, .pad]))
theorem rNegS_ok (hP : PrgOk P) (args p r) : rNegS args = some (p, r) → p → CSpec P 29 args r := onQ1_ok (fun a _ => by exact rNeg_spec hP a) args p r
theorem rSign_spec (hP : PrgOk P) (q : Rat) : CSpec P 27 [(.agg [.opq (.rfrac (q)), .pad, .pad])] (.int .i64 (cmpQ q 0)) := by
  have HE := Fr0_ok hP
  refine CSpec.cv ?_ (.rfIn q .nil)
  rw [← sgn_cmp]
  unfold rG sgnZ
  refine CSpec_vc (E := ⟨T0, Fr0⟩) (fn27 hP) HE hP.mix rfl (by first | rfl | (simp only [go_sem]; done)) (by first | rfl | (simp only [go_sem]; done)) (Nat.le_of_ble_eq_true rfl) ?_
  by_cases h : q.num = 0
  · have hb : decide (q.num.natAbs = 0) = true := decide_eq_true (by omega)
    rw [if_pos h]
    simp (maxSteps := 1000000) only [go_sem, digs0, hb]
    (repeat' (first | exact Conv.refl _ | refine And.intro ?_ ?_)) <;> first | omega | decide
  · have hb : decide (q.num.natAbs = 0) = false := decide_eq_false (by omega)
    rw [if_neg h]
    by_cases h2 : q.num < 0
    · rw [if_pos h2]
      simp (maxSteps := 1000000) only [go_sem, digs0, hb, h2]
      (repeat' (first | exact Conv.refl _ | refine And.intro ?_ ?_)) <;> first | omega | decide
    · rw [if_neg h2]
      simp (maxSteps := 1000000) only [go_sem, digs0, hb, h2]
      (repeat' (first | exact Conv.refl _ | refine And.intro ?_ ?_)) <;> first | omega | decide
noncomputable def rSignS : List AV → Option (Prop × AV) := onQ1 fun q => (True, .int .i64 (cmpQ q 0))
theorem rSignS_ok (hP : PrgOk P) (args p r) : rSignS args = some (p, r) → p → CSpec P 27 args r := onQ1_ok (fun a _ => by exact rSign_spec hP a) args p r
theorem rWhole_spec (hP : PrgOk P) (m : Bool) (n : Nat) (hn : blen n ≤ 34359738368) : CSpec P 22 [.bool m, (.imm (digs 65536 (n)).length (List.map (fun d : Nat => AV.int .u32 (d : Int)) (digs 65536 (n))))] (.str (itS (sg m n))) := by
  have HE := Fr0_ok hP
  have hn' := Nat.le_trans hn (show _ ≤ 68719476736 by decide)
  have hl := decL_len n
  have hs : (#[45] : Array UInt8).size + (decS n).size ≤ 9223372036854775807 := by
    rw [decS_size]; have : (#[45] : Array UInt8).size = 1 := rfl
    omega
  unfold itS
  rw [sg_abs]
  refine CSpec_vc (E := ⟨T0, Fr0⟩) (fn22 hP) HE hP.mix rfl (by first | rfl | (simp only [go_sem]; done)) (by first | rfl | (simp only [go_sem]; done)) (Nat.le_of_ble_eq_true rfl) ?_
  cases m
  · rw [if_neg (by rw [sg_f]; omega)]
    simp (maxSteps := 1000000) only [go_sem, hn']
    (repeat' (first | exact Conv.refl _ | refine And.intro ?_ ?_)) <;> first | omega | decide
  · by_cases h : 0 < n
    · rw [if_pos (by rw [sg_t]; omega)]
      simp (maxSteps := 1000000) only [go_sem, hn', digs1, h, hs]
      (repeat' (first | exact Conv.refl _ | refine And.intro ?_ ?_)) <;> first | omega | decide
    · rw [if_neg (by rw [sg_t]; omega)]
      simp (maxSteps := 1000000) only [go_sem, hn', digs1, h]
      (repeat' (first | exact Conv.refl _ | refine And.intro ?_ ?_)) <;> first | omega | decide
def rWholeS : List AV → Option (Prop × AV)
  | [.bool m, x] => (rawR x).map fun n => (n.1 ∧ blen n.2 ≤ 34359738368, .str (itS (sg m n.2)))
  | _ => none
theorem rWholeS_eq (m x) : rWholeS [.bool m, x] = (rawR x).map fun n => (n.1 ∧ blen n.2 ≤ 34359738368, .str (itS (sg m n.2))) := rfl
theorem rWholeS_ok (hP : PrgOk P) (args p r) (he : rWholeS args = some (p, r)) (hp : p) : CSpec P 22 args r := by
  unfold rWholeS at he
  split at he
  · simp only [Option.map_eq_some_iff, Prod.exists, Prod.mk.injEq] at he
    obtain ⟨q, a, h1, rfl, rfl⟩ := he
    exact (rWhole_spec hP _ a hp.2).cv (.cons rfl (rawR_cv h1 hp.1 .nil))
  · simp at he
attribute [go_sem] rNegS rSignS rWholeS_eq
noncomputable def Fr1 : Nat → List AV → Option (Prop × AV) := addS (addS (addS (addS (addS Fr0 52 rLowS) 71 rSumS) 29 rNegS) 27 rSignS) 22 rWholeS
theorem Fr1_ok (hP : PrgOk P) : EnvOk P ⟨T0, Fr1⟩ := ((((((Fr0_ok hP).add (rLowS_ok hP)).add (rSumS_ok hP)).add (rNegS_ok hP)).add (rSignS_ok hP)).add (rWholeS_ok hP))
theorem Fr1_at (f a) : Fr1 f a = (addS (addS (addS (addS (addS Fr0 52 rLowS) 71 rSumS) 29 rNegS) 27 rSignS) 22 rWholeS) f a := rfl
attribute [go_sem] Fr1_at
end Go.Proofs.YtjnhekedclcbfaaGreatDoor.AM
/- The document's fractions: sums, products, order, texts. -/
namespace Go.Proofs.YtjnhekedclcbfaaGreatDoor.AM
set_option linter.all false
set_option autoImplicit true
set_option relaxedAutoImplicit true
open Go Go.Proofs
set_option maxRecDepth 100000
set_option maxHeartbeats 8000000
set_option linter.unusedSimpArgs false
variable {P : Program}

theorem sgd_mul (z : Int) (d : Nat) : sg (decide (z < 0)) (z.natAbs * d) = z * d := by
  have hz := sg_of z
  by_cases h : z < 0
  · rw [decide_eq_true h, sg_t] at *
    rw [Int.natCast_mul, ← Int.neg_mul, hz]
  · rw [decide_eq_false h, sg_f] at *
    rw [Int.natCast_mul, hz]
theorem sg_xor (a b : Int) : sg (decide (a < 0) != decide (b < 0)) (a.natAbs * b.natAbs) = a * b := by
  have ha := sg_of a
  have hb := sg_of b
  by_cases h : a < 0 <;> by_cases h' : b < 0 <;> simp only [h, h', decide_true, decide_false] at ha hb ⊢ <;> simp only [sg_t, sg_f] at ha hb <;> rw [← ha, ← hb] <;> simp [sg, Int.neg_mul, Int.mul_neg]
theorem sg_xor2 (a b : Int) (d : Nat) (hb : b ≠ 0) : sg (decide (a < 0) != decide (b < 0)) (a.natAbs * d) = a * sgnZ b * d := by
  have ha := sg_of a
  by_cases h' : b < 0
  · have e : sgnZ b = -1 := by unfold sgnZ; rw [if_neg hb, if_pos h']
    rw [e, decide_eq_true h']
    by_cases h : a < 0
    · rw [decide_eq_true h, sg_t] at *
      rw [show (true != true) = false from rfl, sg_f, Int.natCast_mul, ← ha]; simp
    · rw [decide_eq_false h, sg_f] at *
      rw [show (false != true) = true from rfl, sg_t, Int.natCast_mul, ha]; grind
  · have e : sgnZ b = 1 := by unfold sgnZ; rw [if_neg hb, if_neg h']
    rw [e, decide_eq_false h', Int.mul_one, ← sgd_mul]
    cases decide (a < 0) <;> rfl
theorem rAdd3_spec (hP : PrgOk P) (a b : Rat) (ha : fl a ≤ FB) (hb : fl b ≤ FB) : CSpec P 31 [(.agg [.opq (.rfrac (a)), .pad, .pad]), (.agg [.opq (.rfrac (b)), .pad, .pad])] (.agg [.opq (.rfrac (qadd a b)), .pad, .pad]) := by
  have HE := Fr1_ok hP
  refine CSpec.cv ?_ (.rfIn a (.rfIn b .nil))
  have a1 : blen a.num.natAbs ≤ 34359738368 := Nat.le_trans (fl_num ha) (by decide)
  have a2 : blen a.den ≤ 34359738368 := Nat.le_trans (fl_den ha) (by decide)
  have a3 : blen a.num.natAbs ≤ 68719476736 := Nat.le_trans (fl_num ha) (by decide)
  have a4 : blen a.den ≤ 68719476736 := Nat.le_trans (fl_den ha) (by decide)
  have a5 : 0 < a.den := a.den_pos
  have a6 : blen a.num.natAbs ≤ FB := fl_num ha
  have a7 : blen a.den ≤ FB := fl_den ha
  have b1 : blen b.num.natAbs ≤ 34359738368 := Nat.le_trans (fl_num hb) (by decide)
  have b2 : blen b.den ≤ 34359738368 := Nat.le_trans (fl_den hb) (by decide)
  have b3 : blen b.num.natAbs ≤ 68719476736 := Nat.le_trans (fl_num hb) (by decide)
  have b4 : blen b.den ≤ 68719476736 := Nat.le_trans (fl_den hb) (by decide)
  have b5 : 0 < b.den := b.den_pos
  have b6 : blen b.num.natAbs ≤ FB := fl_num hb
  have b7 : blen b.den ≤ FB := fl_den hb
  have key : a.num * b.den + b.num * a.den = sg (smB (decide (a.num < 0)) (a.num.natAbs * b.den) (decide (b.num < 0)) (b.num.natAbs * a.den)) (smN (decide (a.num < 0)) (a.num.natAbs * b.den) (decide (b.num < 0)) (b.num.natAbs * a.den)) := by
    rw [sm_sg, sgd_mul, sgd_mul]
  have m1' : blen (a.num.natAbs * b.den) ≤ FB + FB := blen_mul_le a6 b7
  have m2' : blen (b.num.natAbs * a.den) ≤ FB + FB := blen_mul_le b6 a7
  have m1 := Nat.le_trans m1' (show _ ≤ 34359738368 by decide)
  have m2 := Nat.le_trans m2' (show _ ≤ 34359738368 by decide)
  have m3 : blen (a.den * b.den) ≤ 34359738368 := Nat.le_trans (blen_mul_le a7 b7) (by decide)
  have m4 : blen (smN (decide (a.num < 0)) (a.num.natAbs * b.den) (decide (b.num < 0)) (b.num.natAbs * a.den)) ≤ 34359738368 := Nat.le_trans (smN_blen m1' m2') (by decide)
  have m5 : 0 < a.den * b.den := Nat.mul_pos a5 b5
  rw [qadd_eq, add_mk, ← qlow_eq, key]
  unfold rG
  refine CSpec_vc (E := ⟨T0, Fr1⟩) (fn31 hP) HE hP.mix rfl (by first | rfl | (simp only [go_sem]; done)) (by first | rfl | (simp only [go_sem]; done)) (Nat.le_of_ble_eq_true rfl) ?_
  simp (maxSteps := 1000000) only [go_sem, a3, a4, b3, b4, m1, m2, m3, m4, m5]
  (repeat' (first | exact Conv.refl _ | refine And.intro ?_ ?_)) <;> first | omega | decide
noncomputable def rAdd3S : List AV → Option (Prop × AV) := onQ2 fun a b => (fl a ≤ FB ∧ fl b ≤ FB, (.agg [.opq (.rfrac (qadd a b)), .pad, .pad]))
theorem rAdd3S_ok (hP : PrgOk P) (args p r) : rAdd3S args = some (p, r) → p → CSpec P 31 args r := onQ2_ok (fun a b h => by exact rAdd3_spec hP a b h.1 h.2) args p r
theorem rMul3_spec (hP : PrgOk P) (a b : Rat) (ha : fl a ≤ FB) (hb : fl b ≤ FB) : CSpec P 35 [(.agg [.opq (.rfrac (a)), .pad, .pad]), (.agg [.opq (.rfrac (b)), .pad, .pad])] (.agg [.opq (.rfrac (qmul a b)), .pad, .pad]) := by
  have HE := Fr1_ok hP
  refine CSpec.cv ?_ (.rfIn a (.rfIn b .nil))
  have a1 : blen a.num.natAbs ≤ 34359738368 := Nat.le_trans (fl_num ha) (by decide)
  have a2 : blen a.den ≤ 34359738368 := Nat.le_trans (fl_den ha) (by decide)
  have a3 : blen a.num.natAbs ≤ 68719476736 := Nat.le_trans (fl_num ha) (by decide)
  have a4 : blen a.den ≤ 68719476736 := Nat.le_trans (fl_den ha) (by decide)
  have a5 : 0 < a.den := a.den_pos
  have a6 : blen a.num.natAbs ≤ FB := fl_num ha
  have a7 : blen a.den ≤ FB := fl_den ha
  have b1 : blen b.num.natAbs ≤ 34359738368 := Nat.le_trans (fl_num hb) (by decide)
  have b2 : blen b.den ≤ 34359738368 := Nat.le_trans (fl_den hb) (by decide)
  have b3 : blen b.num.natAbs ≤ 68719476736 := Nat.le_trans (fl_num hb) (by decide)
  have b4 : blen b.den ≤ 68719476736 := Nat.le_trans (fl_den hb) (by decide)
  have b5 : 0 < b.den := b.den_pos
  have b6 : blen b.num.natAbs ≤ FB := fl_num hb
  have b7 : blen b.den ≤ FB := fl_den hb
  have m1 : blen (a.num.natAbs * b.num.natAbs) ≤ 34359738368 := Nat.le_trans (blen_mul_le a6 b6) (by decide)
  have m3 : blen (a.den * b.den) ≤ 34359738368 := Nat.le_trans (blen_mul_le a7 b7) (by decide)
  have m5 : 0 < a.den * b.den := Nat.mul_pos a5 b5
  rw [qmul_eq, mul_mk, ← qlow_eq, ← sg_xor]
  unfold rG
  refine CSpec_vc (E := ⟨T0, Fr1⟩) (fn35 hP) HE hP.mix rfl (by first | rfl | (simp only [go_sem]; done)) (by first | rfl | (simp only [go_sem]; done)) (Nat.le_of_ble_eq_true rfl) ?_
  simp (maxSteps := 1000000) only [go_sem, a3, a4, b3, b4, m1, m3, m5]
  (repeat' (first | exact Conv.refl _ | refine And.intro ?_ ?_)) <;> first | omega | decide
noncomputable def rMul3S : List AV → Option (Prop × AV) := onQ2 fun a b => (fl a ≤ FB ∧ fl b ≤ FB, (.agg [.opq (.rfrac (qmul a b)), .pad, .pad]))
theorem rMul3S_ok (hP : PrgOk P) (args p r) : rMul3S args = some (p, r) → p → CSpec P 35 args r := onQ2_ok (fun a b h => by exact rMul3_spec hP a b h.1 h.2) args p r
theorem rDiv3_spec (hP : PrgOk P) (a b : Rat) (ha : fl a ≤ FB) (hb : fl b ≤ FB) (h0 : b ≠ 0) : CSpec P 39 [(.agg [.opq (.rfrac (a)), .pad, .pad]), (.agg [.opq (.rfrac (b)), .pad, .pad])] (.agg [.opq (.rfrac (qdiv a b)), .pad, .pad]) := by
  have HE := Fr1_ok hP
  refine CSpec.cv ?_ (.rfIn a (.rfIn b .nil))
  have a1 : blen a.num.natAbs ≤ 34359738368 := Nat.le_trans (fl_num ha) (by decide)
  have a2 : blen a.den ≤ 34359738368 := Nat.le_trans (fl_den ha) (by decide)
  have a3 : blen a.num.natAbs ≤ 68719476736 := Nat.le_trans (fl_num ha) (by decide)
  have a4 : blen a.den ≤ 68719476736 := Nat.le_trans (fl_den ha) (by decide)
  have a5 : 0 < a.den := a.den_pos
  have a6 : blen a.num.natAbs ≤ FB := fl_num ha
  have a7 : blen a.den ≤ FB := fl_den ha
  have b1 : blen b.num.natAbs ≤ 34359738368 := Nat.le_trans (fl_num hb) (by decide)
  have b2 : blen b.den ≤ 34359738368 := Nat.le_trans (fl_den hb) (by decide)
  have b3 : blen b.num.natAbs ≤ 68719476736 := Nat.le_trans (fl_num hb) (by decide)
  have b4 : blen b.den ≤ 68719476736 := Nat.le_trans (fl_den hb) (by decide)
  have b5 : 0 < b.den := b.den_pos
  have b6 : blen b.num.natAbs ≤ FB := fl_num hb
  have b7 : blen b.den ≤ FB := fl_den hb
  have hn : b.num ≠ 0 := fun e => h0 (num_zero.1 e)
  have m1 : blen (a.num.natAbs * b.den) ≤ 34359738368 := Nat.le_trans (blen_mul_le a6 b7) (by decide)
  have m3 : blen (a.den * b.num.natAbs) ≤ 34359738368 := Nat.le_trans (blen_mul_le a7 b6) (by decide)
  have m5 : 0 < a.den * b.num.natAbs := Nat.mul_pos a5 (by omega)
  rw [qdiv_eq, div_mk hn, ← qlow_eq, ← sg_xor2 _ _ _ hn]
  unfold rG
  refine CSpec_vc (E := ⟨T0, Fr1⟩) (fn39 hP) HE hP.mix rfl (by first | rfl | (simp only [go_sem]; done)) (by first | rfl | (simp only [go_sem]; done)) (Nat.le_of_ble_eq_true rfl) ?_
  simp (maxSteps := 1000000) only [go_sem, a3, a4, b3, b4, m1, m3, m5]
  (repeat' (first | exact Conv.refl _ | refine And.intro ?_ ?_)) <;> first | omega | decide
noncomputable def rDiv3S : List AV → Option (Prop × AV) := onQ2 fun a b => (fl a ≤ FB ∧ fl b ≤ FB ∧ b ≠ 0, (.agg [.opq (.rfrac (qdiv a b)), .pad, .pad]))
theorem rDiv3S_ok (hP : PrgOk P) (args p r) : rDiv3S args = some (p, r) → p → CSpec P 39 args r := onQ2_ok (fun a b h => by exact rDiv3_spec hP a b h.1 h.2.1 h.2.2) args p r
theorem rFlo_spec (hP : PrgOk P) (q : Rat) (h : fl q ≤ FB) : CSpec P 41 [(.agg [.opq (.rfrac (q)), .pad, .pad])] (.tup [.bool (decide (flo q < 0)), (.imm (digs 65536 ((flo q).natAbs)).length (List.map (fun d : Nat => AV.int .u32 (d : Int)) (digs 65536 ((flo q).natAbs))))]) := by
  have HE := Fr1_ok hP
  refine CSpec.cv ?_ (.rfIn q .nil)
  have a1 : blen q.num.natAbs ≤ 34359738368 := Nat.le_trans (fl_num h) (by decide)
  have a2 : blen q.den ≤ 34359738368 := Nat.le_trans (fl_den h) (by decide)
  have a3 : blen q.num.natAbs ≤ 68719476736 := Nat.le_trans (fl_num h) (by decide)
  have a4 : blen q.den ≤ 68719476736 := Nat.le_trans (fl_den h) (by decide)
  have a5 : 0 < q.den := q.den_pos
  have a6 : blen q.num.natAbs ≤ FB := fl_num h
  have a7 : blen q.den ≤ FB := fl_den h
  have dz : (q.den = 0) = False := eq_false (by omega)
  have dv : blen (q.num.natAbs / q.den) ≤ 34359738368 := blen_le_of (Nat.div_le_self _ _) a1
  have dv' := Nat.le_trans dv (show _ ≤ 68719476736 by decide)
  have b1 : blen 1 ≤ 68719476736 := by decide
  have i1 : (1 : Int).toNat = 1 := rfl
  unfold rG
  refine CSpec_vc (E := ⟨T0, Fr1⟩) (fn41 hP) HE hP.mix rfl (by first | rfl | (simp only [go_sem]; done)) (by first | rfl | (simp only [go_sem]; done)) (Nat.le_of_ble_eq_true rfl) ?_
  by_cases h1 : q.num < 0
  · by_cases h2 : 0 < q.num.natAbs % q.den
    · have e1 : decide (flo q < 0) = true := by rw [flo_neg h1 h2, sg_t]; generalize q.num.natAbs / q.den = x; exact decide_eq_true (by omega)
      have e2 : (flo q).natAbs = q.num.natAbs / q.den + 1 := by rw [flo_neg h1 h2, sg_abs]
      have h3 : (0 < q.num.natAbs / q.den + 1) = True := eq_true (Nat.succ_pos _)
      rw [e1, e2]
      simp (maxSteps := 1000000) only [go_sem, a1, a2, a3, a4, a5, dz, dv', b1, i1, h1, h2, digs1, h3]
      (repeat' (first | exact Conv.refl _ | refine And.intro ?_ ?_)) <;> first | omega | decide
    · have e2 : (flo q).natAbs = q.num.natAbs / q.den := by rw [flo_negz h1 h2, sg_abs]
      have e1 : decide (flo q < 0) = decide (0 < q.num.natAbs / q.den) := by rw [flo_negz h1 h2, sg_t]; generalize q.num.natAbs / q.den = x; exact decide_eq_decide.2 ⟨by omega, by omega⟩
      rw [e1, e2]
      simp (maxSteps := 1000000) only [go_sem, a1, a2, a3, a4, a5, dz, dv', b1, i1, h1, h2, digs1]
      (repeat' (first | exact Conv.refl _ | refine And.intro ?_ ?_)) <;> first | omega | decide
  · have e2 : (flo q).natAbs = q.num.natAbs / q.den := by rw [flo_pos h1, sg_abs]
    have e1 : decide (flo q < 0) = false := by rw [flo_pos h1, sg_f]; generalize q.num.natAbs / q.den = x; exact decide_eq_false (by omega)
    rw [e1, e2]
    simp (maxSteps := 1000000) only [go_sem, a1, a2, a3, a4, a5, dz, dv', b1, i1, h1, digs1]
    (repeat' (first | exact Conv.refl _ | refine And.intro ?_ ?_)) <;> first | omega | decide
noncomputable def rFloS : List AV → Option (Prop × AV) := onQ1 fun q => (fl q ≤ FB, .tup [.bool (decide (flo q < 0)), (.imm (digs 65536 ((flo q).natAbs)).length (List.map (fun d : Nat => AV.int .u32 (d : Int)) (digs 65536 ((flo q).natAbs))))])
theorem rFloS_ok (hP : PrgOk P) (args p r) : rFloS args = some (p, r) → p → CSpec P 41 args r := onQ1_ok (fun a h => by exact rFlo_spec hP a h) args p r
theorem rText3_spec (hP : PrgOk P) (q : Rat) (h : fl q ≤ FB) : CSpec P 46 [(.agg [.opq (.rfrac (q)), .pad, .pad])] (.str (qtS q)) := by
  have HE := Fr1_ok hP
  refine CSpec.cv ?_ (.rfIn q .nil)
  have a1 : blen q.num.natAbs ≤ 34359738368 := Nat.le_trans (fl_num h) (by decide)
  have a2 : blen q.den ≤ 34359738368 := Nat.le_trans (fl_den h) (by decide)
  have a3 : blen q.num.natAbs ≤ 68719476736 := Nat.le_trans (fl_num h) (by decide)
  have a4 : blen q.den ≤ 68719476736 := Nat.le_trans (fl_den h) (by decide)
  have a5 : 0 < q.den := q.den_pos
  have a6 : blen q.num.natAbs ≤ FB := fl_num h
  have a7 : blen q.den ≤ FB := fl_den h
  have hf : FB = 1073741824 := rfl
  have s1 : (itS q.num).size + (#[47] : Array UInt8).size ≤ 9223372036854775807 := by
    rw [size_bl]; have := itS_len (fl_num h); have : (#[47] : Array UInt8).size = 1 := rfl
    omega
  have s2 : (itS q.num).size + (#[47] : Array UInt8).size + (decS q.den).size ≤ 9223372036854775807 := by
    rw [size_bl, decS_size]
    have := itS_len (fl_num h); have := decL_len q.den; have := fl_den h; have : (#[47] : Array UInt8).size = 1 := rfl
    omega
  have sgo := sg_of q.num
  unfold rG
  refine CSpec_vc (E := ⟨T0, Fr1⟩) (fn46 hP) HE hP.mix rfl (by first | rfl | (simp only [go_sem]; done)) (by first | rfl | (simp only [go_sem]; done)) (Nat.le_of_ble_eq_true rfl) ?_
  by_cases h1 : q.den = 1
  · have h1' := decide_eq_true h1
    rw [qtS_one h1]
    simp (maxSteps := 1000000) only [go_sem, a1, a2, a3, a4, h1', sgo]
    (repeat' (first | exact Conv.refl _ | refine And.intro ?_ ?_)) <;> first | omega | decide
  · have h1' := decide_eq_false h1
    rw [qtS_two h1]
    simp (maxSteps := 1000000) only [go_sem, a1, a2, a3, a4, h1', sgo, s1, s2]
    (repeat' (first | exact Conv.refl _ | refine And.intro ?_ ?_)) <;> first | omega | decide
noncomputable def rText3S : List AV → Option (Prop × AV) := onQ1 fun q => (fl q ≤ FB, .str (qtS q))
theorem rText3S_ok (hP : PrgOk P) (args p r) : rText3S args = some (p, r) → p → CSpec P 46 args r := onQ1_ok (fun a h => by exact rText3_spec hP a h) args p r
theorem rMake3_spec (hP : PrgOk P) (m : Bool) (n : Nat) (k : Bool) (d : Nat) (hn : blen n ≤ 34359738368) (hd : blen d ≤ 34359738368) (h0 : 0 < d) : CSpec P 15 [.bool m, (.imm (digs 65536 (n)).length (List.map (fun d : Nat => AV.int .u32 (d : Int)) (digs 65536 (n)))), .bool k, (.imm (digs 65536 (d)).length (List.map (fun d : Nat => AV.int .u32 (d : Int)) (digs 65536 (d))))] (.agg [.opq (.rfrac (qlow (sg (m != k) n) d)), .pad, .pad]) := by
  have HE := Fr1_ok hP
  refine CSpec_vc (E := ⟨T0, Fr1⟩) (fn15 hP) HE hP.mix rfl (by first | rfl | (simp only [go_sem]; done)) (by first | rfl | (simp only [go_sem]; done)) (Nat.le_of_ble_eq_true rfl) ?_
  simp (maxSteps := 1000000) only [go_sem, hn, hd, h0]
  (repeat' (first | exact Conv.refl _ | refine And.intro ?_ ?_)) <;> first | omega | decide
noncomputable def rMake3S : List AV → Option (Prop × AV)
  | [.bool m, x, .bool k, y] => (rawR x).bind fun n => (rawR y).map fun d => (n.1 ∧ d.1 ∧ blen n.2 ≤ 34359738368 ∧ blen d.2 ≤ 34359738368 ∧ 0 < d.2, (.agg [.opq (.rfrac (qlow (sg (m != k) n.2) d.2)), .pad, .pad]))
  | _ => none
theorem rMake3S_eq (m x k y) : rMake3S [.bool m, x, .bool k, y] = (rawR x).bind fun n => (rawR y).map fun d => (n.1 ∧ d.1 ∧ blen n.2 ≤ 34359738368 ∧ blen d.2 ≤ 34359738368 ∧ 0 < d.2, (.agg [.opq (.rfrac (qlow (sg (m != k) n.2) d.2)), .pad, .pad])) := rfl
theorem rMake3S_ok (hP : PrgOk P) (args p r) (he : rMake3S args = some (p, r)) (hp : p) : CSpec P 15 args r := by
  unfold rMake3S at he
  split at he
  · simp only [Option.bind_eq_some_iff, Option.map_eq_some_iff, Prod.exists, Prod.mk.injEq] at he
    obtain ⟨q, a, h1, q', b, h2, rfl, rfl⟩ := he
    exact (rMake3_spec hP _ a _ b hp.2.2.1 hp.2.2.2.1 hp.2.2.2.2).cv (.cons rfl (rawR_cv h1 hp.1 (.cons rfl (rawR_cv h2 hp.2.1 .nil))))
  · simp at he
theorem rInt3_spec (hP : PrgOk P) (n : Int) (h1 : -9223372036854775808 ≤ n) (h2 : n ≤ 9223372036854775807) : CSpec P 20 [.int .i64 n] (.agg [.opq (.rfrac ((n : Rat))), .pad, .pad]) := by
  have HE := Fr1_ok hP
  have b1 : blen 1 ≤ 34359738368 := by decide
  have i1 : (1 : Int).toNat = 1 := rfl
  have bn : blen n.natAbs ≤ 34359738368 := Nat.le_trans ((blen_le_iff _ _).2 (show n.natAbs < 2 ^ 64 by omega)) (by decide)
  have key : (n : Rat) = qlow (sg (decide (n < 0)) n.natAbs) 1 := by rw [sg_of, qlow_eq, mk_int]
  rw [key]
  refine CSpec_vc (E := ⟨T0, Fr1⟩) (fn20 hP) HE hP.mix rfl (by first | rfl | (simp only [go_sem]; done)) (by first | rfl | (simp only [go_sem]; done)) (Nat.le_of_ble_eq_true rfl) ?_
  by_cases h : n < 0
  · have w1 : IntKind.u64.wrap (0 - IntKind.u64.wrap n) = -n := by rw [IntKind.wrap_u64, IntKind.wrap_u64]; omega
    have t1 : (-n).toNat = n.natAbs := by omega
    have p1 : ((0 : Int) ≤ -n) = True := eq_true (by omega)
    have p2 : (-n < 18446744073709551616) = True := eq_true (by omega)
    simp (maxSteps := 1000000) only [go_sem, h, w1, t1, p1, p2, b1, i1, bn]
    (repeat' (first | exact Conv.refl _ | refine And.intro ?_ ?_)) <;> first | omega | decide
  · have w1 : IntKind.u64.wrap n = n := by rw [IntKind.wrap_u64]; omega
    have t1 : n.toNat = n.natAbs := by omega
    have p1 : ((0 : Int) ≤ n) = True := eq_true (by omega)
    have p2 : (n < 18446744073709551616) = True := eq_true (by omega)
    simp (maxSteps := 1000000) only [go_sem, h, w1, t1, p1, p2, b1, i1, bn]
    (repeat' (first | exact Conv.refl _ | refine And.intro ?_ ?_)) <;> first | omega | decide
def rInt3S : List AV → Option (Prop × AV)
  | [.int .i64 n] => some (-9223372036854775808 ≤ n ∧ n ≤ 9223372036854775807, (.agg [.opq (.rfrac ((n : Rat))), .pad, .pad]))
  | _ => none
theorem rInt3S_ok (hP : PrgOk P) (args p r) (h : rInt3S args = some (p, r)) (hp : p) : CSpec P 20 args r := by
  unfold rInt3S at h
  split at h
  · simp only [Option.some.injEq, Prod.mk.injEq] at h
    obtain ⟨rfl, rfl⟩ := h
    exact rInt3_spec hP _ hp.1 hp.2
  · simp at h
attribute [go_sem] rAdd3S rMul3S rDiv3S rFloS rText3S rMake3S_eq rInt3S
noncomputable def Fr2 : Nat → List AV → Option (Prop × AV) := addS (addS (addS (addS (addS (addS (addS Fr1 31 rAdd3S) 35 rMul3S) 39 rDiv3S) 41 rFloS) 46 rText3S) 15 rMake3S) 20 rInt3S
theorem Fr2_ok (hP : PrgOk P) : EnvOk P ⟨T0, Fr2⟩ := ((((((((Fr1_ok hP).add (rAdd3S_ok hP)).add (rMul3S_ok hP)).add (rDiv3S_ok hP)).add (rFloS_ok hP)).add (rText3S_ok hP)).add (rMake3S_ok hP)).add (rInt3S_ok hP))
theorem Fr2_at (f a) : Fr2 f a = (addS (addS (addS (addS (addS (addS (addS Fr1 31 rAdd3S) 35 rMul3S) 39 rDiv3S) 41 rFloS) 46 rText3S) 15 rMake3S) 20 rInt3S) f a := rfl
attribute [go_sem] Fr2_at
theorem rSub3_spec (hP : PrgOk P) (a b : Rat) (ha : fl a ≤ FB) (hb : fl b ≤ FB) : CSpec P 33 [(.agg [.opq (.rfrac (a)), .pad, .pad]), (.agg [.opq (.rfrac (b)), .pad, .pad])] (.agg [.opq (.rfrac (qsub a b)), .pad, .pad]) := by
  have HE := Fr2_ok hP
  have hn : fl (qneg b) ≤ FB := fl_qneg hb
  have key : qsub a b = qadd a (qneg b) := by rw [qsub_eq, qadd_eq, qneg_eq, Rat.sub_eq_add_neg]
  rw [key]
  refine CSpec_vc (E := ⟨T0, Fr2⟩) (fn33 hP) HE hP.mix rfl (by first | rfl | (simp only [go_sem]; done)) (by first | rfl | (simp only [go_sem]; done)) (Nat.le_of_ble_eq_true rfl) ?_
  simp (maxSteps := 1000000) only [go_sem, ha, hb, hn]
  (repeat' (first | exact Conv.refl _ | refine And.intro ?_ ?_)) <;> first | omega | decide
noncomputable def rSub3S : List AV → Option (Prop × AV) := onQ2 fun a b => (fl a ≤ FB ∧ fl b ≤ FB, (.agg [.opq (.rfrac (qsub a b)), .pad, .pad]))
theorem rSub3S_ok (hP : PrgOk P) (args p r) : rSub3S args = some (p, r) → p → CSpec P 33 args r := onQ2_ok (fun a b h => by exact rSub3_spec hP a b h.1 h.2) args p r
attribute [go_sem] rSub3S
noncomputable def Fr3 : Nat → List AV → Option (Prop × AV) := addS Fr2 33 rSub3S
theorem Fr3_ok (hP : PrgOk P) : EnvOk P ⟨T0, Fr3⟩ := ((Fr2_ok hP).add (rSub3S_ok hP))
theorem Fr3_at (f a) : Fr3 f a = (addS Fr2 33 rSub3S) f a := rfl
attribute [go_sem] Fr3_at
theorem rCmp3_spec (hP : PrgOk P) (a b : Rat) (ha : fl a ≤ FB) (hb : fl b ≤ FB) : CSpec P 37 [(.agg [.opq (.rfrac (a)), .pad, .pad]), (.agg [.opq (.rfrac (b)), .pad, .pad])] (.int .i64 (cmpQ a b)) := by
  have HE := Fr3_ok hP
  have key : cmpQ a b = cmpQ (qsub a b) 0 := by rw [qsub_eq, ← cmpQ_sub, sgn_cmp]
  rw [key]
  refine CSpec_vc (E := ⟨T0, Fr3⟩) (fn37 hP) HE hP.mix rfl (by first | rfl | (simp only [go_sem]; done)) (by first | rfl | (simp only [go_sem]; done)) (Nat.le_of_ble_eq_true rfl) ?_
  simp (maxSteps := 1000000) only [go_sem, ha, hb]
  (repeat' (first | exact Conv.refl _ | refine And.intro ?_ ?_)) <;> first | omega | decide
noncomputable def rCmp3S : List AV → Option (Prop × AV) := onQ2 fun a b => (fl a ≤ FB ∧ fl b ≤ FB, .int .i64 (cmpQ a b))
theorem rCmp3S_ok (hP : PrgOk P) (args p r) : rCmp3S args = some (p, r) → p → CSpec P 37 args r := onQ2_ok (fun a b h => by exact rCmp3_spec hP a b h.1 h.2) args p r
attribute [go_sem] rCmp3S
end Go.Proofs.YtjnhekedclcbfaaGreatDoor.AM
