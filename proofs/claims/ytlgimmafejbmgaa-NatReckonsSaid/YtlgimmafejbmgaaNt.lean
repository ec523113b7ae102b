/- Digits: plain facts about numbers. -/
import Derived.Test.YtlgimmafejbmgaaAm0
namespace Go.Proofs.Ytlgimmafejbmgaa.AM
set_option linter.all false
set_option autoImplicit true
set_option relaxedAutoImplicit true

/-- The number of some digits, the lowest first. -/
def dOf (b : Nat) : List Nat → Nat
  | [] => 0
  | d :: ds => d + b * dOf b ds

theorem dOf_append (b : Nat) (xs ys : List Nat) : dOf b (xs ++ ys) = dOf b xs + b ^ xs.length * dOf b ys := by
  induction xs with
  | nil => simp [dOf]
  | cons x xs ih => simp only [List.cons_append, dOf, ih, List.length_cons, Nat.pow_succ, Nat.mul_add, Nat.add_assoc]; congr 2; rw [← Nat.mul_assoc]; congr 1; rw [Nat.mul_comm]

theorem dOf_zeros (b n : Nat) : dOf b (List.replicate n 0) = 0 := by
  induction n with
  | zero => rfl
  | succ n ih => rw [List.replicate_succ]; simp [dOf, ih]

theorem dOf_lt (b : Nat) (l : List Nat) (h : ∀ d ∈ l, d < b) : dOf b l < b ^ l.length := by
  induction l with
  | nil => simp [dOf]
  | cons x xs ih =>
    have h1 := h x List.mem_cons_self
    have h2 := ih fun d hd => h d (List.mem_cons_of_mem _ hd)
    simp only [dOf, List.length_cons, Nat.pow_succ]
    have h3 : b * dOf b xs + b ≤ b * b ^ xs.length := by
      have := Nat.mul_le_mul_left b (show dOf b xs + 1 ≤ b ^ xs.length by omega)
      rw [Nat.mul_add, Nat.mul_one] at this; exact this
    rw [Nat.mul_comm (b ^ xs.length) b]; omega

theorem digs_eq (b n : Nat) (hb : 2 ≤ b) (hn : n ≠ 0) : digs b n = n % b :: digs b (n / b) := by
  rw [digs]; rw [dif_neg (by omega)]
theorem digs_zero (b : Nat) : digs b 0 = [] := by rw [digs]; simp

theorem dOf_digs (b n : Nat) (hb : 2 ≤ b) : dOf b (digs b n) = n := by
  induction n using Nat.strongRecOn with
  | _ n ih =>
    by_cases hn : n = 0
    · subst hn; rw [digs_zero]; rfl
    · rw [digs_eq b n hb hn, dOf, ih (n / b) (Nat.div_lt_self (by omega) (by omega))]
      exact Nat.mod_add_div n b

theorem digs_lt (b n : Nat) (hb : 2 ≤ b) : ∀ d ∈ digs b n, d < b := by
  induction n using Nat.strongRecOn with
  | _ n ih =>
    by_cases hn : n = 0
    · subst hn; rw [digs_zero]; intro d hd; simp at hd
    · rw [digs_eq b n hb hn]
      intro d hd
      rcases List.mem_cons.1 hd with rfl | hd
      · exact Nat.mod_lt _ (by omega)
      · exact ih (n / b) (Nat.div_lt_self (by omega) (by omega)) d hd

theorem digs_small (b n : Nat) (hb : 2 ≤ b) (h : n < b) (hn : n ≠ 0) : digs b n = [n] := by
  rw [digs_eq b n hb hn, Nat.mod_eq_of_lt h, Nat.div_eq_of_lt h, digs_zero]

/-- No nought at the end. -/
def Canon (l : List Nat) : Prop := ∀ h : l ≠ [], l.getLast h ≠ 0

theorem digs_canon (b n : Nat) (hb : 2 ≤ b) : Canon (digs b n) := by
  induction n using Nat.strongRecOn with
  | _ n ih =>
    by_cases hn : n = 0
    · subst hn; rw [digs_zero]; intro h; exact absurd rfl h
    · rw [digs_eq b n hb hn]
      intro h
      by_cases hz : n / b = 0
      · simp only [hz, digs_zero, List.getLast_singleton]
        have := Nat.div_add_mod n b
        rw [hz] at this; omega
      · have hne : digs b (n / b) ≠ [] := by rw [digs_eq b _ hb hz]; simp
        rw [List.getLast_cons hne]
        exact ih (n / b) (Nat.div_lt_self (by omega) (by omega)) hne

theorem dOf_canon_pos (b : Nat) (hb : 2 ≤ b) (l : List Nat) (hl : ∀ d ∈ l, d < b) (hc : Canon l) (hne : l ≠ []) : dOf b l ≠ 0 := by
  induction l with
  | nil => exact absurd rfl hne
  | cons x xs ih =>
    simp only [dOf]
    by_cases hx : xs = []
    · subst hx
      have := hc (by simp)
      simp at this
      omega
    · have := ih (fun d hd => hl d (List.mem_cons_of_mem _ hd)) (fun h => by have := hc (by simp); rwa [List.getLast_cons h] at this) hx
      have h2 : b * dOf b xs ≠ 0 := Nat.mul_ne_zero (by omega) this
      omega

theorem digs_dOf (b : Nat) (hb : 2 ≤ b) (l : List Nat) (hl : ∀ d ∈ l, d < b) (hc : Canon l) : digs b (dOf b l) = l := by
  induction l with
  | nil => exact digs_zero b
  | cons x xs ih =>
    have hne := dOf_canon_pos b hb (x :: xs) hl hc (by simp)
    have hx := hl x List.mem_cons_self
    have ih' := ih (fun d hd => hl d (List.mem_cons_of_mem _ hd)) (fun h => by have := hc (by simp); rwa [List.getLast_cons h] at this)
    rw [digs_eq b _ hb hne]
    have e1 : dOf b (x :: xs) % b = x := by rw [dOf, Nat.add_mul_mod_self_left, Nat.mod_eq_of_lt hx]
    have e2 : dOf b (x :: xs) / b = dOf b xs := by rw [dOf, Nat.add_mul_div_left _ _ (by omega), Nat.div_eq_of_lt hx, Nat.zero_add]
    rw [e1, e2, ih']

theorem digs_length_le (b n k : Nat) (hb : 2 ≤ b) (h : n < b ^ k) : (digs b n).length ≤ k := by
  induction k generalizing n with
  | zero => simp at h; subst h; rw [digs_zero]; simp
  | succ k ih =>
    by_cases hn : n = 0
    · subst hn; rw [digs_zero]; simp
    · rw [digs_eq b n hb hn, List.length_cons]
      have : n / b < b ^ k := Nat.div_lt_of_lt_mul (by rw [Nat.mul_comm, ← Nat.pow_succ]; exact h)
      have := ih (n / b) this
      omega

theorem digs_length_gt (b n k : Nat) (hb : 2 ≤ b) (h : b ^ k ≤ n) : k < (digs b n).length := by
  have h1 := dOf_lt b (digs b n) (digs_lt b n hb)
  rw [dOf_digs b n hb] at h1
  have : b ^ k < b ^ (digs b n).length := Nat.lt_of_le_of_lt h h1
  exact (Nat.pow_lt_pow_iff_right (by omega)).1 this

theorem dOf_set (b : Nat) (l : List Nat) (k e : Nat) (h : k < l.length) : dOf b (l.set k e) + b ^ k * l.getD k 0 = dOf b l + b ^ k * e := by
  induction l generalizing k with
  | nil => simp at h
  | cons x xs ih =>
    cases k with
    | zero => simp [dOf]; omega
    | succ k =>
      have := ih k (by simpa using h)
      simp only [List.set_cons_succ, dOf, List.getD_cons_succ, Nat.pow_succ]
      have h2 := congrArg (b * ·) this
      simp only [Nat.mul_add] at h2
      rw [show b ^ k * b * xs.getD k 0 = b * (b ^ k * xs.getD k 0) by rw [Nat.mul_comm (b ^ k) b, Nat.mul_assoc], show b ^ k * b * e = b * (b ^ k * e) by rw [Nat.mul_comm (b ^ k) b, Nat.mul_assoc]]
      omega
theorem dOf_take_succ (b : Nat) (l : List Nat) (k : Nat) (h : k < l.length) : dOf b (l.take (k + 1)) = dOf b (l.take k) + b ^ k * l.getD k 0 := by
  have e : l.take (k + 1) = l.take k ++ [l.getD k 0] := by
    rw [List.take_add_one, List.getElem?_eq_getElem h, List.getD_eq_getElem?_getD, List.getElem?_eq_getElem h]; rfl
  rw [e, dOf_append]
  simp [dOf, Nat.min_eq_left (Nat.le_of_lt h)]
/-- Two digits and a carry added; two digits multiplied: low, high. -/
theorem ad_ex : ∃ f : Nat → Nat → Nat → Nat × Nat, ∀ x y c, f x y c = ((x + y + c) % 18446744073709551616, (x + y + c) / 18446744073709551616) := ⟨_, fun _ _ _ => rfl⟩
noncomputable def adp : Nat → Nat → Nat → Nat × Nat := Classical.choose ad_ex
noncomputable def addl (x y c : Nat) : Nat := (adp x y c).1
noncomputable def addh (x y c : Nat) : Nat := (adp x y c).2
theorem adp_eq (x y c : Nat) : adp x y c = ((x + y + c) % 18446744073709551616, (x + y + c) / 18446744073709551616) := Classical.choose_spec ad_ex x y c
theorem addl_eq (x y c : Nat) : addl x y c = (x + y + c) % 18446744073709551616 := by unfold addl; rw [adp_eq]
theorem addh_eq (x y c : Nat) : addh x y c = (x + y + c) / 18446744073709551616 := by unfold addh; rw [adp_eq]
theorem addl_lt (x y c : Nat) : addl x y c < 18446744073709551616 := by rw [addl_eq]; exact Nat.mod_lt _ (by decide)
theorem addh_le {x y c : Nat} (hx : x < 18446744073709551616) (hy : y < 18446744073709551616) (hc : c ≤ 1) : addh x y c ≤ 1 := by rw [addh_eq]; omega
theorem add_all (x y c : Nat) : addl x y c + 18446744073709551616 * addh x y c = x + y + c := by rw [addl_eq, addh_eq]; exact Nat.mod_add_div _ _
theorem mu_ex : ∃ f : Nat → Nat → Nat × Nat, ∀ x y, f x y = (x * y % 18446744073709551616, x * y / 18446744073709551616) := ⟨_, fun _ _ => rfl⟩
noncomputable def mup : Nat → Nat → Nat × Nat := Classical.choose mu_ex
noncomputable def mull (x y : Nat) : Nat := (mup x y).1
noncomputable def mulh (x y : Nat) : Nat := (mup x y).2
theorem mup_eq (x y : Nat) : mup x y = (x * y % 18446744073709551616, x * y / 18446744073709551616) := Classical.choose_spec mu_ex x y
theorem mull_eq (x y : Nat) : mull x y = x * y % 18446744073709551616 := by unfold mull; rw [mup_eq]
theorem mulh_eq (x y : Nat) : mulh x y = x * y / 18446744073709551616 := by unfold mulh; rw [mup_eq]
theorem mull_lt (x y : Nat) : mull x y < 18446744073709551616 := by rw [mull_eq]; exact Nat.mod_lt _ (by decide)
theorem mul_all (x y : Nat) : mull x y + 18446744073709551616 * mulh x y = x * y := by rw [mull_eq, mulh_eq]; exact Nat.mod_add_div _ _
theorem mulh_lt {x y : Nat} (hx : x < 18446744073709551616) (hy : y < 18446744073709551616) : mulh x y < 18446744073709551616 := by
  rw [mulh_eq]
  refine Nat.div_lt_of_lt_mul ?_
  exact Nat.mul_lt_mul_of_lt_of_lt hx hy
/-- Two digits divided by one. -/
theorem dv_ex : ∃ f : Nat → Nat → Nat → Nat × Nat, ∀ x y v, f x y v = ((x * 18446744073709551616 + y) / v, (x * 18446744073709551616 + y) % v) := ⟨_, fun _ _ _ => rfl⟩
noncomputable def dvp : Nat → Nat → Nat → Nat × Nat := Classical.choose dv_ex
noncomputable def divq (x y v : Nat) : Nat := (dvp x y v).1
noncomputable def divr (x y v : Nat) : Nat := (dvp x y v).2
theorem dvp_eq (x y v : Nat) : dvp x y v = ((x * 18446744073709551616 + y) / v, (x * 18446744073709551616 + y) % v) := Classical.choose_spec dv_ex x y v
theorem divq_eq (x y v : Nat) : divq x y v = (x * 18446744073709551616 + y) / v := by unfold divq; rw [dvp_eq]
theorem divr_eq (x y v : Nat) : divr x y v = (x * 18446744073709551616 + y) % v := by unfold divr; rw [dvp_eq]
theorem div_all (x y v : Nat) : divq x y v * v + divr x y v = x * 18446744073709551616 + y := by rw [divq_eq, divr_eq, Nat.mul_comm]; exact Nat.div_add_mod _ _
theorem divr_lt (x y : Nat) {v : Nat} (h : 0 < v) : divr x y v < v := by rw [divr_eq]; exact Nat.mod_lt _ h
theorem divq_lt {x y v : Nat} (h : x < v) (hy : y < 18446744073709551616) : divq x y v < 18446744073709551616 := by
  rw [divq_eq]
  refine Nat.div_lt_of_lt_mul ?_
  have := Nat.mul_le_mul_right 18446744073709551616 (show x + 1 ≤ v by omega)
  omega
/-- A digit taken away, and what is borrowed. -/
theorem sb_ex : ∃ f : Nat → Nat → Nat → Nat × Nat, ∀ x y c, f x y c = ((x + 18446744073709551616 - y - c) % 18446744073709551616, if x < y + c then 1 else 0) := ⟨_, fun _ _ _ => rfl⟩
noncomputable def sbp : Nat → Nat → Nat → Nat × Nat := Classical.choose sb_ex
noncomputable def subd (x y c : Nat) : Nat := (sbp x y c).1
noncomputable def bor (x y c : Nat) : Nat := (sbp x y c).2
theorem sbp_eq (x y c : Nat) : sbp x y c = ((x + 18446744073709551616 - y - c) % 18446744073709551616, if x < y + c then 1 else 0) := Classical.choose_spec sb_ex x y c
theorem subd_eq (x y c : Nat) : subd x y c = (x + 18446744073709551616 - y - c) % 18446744073709551616 := by unfold subd; rw [sbp_eq]
theorem bor_eq (x y c : Nat) : bor x y c = if x < y + c then 1 else 0 := by unfold bor; rw [sbp_eq]
theorem subd_lt (x y c : Nat) : subd x y c < 18446744073709551616 := by rw [subd_eq]; exact Nat.mod_lt _ (by decide)
theorem bor_le (x y c : Nat) : bor x y c ≤ 1 := by rw [bor_eq]; split <;> omega
/-- One step of taking away with a borrow. -/
theorem sub_step (p z y c : Nat) (s r t : Nat) (hz : z < 18446744073709551616) (hy : y < 18446744073709551616) (hc : c ≤ 1) (h1 : s + t = r + p * c) (hs : s' + p * z = s + p * subd z y c) :
    s' + (t + p * y) = r + (p * 18446744073709551616) * bor z y c := by
  rw [subd_eq] at hs; rw [bor_eq]
  by_cases h : z < y + c
  · rw [if_pos h, Nat.mul_one]
    have e : (z + 18446744073709551616 - y - c) % 18446744073709551616 = z + 18446744073709551616 - y - c := Nat.mod_eq_of_lt (by omega)
    have h3 : p * ((z + 18446744073709551616 - y - c) % 18446744073709551616) + p * y + p * c = p * z + p * 18446744073709551616 := by
      rw [e, ← Nat.mul_add, ← Nat.mul_add, ← Nat.mul_add]; congr 1; omega
    omega
  · rw [if_neg h, Nat.mul_zero]
    have e : (z + 18446744073709551616 - y - c) % 18446744073709551616 = z - y - c := by
      rw [show z + 18446744073709551616 - y - c = (z - y - c) + 18446744073709551616 by omega, Nat.add_mod_right, Nat.mod_eq_of_lt (by omega)]
    have h3 : p * ((z + 18446744073709551616 - y - c) % 18446744073709551616) + p * y + p * c = p * z := by
      rw [e, ← Nat.mul_add, ← Nat.mul_add]; congr 1; omega
    omega
/-- One step of adding with a carry. -/
theorem add_step (p z y c : Nat) (s r t : Nat) (h1 : s + p * c = r + t) (hs : s' + p * z = s + p * addl z y c) : s' + (p * 18446744073709551616) * addh z y c = r + (t + p * y) := by
  have h2 := add_all z y c
  have h3 := congrArg (p * ·) h2
  simp only [Nat.mul_add, ← Nat.mul_assoc] at h3
  omega
/-- One step of multiplying. -/
theorem mul_digit (x y c z : Nat) : addl z (addl (mull x y) c 0) 0 + 18446744073709551616 * (mulh x y + addh (mull x y) c 0 + addh z (addl (mull x y) c 0) 0) = z + c + x * y := by
  have h1 := mul_all x y
  have h2 := add_all (mull x y) c 0
  have h3 := add_all z (addl (mull x y) c 0) 0
  omega
theorem mul_carry {x y c z : Nat} (hx : x < 18446744073709551616) (hy : y < 18446744073709551616) (hc : c < 18446744073709551616) (hz : z < 18446744073709551616) :
    mulh x y + addh (mull x y) c 0 + addh z (addl (mull x y) c 0) 0 < 18446744073709551616 := by
  have h := mul_digit x y c z
  have h2 : x * y ≤ 18446744073709551615 * 18446744073709551615 := Nat.mul_le_mul (by omega) (by omega)
  omega
theorem mul_step (p x y c z s V T : Nat) (h1 : s + p * c = V + T) (hs : s' + p * z = s + p * addl z (addl (mull x y) c 0) 0) :
    s' + (p * 18446744073709551616) * (mulh x y + addh (mull x y) c 0 + addh z (addl (mull x y) c 0) 0) = V + (T + p * (x * y)) := by
  have h3 := congrArg (p * ·) (mul_digit x y c z)
  simp only [Nat.mul_add, ← Nat.mul_assoc] at h3 ⊢
  omega
theorem getD_set_eq (l : List Nat) (k e : Nat) (h : k < l.length) : (l.set k e).getD k 0 = e := by
  rw [List.getD_eq_getElem?_getD, List.getElem?_set_self h]; rfl
theorem getD_set_ne (l : List Nat) (k j e : Nat) (h : k ≠ j) : (l.set k e).getD j 0 = l.getD j 0 := by
  rw [List.getD_eq_getElem?_getD, List.getElem?_set_ne h, ← List.getD_eq_getElem?_getD]
theorem dOf_split (b : Nat) (l : List Nat) (k : Nat) (h : k < l.length) : dOf b l = dOf b (l.take k) + b ^ k * (l.getD k 0 + b * dOf b (l.drop (k + 1))) := by
  have e : l = l.take k ++ (l.getD k 0 :: l.drop (k + 1)) := by
    rw [List.getD_eq_getElem?_getD, List.getElem?_eq_getElem h]
    simp
  conv => lhs; rw [e, dOf_append]
  simp [dOf, Nat.min_eq_left (Nat.le_of_lt h)]
/-- The highest digit that differs tells. -/
theorem dOf_cmp (b : Nat) (xs ys : List Nat) (hx : ∀ d ∈ xs, d < b) (k : Nat) (hk : k < xs.length) (hky : k < ys.length) (hd : xs.drop (k + 1) = ys.drop (k + 1)) (h : xs.getD k 0 < ys.getD k 0) : dOf b xs < dOf b ys := by
  rw [dOf_split b xs k hk, dOf_split b ys k hky, hd]
  have h1 := dOf_lt b (xs.take k) (fun d hd => hx d (List.mem_of_mem_take hd))
  rw [List.length_take, Nat.min_eq_left (Nat.le_of_lt hk)] at h1
  have h2 := Nat.mul_le_mul_left (b ^ k) (show xs.getD k 0 + b * dOf b (ys.drop (k + 1)) + 1 ≤ ys.getD k 0 + b * dOf b (ys.drop (k + 1)) by omega)
  rw [Nat.mul_add, Nat.mul_one] at h2
  omega
theorem digs_len_lt (b x y : Nat) (hb : 2 ≤ b) (h : (digs b x).length < (digs b y).length) : x < y := by
  rcases Nat.lt_or_ge x y with h' | h'
  · exact h'
  · exfalso
    have h1 := dOf_lt b (digs b x) (digs_lt b x hb)
    rw [dOf_digs b x hb] at h1
    have := digs_length_le b y (digs b x).length hb (by omega)
    omega
/-- How two numbers compare. -/
def cmpI (a b : Nat) : Int := if a < b then -1 else if b < a then 1 else 0
theorem cmpI_lt {a b : Nat} (h : a < b) : cmpI a b = -1 := by unfold cmpI; rw [if_pos h]
theorem cmpI_gt {a b : Nat} (h : b < a) : cmpI a b = 1 := by unfold cmpI; rw [if_neg (by omega), if_pos h]
theorem cmpI_eq (a : Nat) : cmpI a a = 0 := by unfold cmpI; rw [if_neg (by omega), if_neg (by omega)]

/-- How many digits to the base 2. -/
def blen (n : Nat) : Nat := if n = 0 then 0 else n.log2 + 1
theorem blen_lt (n : Nat) : n < 2 ^ blen n := by
  unfold blen; split
  · rename_i h; subst h; decide
  · exact Nat.lt_log2_self
theorem blen_le_iff (n k : Nat) : blen n ≤ k ↔ n < 2 ^ k := by
  constructor
  · intro h; exact Nat.lt_of_lt_of_le (blen_lt n) (Nat.pow_le_pow_right (by decide) h)
  · intro h
    unfold blen; split
    · omega
    · rename_i hn; have := (Nat.log2_lt hn).2 h; omega
theorem blen_zero_iff (n : Nat) : blen n = 0 ↔ n = 0 := by
  unfold blen; split <;> omega
theorem blen_mono {a b : Nat} (h : a ≤ b) : blen a ≤ blen b := (blen_le_iff a _).2 (Nat.lt_of_le_of_lt h (blen_lt b))
theorem blen_le_of {a b n : Nat} (h : a ≤ b) (hb : blen b ≤ n) : blen a ≤ n := Nat.le_trans (blen_mono h) hb
theorem blen_add_le {a b n : Nat} (ha : blen a ≤ n) (hb : blen b ≤ n) : blen (a + b) ≤ n + 1 := by
  rw [blen_le_iff] at *; rw [Nat.pow_succ]; omega
theorem blen_mul_le {a b m n : Nat} (ha : blen a ≤ m) (hb : blen b ≤ n) : blen (a * b) ≤ m + n := by
  rw [blen_le_iff] at *; rw [Nat.pow_add]
  rcases Nat.eq_zero_or_pos b with h | h
  · subst h; simpa using Nat.mul_pos (Nat.two_pow_pos m) (Nat.two_pow_pos n)
  · exact Nat.lt_of_lt_of_le (Nat.mul_lt_mul_of_pos_right ha h) (Nat.mul_le_mul_left _ (Nat.le_of_lt hb))
/-- A highest digit, and what is below it. -/
theorem blen_top (k d r : Nat) (hd : d ≠ 0) (hr : r < 2 ^ k) : blen (r + 2 ^ k * d) = k + blen d := by
  have h1 : blen (r + 2 ^ k * d) ≤ k + blen d := by
    rw [blen_le_iff, Nat.pow_add]
    have := Nat.mul_le_mul_left (2 ^ k) (blen_lt d)
    rw [Nat.succ_eq_add_one, Nat.mul_add, Nat.mul_one] at this
    omega
  have h2 : ¬ blen (r + 2 ^ k * d) ≤ k + blen d - 1 := by
    rw [blen_le_iff]
    have hb : blen d ≠ 0 := fun h => hd ((blen_zero_iff d).1 h)
    have h3 : ¬ d < 2 ^ (blen d - 1) := fun h => by
      have := (blen_le_iff d _).2 h; omega
    rw [show k + blen d - 1 = k + (blen d - 1) by omega, Nat.pow_add]
    have := Nat.mul_le_mul_left (2 ^ k) (Nat.le_of_not_lt h3)
    omega
  omega
theorem dOf_last (b : Nat) (l : List Nat) (h : 0 < l.length) : dOf b l = dOf b (l.take (l.length - 1)) + b ^ (l.length - 1) * l.getD (l.length - 1) 0 := by
  have e : l = l.take (l.length - 1) ++ [l.getD (l.length - 1) 0] := by
    have := List.take_add_one (l := l) (i := l.length - 1)
    rw [Nat.sub_add_cancel h, List.take_length] at this
    have h2 : l.length - 1 < l.length := by omega
    rw [List.getElem?_eq_getElem h2] at this
    rw [List.getD_eq_getElem?_getD, List.getElem?_eq_getElem h2]; exact this
  conv => lhs; rw [e, dOf_append]
  simp [dOf, Nat.min_eq_left]
theorem canon_last {l : List Nat} (hc : Canon l) (h : 0 < l.length) : l.getD (l.length - 1) 0 ≠ 0 := by
  have hne : l ≠ [] := fun e => by simp [e] at h
  have := hc hne
  rw [List.getLast_eq_getElem] at this
  have h2 : l.length - 1 < l.length := by omega
  rw [List.getD_eq_getElem?_getD, List.getElem?_eq_getElem h2]; exact this
theorem two64 (k : Nat) : 18446744073709551616 ^ k = 2 ^ (64 * k) := by rw [Nat.pow_mul]
theorem blen_digs (a : Nat) (h : a ≠ 0) : blen a = 64 * ((digs 18446744073709551616 a).length - 1) + blen ((digs 18446744073709551616 a).getD ((digs 18446744073709551616 a).length - 1) 0) := by
  have hpos : 0 < (digs 18446744073709551616 a).length := by rw [digs_eq _ _ (by decide) h]; simp
  have hc := canon_last (digs_canon 18446744073709551616 a (by decide)) hpos
  have hlt := digs_lt 18446744073709551616 a (by decide)
  have e := dOf_last 18446744073709551616 _ hpos
  rw [dOf_digs _ _ (by decide), two64] at e
  have hr := dOf_lt 18446744073709551616 ((digs 18446744073709551616 a).take ((digs 18446744073709551616 a).length - 1)) (fun d hd => hlt d (List.mem_of_mem_take hd))
  rw [List.length_take, Nat.min_eq_left (by omega), two64] at hr
  conv => lhs; rw [e]
  exact blen_top _ _ _ hc hr
theorem digs_len_blen (a : Nat) : 64 * (digs 18446744073709551616 a).length ≤ blen a + 64 := by
  by_cases h : a = 0
  · subst h; rw [digs_zero]; simp
  · have := blen_digs a h; omega

end Go.Proofs.Ytlgimmafejbmgaa.AM
