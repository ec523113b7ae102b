/- Digits in cells; numbers that wrap. -/
import Derived.Test.YtlgimmafejbmgaaBs
import Derived.Handy
namespace Go.Proofs.Ytlgimmafejbmgaa.AM
set_option linter.all false
set_option autoImplicit true
set_option relaxedAutoImplicit true
open Go

/-- The digit in a cell. -/
def ud : AV → Nat
  | .int _ i => i.toNat
  | _ => 0
theorem ud_U (d : Nat) : ud (U d) = d := rfl
theorem map_ud (l : List Nat) : (List.map (fun d : Nat => AV.int .u64 (d : Int)) (l)).map ud = l := by
  rw [List.map_map]
  have : ud ∘ U = id := by funext d; rfl
  rw [this, List.map_id]
def U32 (d : Nat) : AV := .int .u32 (d : Int)
theorem map_ud32 (l : List Nat) : (l.map fun d : Nat => AV.int .u32 (d : Int)).map ud = l := by
  rw [List.map_map]
  have : (ud ∘ fun d : Nat => AV.int .u32 (d : Int)) = id := by funext d; rfl
  rw [this, List.map_id]

section
variable {l : List Nat} {k : IntKind} {i j n : Nat}
theorem gU (h : i < l.length) : (l.map (fun d : Nat => AV.int k (d : Int))).getD i .junk = .int k ((l.getD i 0 : Nat) : Int) := by
  simp [h]
theorem gU' (h : i < l.length) : ((l.drop i).map (fun d : Nat => AV.int k (d : Int))).getD 0 .junk = .int k ((l.getD i 0 : Nat) : Int) := by
  simp [h]
theorem drop_U : (l.map (fun d : Nat => AV.int k (d : Int))).drop i = (l.drop i).map (fun d : Nat => AV.int k (d : Int)) := List.map_drop.symm
theorem take_U : (l.map (fun d : Nat => AV.int k (d : Int))).take i = (l.take i).map (fun d : Nat => AV.int k (d : Int)) := List.map_take.symm
theorem app_U {l' : List Nat} : (l.map (fun d : Nat => AV.int k (d : Int))) ++ (l'.map (fun d : Nat => AV.int k (d : Int))) = (l ++ l').map (fun d : Nat => AV.int k (d : Int)) := List.map_append.symm
theorem zeros_U : (List.replicate n [AV.int k 0]).flatten = (List.replicate n 0).map (fun d : Nat => AV.int k (d : Int)) := by
  rw [List.map_replicate]
  induction n with
  | zero => rfl
  | succ n ih => rw [List.replicate_succ, List.flatten_cons, ih, List.replicate_succ]; rfl
theorem head_U0 : AV.head (l.map (fun d : Nat => AV.int k (d : Int))) = true := by
  cases l <;> rfl
theorem ck_U : (l.map (fun d : Nat => AV.int k (d : Int))).all AV.ck = true := by
  rw [List.all_map]; simp [AV.ck, AV.one]
theorem set_U {e : Nat} : (l.map (fun d : Nat => AV.int k (d : Int))).set i (.int k (e : Int)) = (l.set i e).map (fun d : Nat => AV.int k (d : Int)) := by
  rw [List.map_set]
theorem only_U {f : Nat → Bool} : onlyL f (l.map (fun d : Nat => AV.int k (d : Int))) = true := onlyL_ints _ _ _
theorem plain_U (h : i < l.length) : ((l.map (fun d : Nat => AV.int k (d : Int))).getD i .junk).plain = true := by rw [gU h]; rfl
end

theorem getD_mem {l : List Nat} {i : Nat} (h : i < l.length) : l.getD i 0 ∈ l := by
  rw [List.getD_eq_getElem?_getD, List.getElem?_eq_getElem h]; exact List.getElem_mem h
theorem take_snoc {l : List Nat} {k : Nat} (h : k < l.length) : l.take (k + 1) = l.take k ++ [l.getD k 0] := by
  rw [List.take_add_one]; congr 1; simp [h]
theorem bq (a b : Nat) : ((a : Int) == (b : Int)) = (a == b) := by
  rw [Bool.eq_iff_iff, beq_iff_eq, beq_iff_eq]; omega
theorem bq0 (a : Nat) : ((a : Int) == 0) = (a == 0) := bq a 0
theorem bq1 (a : Nat) : ((a : Int) == 1) = (a == 1) := bq a 1
theorem nq (a b : Nat) : ((a : Int) != (b : Int)) = (a != b) := by unfold bne; rw [bq]
theorem nq0 (a : Nat) : ((a : Int) != 0) = (a != 0) := nq a 0
theorem getD_get {l : List Nat} {i : Nat} (h : i < l.length) : l.getD i 0 = l[i] := by
  rw [List.getD_eq_getElem?_getD, List.getElem?_eq_getElem h]; rfl
theorem le_lit (n k : Nat) : ((n : Int) ≤ (no_index (OfNat.ofNat k))) = (n ≤ k) := by
  have : (OfNat.ofNat k : Int) = ((k : Nat) : Int) := rfl
  rw [this, eq_iff_iff]; omega
theorem lt_lit (n k : Nat) : ((n : Int) < (no_index (OfNat.ofNat k))) = (n < k) := by
  have : (OfNat.ofNat k : Int) = ((k : Nat) : Int) := rfl
  rw [this, eq_iff_iff]; omega
theorem lit_le (n k : Nat) : ((no_index (OfNat.ofNat k) : Int) ≤ (n : Int)) = (k ≤ n) := by
  have : (OfNat.ofNat k : Int) = ((k : Nat) : Int) := rfl
  rw [this, eq_iff_iff]; omega
theorem lit_lt (n k : Nat) : ((no_index (OfNat.ofNat k) : Int) < (n : Int)) = (k < n) := by
  have : (OfNat.ofNat k : Int) = ((k : Nat) : Int) := rfl
  rw [this, eq_iff_iff]; omega
theorem beq_lit (n k : Nat) : ((n : Int) == (no_index (OfNat.ofNat k) : Int)) = (n == k) := by
  have : (OfNat.ofNat k : Int) = ((k : Nat) : Int) := rfl
  rw [this, bq]
theorem succ_sub (k : Nat) : ((k + 1 : Nat) : Int) - 1 = (k : Int) := by omega
theorem wr_row_false {d : TyD} {cs off v} (h : d.row = false) : wr d cs off v = (off < cs.length ∧ (cs.getD off .junk).plain = true ∧ v.one = true, cs.set off v) := by simp [wr, h]

/-! Numbers that wrap. -/
theorem wu_add (a b : Nat) : IntKind.u64.wrap ((a : Int) + (b : Int)) = (((a + b) % 18446744073709551616 : Nat) : Int) := by rw [IntKind.wrap_u64]; omega
theorem wu_add' (a b : Nat) (h : a + b < 18446744073709551616) : IntKind.u64.wrap ((a : Int) + (b : Int)) = ((a + b : Nat) : Int) := by rw [IntKind.wrap_u64]; omega
theorem wu_sub (a b : Nat) (h : b ≤ a) (h2 : a < 18446744073709551616) : IntKind.u64.wrap ((a : Int) - (b : Int)) = ((a - b : Nat) : Int) := by rw [IntKind.wrap_u64]; omega
theorem wu_mul (a b : Nat) : IntKind.u64.wrap ((a : Int) * (b : Int)) = (((a * b) % 18446744073709551616 : Nat) : Int) := by
  rw [IntKind.wrap_u64, ← Int.natCast_mul]; generalize a * b = c; omega
theorem wi_nat (a : Nat) (h : a < 9223372036854775808) : IntKind.i64.wrap (a : Int) = (a : Int) := by rw [IntKind.wrap_i64]; omega
theorem wi_add (a b : Nat) (h : a + b < 9223372036854775808) : IntKind.i64.wrap ((a : Int) + (b : Int)) = ((a + b : Nat) : Int) := by rw [IntKind.wrap_i64]; omega
theorem wi_add1 (a : Nat) (h : a + 1 < 9223372036854775808) : IntKind.i64.wrap ((a : Int) + 1) = ((a + 1 : Nat) : Int) := by rw [IntKind.wrap_i64]; omega
theorem wi_pred (a : Nat) (h : a < 9223372036854775808) : IntKind.i64.wrap (((a + 1 : Nat) : Int) - 1) = (a : Int) := by rw [IntKind.wrap_i64]; omega
theorem wi_pred' (a : Nat) (h : a < 9223372036854775808) : IntKind.i64.wrap ((a : Int) - 1) = (a : Int) - 1 := by rw [IntKind.wrap_i64]; omega
theorem wi_sub (a b : Nat) (h : b ≤ a) (h2 : a < 9223372036854775808) : IntKind.i64.wrap ((a : Int) - (b : Int)) = ((a - b : Nat) : Int) := by rw [IntKind.wrap_i64]; omega
theorem wu_div (a b : Nat) (h : a < 18446744073709551616) : IntKind.u64.wrap ((a : Int).tdiv (b : Int)) = ((a / b : Nat) : Int) := by
  rw [IntKind.wrap_u64, show (a : Int).tdiv (b : Int) = ((a / b : Nat) : Int) from rfl]
  have := Nat.div_le_self a b
  generalize a / b = c at *; omega
theorem u_mod (a b : Nat) : (a : Int).tmod (b : Int) = ((a % b : Nat) : Int) := rfl

/-! An opaque number, and its cells. -/
theorem Pay.open_length (x : Pay) : x.open.length = x.width := by
  cases x with
  | nat n => simp only [Pay.open, Pay.width]; split <;> rfl
  | _ => rfl
theorem Pay.open_head (x : Pay) (r : List AV) : AV.head (x.open ++ r) = true := by
  cases x with
  | nat n => simp only [Pay.open]; split <;> rfl
  | _ => rfl
theorem RL.fold {W φ w} {x : Pay} {l : List Value} {rest : List AV} (h : RL W φ w l (x.open ++ rest)) (hh : AV.head rest = true) : RL W φ w l (.opq x :: (List.replicate (x.width - 1) .pad ++ rest)) := by
  have hl := h.length
  have hx := x.open_length
  obtain ⟨h1, h2⟩ := h.split x.width (by simp [hx]) (by rw [← hx, List.drop_left]; exact hh)
  rw [← hx, List.take_left] at h1
  rw [← hx, List.drop_left] at h2
  refine .opq ?_ h1 h2 (List.take_append_drop _ _).symm rfl
  rw [List.length_take, hl, List.length_append, hx]; omega
theorem RL.unfold {W φ w} {x : Pay} {l : List Value} {rest : List AV} (h : RL W φ w l (.opq x :: (List.replicate (x.width - 1) .pad ++ rest))) : RL W φ w l (x.open ++ rest) := by
  generalize e : (AV.opq x :: (List.replicate (x.width - 1) .pad ++ rest)) = t at h
  cases h with
  | @opq y us vs xs _ _ h1 h2 h3 e1 e2 =>
    obtain ⟨e3, e4⟩ := List.cons.inj e
    obtain rfl := AV.opq.inj e3
    rw [e2] at e4
    have := List.append_cancel_left e4
    subst this; subst e1
    exact h2.app h3
  | _ => cases e
theorem CvL.fold (x : Pay) (rest : List AV) (hh : AV.head rest = true) : CvL (x.open ++ rest) (.opq x :: (List.replicate (x.width - 1) .pad ++ rest)) := fun _ _ _ _ h => h.fold hh
theorem CvL.unfold (x : Pay) (rest : List AV) : CvL (.opq x :: (List.replicate (x.width - 1) .pad ++ rest)) (x.open ++ rest) := fun _ _ _ _ h => h.unfold
theorem CvL.cons {a : AV} {xs bs : List AV} (ha : a.plain = true) (h : CvL xs bs) : CvL (a :: xs) (a :: bs) := fun _ _ _ _ hl => by
  obtain ⟨v, vs, rfl, h1, h2⟩ := hl.uncons ha
  exact h1.cons (h _ _ _ _ h2)
theorem CvL.opq {x : Pay} {xs bs : List AV} (h : CvL xs bs) : CvL (.opq x :: (List.replicate (x.width - 1) .pad ++ xs)) (.opq x :: (List.replicate (x.width - 1) .pad ++ bs)) := fun _ _ _ _ hl => by
  generalize e : (AV.opq x :: (List.replicate (x.width - 1) .pad ++ xs)) = t at hl
  cases hl with
  | @opq y us vs xs' _ _ h1 h2 h3 e1 e2 =>
    obtain ⟨e3, e4⟩ := List.cons.inj e
    obtain rfl := AV.opq.inj e3
    rw [e2] at e4
    have := List.append_cancel_left e4
    subst this
    exact .opq h1 h2 (h _ _ _ _ h3) e1 rfl
  | _ => cases e
theorem CvL.agg {xs bs rest rest' : List AV} (h : CvL xs bs) (h' : CvL rest rest') : CvL (.agg xs :: rest) (.agg bs :: rest') := fun _ _ _ _ hl => by
  obtain ⟨v, vs, rfl, h1, h2⟩ := hl.uncons rfl
  obtain ⟨cs, rfl, h3⟩ := h1.agg_inv
  exact .cons (.agg (by simpa using h _ _ _ _ h3) .nil) (h' _ _ _ _ h2)
theorem CvL.tup {xs bs rest rest' : List AV} (h : CvL xs bs) (h' : CvL rest rest') : CvL (.tup xs :: rest) (.tup bs :: rest') := fun _ _ _ _ hl => by
  obtain ⟨v, vs, rfl, h1, h2⟩ := hl.uncons rfl
  obtain ⟨cs, rfl, h3⟩ := h1.tup_inv
  exact .cons (.tup (by simpa using h _ _ _ _ h3) .nil) (h' _ _ _ _ h2)
theorem CvL.nil : CvL [] [] := .refl _
/-- One argument, or some, told otherwise. -/
theorem CSpec.cv {P f args args' r} (h : CSpec P f args' r) (ha : CvL args args') : CSpec P f args r := h.args ha
theorem CSpec.conv {P f args r r'} (h : CSpec P f args r) (hr : Conv r r') : CSpec P f args r' := fun X φ w vs hX hv => (h X φ w vs hX hv).mono fun _ _ h => ⟨hr _ _ _ _ h.1, h.2⟩

/-! Numbers of layer 1. -/
/-- The cells of one. -/
def natC (a : Nat) : List AV := (Pay.nat a).open
theorem natC_small {a : Nat} (h : a < 18446744073709551616) : natC a = [.int .u64 (a : Int), .nils] := by simp only [natC, Pay.open]; rw [if_pos h]
theorem natC_great {a : Nat} (h : ¬ a < 18446744073709551616) : natC a = [.int .u64 0, .imm (digs 18446744073709551616 a).length (List.map (fun d : Nat => AV.int .u64 (d : Int)) (digs 18446744073709551616 a))] := by simp only [natC, Pay.open]; rw [if_neg h]
theorem CvL.nat (a : Nat) (rest) (hh : AV.head rest = true) : CvL (natC a ++ rest) (.opq (.nat a) :: .pad :: rest) := .fold (.nat a) rest hh
theorem CvL.unnat (a : Nat) (rest) : CvL (.opq (.nat a) :: .pad :: rest) (natC a ++ rest) := .unfold (.nat a) rest
/-- A number handed in. -/
theorem CvL.natIn (a : Nat) {xs bs} (h : CvL xs bs) : CvL ((.agg [.opq (.nat (a)), .pad]) :: xs) (.agg (natC a) :: bs) := .agg (by simpa using CvL.unnat a []) h
/-- .. and handed out. -/
theorem CvL.natOut (a : Nat) {xs bs} (h : CvL xs bs) : CvL (.agg (natC a) :: xs) ((.agg [.opq (.nat (a)), .pad]) :: bs) := .agg (by simpa using CvL.nat a [] rfl) h
theorem Conv.nat1 {a : Nat} (h : a < 18446744073709551616) : Conv (.agg [.int .u64 (a : Int), .nils]) (.agg [.opq (.nat (a)), .pad]) := CvL.conv (by rw [← natC_small h]; exact .natOut a .nil)
theorem Conv.natL {l : List Nat} (h1 : ∀ d ∈ l, d < 18446744073709551616) (h2 : Canon l) (h3 : 2 ≤ l.length) {n : Nat} (hn : n = l.length) : Conv (.agg [.int .u64 0, .imm n (List.map (fun d : Nat => AV.int .u64 (d : Int)) (l))]) (.agg [.opq (.nat (dOf 18446744073709551616 l)), .pad]) := CvL.conv (by
  have e := digs_dOf 18446744073709551616 (by decide) l h1 h2
  have hge : ¬ dOf 18446744073709551616 l < 18446744073709551616 := fun h => by
    have := digs_length_le 18446744073709551616 (dOf 18446744073709551616 l) 1 (by decide) (by simpa using h)
    rw [e] at this; omega
  have := natC_great hge
  rw [e] at this
  subst hn
  rw [← this]; exact .natOut _ .nil)

/-! A slice of digits: nil of none. -/
def sv (l : List Nat) : AV := if l = [] then .nils else .imm l.length (List.map (fun d : Nat => AV.int .u64 (d : Int)) (l))
theorem sv_nil : sv [] = .nils := rfl
theorem sv_ne {l : List Nat} (h : l ≠ []) : sv l = .imm l.length (List.map (fun d : Nat => AV.int .u64 (d : Int)) (l)) := if_neg h
section
variable {l : List Nat} {m : Nat → AObj}
theorem sv_only (f) : (sv l).only f = true := by
  by_cases h : l = []
  · subst h; rfl
  · rw [sv_ne h]; simp only [AV.only]; exact only_U
theorem sv_plain : (sv l).plain = true := by
  by_cases h : l = []
  · subst h; rfl
  · rw [sv_ne h]; rfl
theorem sv_one : (sv l).one = true := by
  by_cases h : l = []
  · subst h; rfl
  · rw [sv_ne h]; rfl
theorem sv_ck : (sv l).ck = true := by
  by_cases h : l = []
  · subst h; rfl
  · rw [sv_ne h]; rfl
theorem sv_nopad : (sv l).nopad = true := by
  by_cases h : l = []
  · subst h; rfl
  · rw [sv_ne h]; rfl
theorem sv_snap : snapV m (sv l) = sv l := by
  by_cases h : l = []
  · subst h; rfl
  · rw [sv_ne h]; rfl
theorem sv_snap1 : snap1 m (sv l) = sv l := by
  by_cases h : l = []
  · subst h; rfl
  · rw [sv_ne h]; rfl
theorem sv_snapC : snapC1 m (sv l) = True := by
  by_cases h : l = []
  · subst h; rfl
  · rw [sv_ne h]; rfl
theorem sv_snapM (xs) : snapM m (sv l :: xs) = snapM m xs := by
  by_cases h : l = []
  · subst h; rfl
  · rw [sv_ne h]; rfl
theorem sv_cells : (sv l).cells = [sv l] := by
  by_cases h : l = []
  · subst h; rfl
  · rw [sv_ne h]; rfl
theorem sv_ids : ids (sv l) = [] := by
  by_cases h : l = []
  · subst h; rfl
  · rw [sv_ne h]; rfl
theorem sv_top : top (sv l) = none := by
  by_cases h : l = []
  · subst h; rfl
  · rw [sv_ne h]; rfl
theorem sv_len : lenOp m (sv l) = some (True, l.length) := by
  by_cases h : l = []
  · subst h; rfl
  · rw [sv_ne h]; rfl
theorem sv_isNils : (sv l).isNils = l.isEmpty := by
  cases l with
  | nil => rfl
  | cons a l => rw [sv_ne (by simp)]; rfl
theorem sv_src (s : St) (g e) : apSrc s 1 g (.slice e) (sv l) = some (True, l.length, (List.map (fun d : Nat => AV.int .u64 (d : Int)) (l))) := by
  by_cases h : l = []
  · subst h; rfl
  · rw [sv_ne h]; simp [apSrc]
theorem sv_src' (s : St) (g e) : apSrc s 1 g (.slice e) (.imm l.length (List.map (fun d : Nat => AV.int .u64 (d : Int)) (l))) = some (True, l.length, (List.map (fun d : Nat => AV.int .u64 (d : Int)) (l))) := by simp [apSrc]
theorem sv_fzC (j) : fzC m j (sv l) = True := by
  by_cases h : l = []
  · subst h; cases j <;> rfl
  · rw [sv_ne h]; cases j <;> rfl
theorem sv_fzV (j) : fzV m j (sv l) = sv l := by
  by_cases h : l = []
  · subst h; cases j <;> rfl
  · rw [sv_ne h]; cases j <;> rfl
theorem sv_ia {T : Nat → Option TyD} {d j} (h : l ≠ []) : AM.indexAddr T m (sv l) d j = AM.indexAddr T m (.imm l.length (List.map (fun d : Nat => AV.int .u64 (d : Int)) (l))) d j := by rw [sv_ne h]
theorem sv_so {T : Nat → Option TyD} {d lo hi mx} (h : l ≠ []) : sliceOp T m (sv l) d lo hi mx = sliceOp T m (.imm l.length (List.map (fun d : Nat => AV.int .u64 (d : Int)) (l))) d lo hi mx := by rw [sv_ne h]
theorem sv_isNil : isNil (sv l) = some (True, l.isEmpty) := by
  cases l with
  | nil => rfl
  | cons a l => rw [sv_ne (by simp)]; simp [isNil]
end

/-! What is handed back. -/
section
variable {m : Nat → AObj} {l : List Nat} {k : IntKind} {j n : Nat}
theorem fzC_int (j) (n) : fzC m j (.int k n) = True := by cases j <;> rfl
theorem fzV_int (j) (n) : fzV m j (.int k n) = .int k n := by cases j <;> rfl
theorem fzC_bool (j) (b) : fzC m j (.bool b) = True := by cases j <;> rfl
theorem fzV_bool (j) (b) : fzV m j (.bool b) = .bool b := by cases j <;> rfl
theorem fzC_str (j) (b) : fzC m j (.str b) = True := by cases j <;> rfl
theorem fzV_str (j) (b) : fzV m j (.str b) = .str b := by cases j <;> rfl
theorem fzC_nils (j) : fzC m j .nils = True := by cases j <;> rfl
theorem fzV_nils (j) : fzV m j .nils = .nils := by cases j <;> rfl
theorem fzC_pad (j) : fzC m j .pad = True := by cases j <;> rfl
theorem fzC_opq (j x) : fzC m j (.opq x) = True := by cases j <;> rfl
theorem fzV_opq (j x) : fzV m j (.opq x) = .opq x := by cases j <;> rfl
theorem fzC_imm (j n cs) : fzC m j (.imm n cs) = True := by cases j <;> rfl
theorem fzV_imm (j n cs) : fzV m j (.imm n cs) = .imm n cs := by cases j <;> rfl
theorem fzC_agg (j cs) : fzC m (j + 1) (.agg cs) = ∀ c ∈ cs, fzC m j c := rfl
theorem fzV_agg (j cs) : fzV m (j + 1) (.agg cs) = .agg (cs.map (fzV m j)) := rfl
theorem fzC_tup (j cs) : fzC m (j + 1) (.tup cs) = ∀ c ∈ cs, fzC m j c := rfl
theorem fzV_tup (j cs) : fzV m (j + 1) (.tup cs) = .tup (cs.map (fzV m j)) := rfl
def slC (o : AObj) (off c : Nat) (p : AV → Prop) : Prop :=
  match objCells o with
  | some cs => Cut cs off c ∧ ∀ x ∈ (cs.drop off).take c, p x
  | none => False
def slV (o : AObj) (off c n : Nat) (f : AV → AV) : AV :=
  match objCells o with
  | some cs => .imm n (((cs.drop off).take c).map f)
  | none => .junk
theorem fzC_sl (j r off n sz) : fzC m (j + 1) (.sl r off n sz) = slC (m r) off (n * sz) (fzC m j) := rfl
theorem fzV_sl (j r off n sz) : fzV m (j + 1) (.sl r off n sz) = slV (m r) off (n * sz) n (fzV m j) := rfl
theorem slC_live (cs off c p) : slC (.live cs) off c p = (Cut cs off c ∧ ∀ x ∈ (cs.drop off).take c, p x) := rfl
theorem slV_live (cs off c n f) : slV (.live cs) off c n f = .imm n (((cs.drop off).take c).map f) := rfl
theorem slC_ro (cs off c p) : slC (.ro cs) off c p = (Cut cs off c ∧ ∀ x ∈ (cs.drop off).take c, p x) := rfl
theorem slV_ro (cs off c n f) : slV (.ro cs) off c n f = .imm n (((cs.drop off).take c).map f) := rfl
theorem all_fzC_U (j) : (∀ x ∈ l.map (fun d : Nat => AV.int k (d : Int)), fzC m j x) = True := by
  refine eq_true fun x hx => ?_
  obtain ⟨d, _, rfl⟩ := List.mem_map.1 hx
  cases j <;> trivial
theorem map_fzV_U (j) : (l.map (fun d : Nat => AV.int k (d : Int))).map (fzV m j) = l.map (fun d : Nat => AV.int k (d : Int)) := by
  rw [List.map_map]; congr 1; funext d; exact fzV_int _ _
theorem ground_cons (a : AV) (xs) : groundL (a :: xs) = (a.only (fun _ => false) && groundL xs) := rfl
theorem fa_nil {p : AV → Prop} : (∀ x ∈ ([] : List AV), p x) = True := by simp
theorem ground_nil : groundL [] = true := rfl
end
/-! A number as it is handed to a function of the package: as one, or as its cells. -/
def isNatL (n : Nat) (cs : List AV) : Prop := cs = (List.map (fun d : Nat => AV.int .u64 (d : Int)) (cs.map ud)) ∧ n = cs.length ∧ (∀ d ∈ cs.map ud, d < 18446744073709551616) ∧ Canon (cs.map ud) ∧ 2 ≤ n
def rawN : AV → Option (Prop × Nat)
  | .agg [.opq (.nat a), .pad] => some (True, a)
  | .agg [.int .u64 x, .nils] => some (0 ≤ x ∧ x.toNat < 18446744073709551616, x.toNat)
  | .agg [.int .u64 x, .imm n cs] => some (x = 0 ∧ isNatL n cs, dOf 18446744073709551616 (cs.map ud))
  | _ => none
theorem rawN_atom (a : Nat) : rawN (.agg [.opq (.nat (a)), .pad]) = some (True, a) := rfl
theorem rawN_small (x : Int) : rawN (.agg [.int .u64 x, .nils]) = some (0 ≤ x ∧ x.toNat < 18446744073709551616, x.toNat) := rfl
theorem rawN_great (x : Int) (n cs) : rawN (.agg [.int .u64 x, .imm n cs]) = some (x = 0 ∧ isNatL n cs, dOf 18446744073709551616 (cs.map ud)) := rfl
theorem isNatL_digs (a : Nat) : isNatL (digs 18446744073709551616 a).length (List.map (fun d : Nat => AV.int .u64 (d : Int)) (digs 18446744073709551616 a)) = (2 ≤ (digs 18446744073709551616 a).length) := by
  unfold isNatL
  rw [map_ud]
  have h1 := digs_lt 18446744073709551616 a (by decide)
  have h2 := digs_canon 18446744073709551616 a (by decide)
  simp only [List.length_map, true_and, eq_iff_iff]
  exact ⟨fun h => h.2.2, fun h => ⟨h1, h2, h⟩⟩
theorem dOf_digs64 (a : Nat) : dOf 18446744073709551616 (digs 18446744073709551616 a) = a := dOf_digs _ _ (by decide)
theorem nn {x : Int} (h : 0 ≤ x) : ((x.toNat : Nat) : Int) = x := Int.toNat_of_nonneg h
theorem rawN_cv {v : AV} {p a} (h : rawN v = some (p, a)) (hp : p) {xs bs} (k : CvL xs bs) : CvL (v :: xs) ((.agg [.opq (.nat (a)), .pad]) :: bs) := by
  unfold rawN at h
  split at h
  · simp only [Option.some.injEq, Prod.mk.injEq] at h
    obtain ⟨rfl, rfl⟩ := h
    exact .agg (.refl _) k
  · simp only [Option.some.injEq, Prod.mk.injEq] at h
    obtain ⟨rfl, rfl⟩ := h
    rename_i x
    have e := natC_small hp.2
    rw [nn hp.1] at e
    rw [← e]; exact .natOut _ k
  · simp only [Option.some.injEq, Prod.mk.injEq] at h
    obtain ⟨rfl, rfl⟩ := h
    rename_i x n cs
    obtain ⟨rfl, h1, h2, h3, h4, h5⟩ := hp
    have e := digs_dOf 18446744073709551616 (by decide) (cs.map ud) h3 h4
    have hge : ¬ dOf 18446744073709551616 (cs.map ud) < 18446744073709551616 := fun h => by
      have := digs_length_le 18446744073709551616 (dOf 18446744073709551616 (cs.map ud)) 1 (by decide) (by simpa using h)
      rw [e] at this; simp only [List.length_map] at this; omega
    have := natC_great hge
    rw [e, ← h1, List.length_map, ← h2] at this
    rw [← this]; exact .natOut _ k
  · simp at h
/-- Of one number, and of two. -/
def on1 (f : Nat → Prop × AV) : List AV → Option (Prop × AV)
  | [x] => (rawN x).map fun a => (a.1 ∧ (f a.2).1, (f a.2).2)
  | _ => none
def on2 (f : Nat → Nat → Prop × AV) : List AV → Option (Prop × AV)
  | [x, y] => (rawN x).bind fun a => (rawN y).map fun b => (a.1 ∧ b.1 ∧ (f a.2 b.2).1, (f a.2 b.2).2)
  | _ => none
theorem on1_ok {P : Program} {fi : Nat} {f : Nat → Prop × AV} (h : ∀ a, (f a).1 → CSpec P fi [(.agg [.opq (.nat (a)), .pad])] (f a).2) (args p r) (he : on1 f args = some (p, r)) (hp : p) : CSpec P fi args r := by
  unfold on1 at he
  split at he
  · simp only [Option.map_eq_some_iff, Prod.exists, Prod.mk.injEq] at he
    obtain ⟨q, a, h1, rfl, rfl⟩ := he
    exact (h a hp.2).cv (rawN_cv h1 hp.1 .nil)
  · simp at he
theorem on2_ok {P : Program} {fi : Nat} {f : Nat → Nat → Prop × AV} (h : ∀ a b, (f a b).1 → CSpec P fi [(.agg [.opq (.nat (a)), .pad]), (.agg [.opq (.nat (b)), .pad])] (f a b).2) (args p r) (he : on2 f args = some (p, r)) (hp : p) : CSpec P fi args r := by
  unfold on2 at he
  split at he
  · simp only [Option.bind_eq_some_iff, Option.map_eq_some_iff, Prod.exists, Prod.mk.injEq] at he
    obtain ⟨q, a, h1, q', b, h2, rfl, rfl⟩ := he
    exact (h a b hp.2.2).cv (rawN_cv h1 hp.1 (rawN_cv h2 hp.2.1 .nil))
  · simp at he
theorem on1_eq (f x) : on1 f [x] = (rawN x).map fun a => (a.1 ∧ (f a.2).1, (f a.2).2) := rfl
theorem on2_eq (f x y) : on2 f [x, y] = (rawN x).bind fun a => (rawN y).map fun b => (a.1 ∧ b.1 ∧ (f a.2 b.2).1, (f a.2 b.2).2) := rfl
attribute [go_sem] sv_only sv_plain sv_one sv_ck sv_nopad sv_snap sv_snap1 sv_snapC sv_snapM sv_cells sv_ids sv_top sv_len sv_isNils sv_src sv_src' sv_fzC sv_fzV sv_isNil
attribute [go_sem] rawN_atom rawN_small rawN_great isNatL_digs dOf_digs64 on1_eq on2_eq
attribute [go_sem] fzC_int fzV_int fzC_bool fzV_bool fzC_str fzV_str fzC_nils fzV_nils fzC_pad fzV_pad fzC_opq fzV_opq fzC_imm fzV_imm fzC_agg fzV_agg fzC_tup fzV_tup fzC_sl fzV_sl slC_live slV_live slC_ro slV_ro all_fzC_U map_fzV_U ground_cons ground_nil AV.only onlyL List.forall_mem_cons fa_nil
attribute [go_sem] drop_U take_U app_U zeros_U List.drop_replicate List.length_replicate List.length_append Nat.add_sub_cancel_left Nat.sub_zero Nat.sub_self List.replicate_zero head_U0 ck_U set_U only_U List.length_map List.length_drop List.length_set Int.toNat_natCast Nat.mul_one Nat.one_mul map_ud map_ud32 Int.natCast_nonneg Int.ofNat_lt Int.ofNat_le Nat.sub_pos_iff_lt Int.natCast_pos succ_sub Int.sub_zero gt_iff_lt ge_iff_le le_lit lt_lit lit_le lit_lt beq_lit bq bq0 bq1 nq nq0 Nat.zero_lt_succ Int.le_refl Nat.le_refl Nat.zero_le
end Go.Proofs.Ytlgimmafejbmgaa.AM
