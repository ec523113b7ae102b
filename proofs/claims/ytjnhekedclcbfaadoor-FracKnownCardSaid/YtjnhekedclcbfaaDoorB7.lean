/- Package nat: a text read az a number. -/
import Derived.Test.YtjnhekedclcbfaaDoorB6
namespace Go.Proofs.YtjnhekedclcbfaaDoor.AM
set_option linter.all false
set_option autoImplicit true
set_option relaxedAutoImplicit true
open Go Go.Proofs
set_option maxRecDepth 100000
set_option maxHeartbeats 8000000
set_option linter.unusedSimpArgs false
variable {P : Program}

/-- The bytes of a text, az numbers. -/
def bl (s : ByteArray) : List Nat := s.data.toList.map UInt8.toNat
theorem size_bl (s : ByteArray) : s.size = (bl s).length := by unfold bl; rw [List.length_map, Array.length_toList]; rfl
theorem get_bl (s : ByteArray) (k : Nat) : (s.get! k).toNat = (bl s).getD k 0 := by
  obtain ⟨a⟩ := s
  show (a[k]!).toNat = _
  unfold bl
  rw [List.getD_eq_getElem?_getD, List.getElem?_map, Array.getElem?_toList, getElem!_def]
  have e : (ByteArray.mk a).data = a := rfl
  rw [e]
  cases a[k]? <;> rfl
theorem bl_lt (s : ByteArray) : ∀ c ∈ bl s, c < 256 := fun c hc => by
  obtain ⟨b, _, rfl⟩ := List.mem_map.1 hc
  exact b.toNat_lt
theorem bl_extract (s : ByteArray) (l h : Nat) : bl (s.extract l h) = ((bl s).drop l).take (h - l) := by
  unfold bl
  rw [ByteArray.data_extract, Array.toList_extract, List.extract_eq_take_drop]
  simp [List.map_drop, List.map_take]
def valL (l : List Nat) : Nat := l.foldl (fun v c => 10 * v + (c - 48)) 0
theorem valL_snoc (l : List Nat) (c : Nat) : valL (l ++ [c]) = 10 * valL l + (c - 48) := by simp [valL]
theorem valL_take_succ {l : List Nat} {k : Nat} (h : k < l.length) : valL (l.take (k + 1)) = 10 * valL (l.take k) + (l.getD k 0 - 48) := by rw [take_snoc h, valL_snoc]
def okD (l : List Nat) : Prop := l ≠ [] ∧ ¬ (1 < l.length ∧ l.getD 0 0 = 48) ∧ ∀ c ∈ l, 48 ≤ c ∧ c ≤ 57
theorem toList_nil (s : ByteArray) : (s.toList == ByteArray.toList ⟨#[]⟩) = (bl s).isEmpty := by
  rw [ByteArray.toList_eq, ByteArray.toList_eq]
  unfold bl
  cases s.data.toList <;> rfl
theorem valL_from (b : List Nat) : ∀ v : Nat, b.foldl (fun v c => 10 * v + (c - 48)) v = v * 10 ^ b.length + valL b := by
  induction b with
  | nil => intro v; simp [valL]
  | cons c b ih =>
    intro v
    unfold valL
    rw [List.foldl_cons, List.foldl_cons, ih, ih (10 * 0 + (c - 48)), List.length_cons, Nat.pow_succ, Nat.add_mul, Nat.mul_zero, Nat.zero_add, Nat.mul_comm 10 v, Nat.mul_assoc, Nat.mul_comm 10 (10 ^ _)]
    omega
theorem valL_app (a b : List Nat) : valL (a ++ b) = valL a * 10 ^ b.length + valL b := by
  have := valL_from b (valL a)
  unfold valL at this ⊢
  rw [List.foldl_append]; exact this
theorem valL_lt {l : List Nat} (h : ∀ c ∈ l, c ≤ 57) : valL l < 10 ^ l.length := by
  induction l with
  | nil => simp [valL]
  | cons c l ih =>
    have h1 := ih (fun d hd => h d (by simp [hd]))
    have h2 := h c (by simp)
    have e := valL_app [c] l
    simp only [List.singleton_append] at e
    have e2 : valL [c] = c - 48 := by simp [valL]
    have h3 : (c - 48 + 1) * 10 ^ l.length ≤ 10 * 10 ^ l.length := Nat.mul_le_mul_right _ (by omega)
    rw [e, e2, List.length_cons, Nat.pow_succ]
    rw [Nat.add_mul] at h3; omega
def pX (c : Nat) : OD → Nat
  | some (false, false) => 120 - c
  | _ => 110 - c
structure PS where
  s : ByteArray
  k : Nat
  D : OD
  n : Nat
  d : List Nat
theorem conv12 (e : Int) : Conv (.tup [.agg [.int .u64 0, .nils], .int .i64 e]) (.tup [(.agg [.opq (.nat (0)), .pad]), .int .i64 e]) := CvL.conv (CvL.tup (by have := CvL.natOut 0 (xs := [.int .i64 e]) (CvL.refl _); rw [natC_small (by decide)] at this; exact this) .nil)
noncomputable def parseR (l : List Nat) : AV := by classical exact if okD l then (if l.length ≤ 256 then .tup [(.agg [.opq (.nat (valL l)), .pad]), .int .i64 0] else .tup [(.agg [.opq (.nat (0)), .pad]), .int .i64 3]) else .tup [(.agg [.opq (.nat (0)), .pad]), .int .i64 12]
theorem parse_bad {l : List Nat} (h : ¬ okD l) : parseR l = .tup [(.agg [.opq (.nat (0)), .pad]), .int .i64 12] := by unfold parseR; rw [if_neg h]
theorem parse_long {l : List Nat} (h : okD l) (h2 : 256 < l.length) : parseR l = .tup [(.agg [.opq (.nat (0)), .pad]), .int .i64 3] := by unfold parseR; rw [if_pos h, if_neg (by omega)]
theorem parse_ok {l : List Nat} (h : okD l) (h2 : l.length ≤ 256) : parseR l = .tup [(.agg [.opq (.nat (valL l)), .pad]), .int .i64 0] := by unfold parseR; rw [if_pos h, if_pos h2]
theorem mul_acc {D p c V W x y z c' B : Nat} (h : D + p * c = V * y + W) (h1 : z + B * c' = x * y + c) : D + p * z + p * B * c' = (V + p * x) * y + W := by
  have e2 := congrArg (p * ·) h1
  simp only [Nat.mul_add, ← Nat.mul_assoc] at e2
  rw [Nat.add_mul]; omega
theorem cut_nil (hP : PrgOk P) : CSpec P 70 [.nils] (.agg [.opq (.nat (0)), .pad]) := by
  have HE := Sf_ok hP
  refine CSpec_vc (E := ⟨T0, Sf⟩) (fn70 hP) HE hP.mix rfl (by first | rfl | (simp only [go_sem]; done)) (by first | rfl | (simp only [go_sem]; done)) (Nat.le_of_ble_eq_true rfl) ?_
  simp (maxSteps := 1000000) only [go_sem]
  refine trX_loop HE hP.mix [0] (fun _ : Unit => ⟨upd (upd (upd (fun _ => .junk) 0 .nils) 2 (.ref 0 0)) 3 (.int .i64 0), upd (fun _ => .unused) 0 (.live [.int .u64 0, .nils]), 33⟩)
    (fun _ => True) (fun _ => 0) () 20 (by repeat (first | exact Has.nil | refine Has.upd rfl ?_)) (Kept.of rfl (by repeat (first | exact KT.nil | refine KT.upd rfl (by first | rfl | exact hr | exact hr2 | (simp only [go_sem]; done)) ?_)) (KM.p (by repeat (first | exact KMp.nil | refine KMp.upd rfl (by first | rfl | (simp only [go_sem]; done)) ?_)))) trivial 33 (by kernel_rfl) ?_
  intro _ _
  simp (maxSteps := 1000000) only [go_sem, Int.lt_irrefl]
  exact Conv.nat1 (by decide)
def cutS2 : List AV → Option (Prop × AV)
  | [.nils] => some (True, (.agg [.opq (.nat (0)), .pad]))
  | [.imm n cs] => cutS [.imm n cs]
  | _ => none
theorem cutS2_ok (hP : PrgOk P) (args p r) (h : cutS2 args = some (p, r)) (hp : p) : CSpec P 70 args r := by
  unfold cutS2 at h
  split at h
  · simp only [Option.some.injEq, Prod.mk.injEq] at h
    obtain ⟨rfl, rfl⟩ := h
    exact cut_nil hP
  · exact cutS_ok hP _ _ _ h hp
  · simp at h
attribute [go_sem] cutS2
noncomputable def Sg : Nat → List AV → Option (Prop × AV) := addS Sf 70 cutS2
theorem Sg_ok (hP : PrgOk P) : EnvOk P ⟨T0, Sg⟩ := ((Sf_ok hP).add (cutS2_ok hP))
theorem Sg_at (f a) : Sg f a = (addS Sf 70 cutS2) f a := rfl
attribute [go_sem] Sg_at
theorem Parse_spec (hP : PrgOk P) (s : ByteArray) (hsz : (bl s).length ≤ 1099511627776) : CSpec P 37 [.str s] (parseR (bl s)) := by
  have HE := Sg_ok hP
  refine CSpec_vc (E := ⟨T0, Sg⟩) (fn37 hP) HE hP.mix rfl (by first | rfl | (simp only [go_sem]; done)) (by first | rfl | (simp only [go_sem]; done)) (Nat.le_of_ble_eq_true rfl) ?_
  obtain ⟨l, hl⟩ : ∃ l, bl s = l := ⟨_, rfl⟩
  rw [hl] at hsz ⊢
  by_cases h1 : l = []
  · have h1' : l.isEmpty = true := by rw [h1]; rfl
    have hno : ¬ okD l := fun h => h.1 h1
    simp (maxSteps := 1000000) only [go_sem, toList_nil, hl, h1']
    rw [parse_bad hno]; exact conv12 12
  · have h1' : l.isEmpty = false := by cases l <;> simp_all
    by_cases h2 : 1 < l.length
    · rcases (by cases (l.getD 0 0 == 48) <;> simp : (l.getD 0 0 == 48) = true ∨ (l.getD 0 0 == 48) = false) with h3 | h3
      · have hno : ¬ okD l := fun h => h.2.1 ⟨h2, by simpa using h3⟩
        simp (maxSteps := 1000000) only [go_sem, toList_nil, size_bl, get_bl, hl, h1', h2, h3]
        rw [parse_bad hno]; exact ⟨by omega, conv12 12⟩
      · have h0 : ¬ (1 < l.length ∧ l.getD 0 0 = 48) := fun h => by simp at h3; exact h3 (by simpa using h.2)
        simp (maxSteps := 1000000) only [go_sem, toList_nil, size_bl, get_bl, hl, h1', h2, h3]
        refine ⟨by omega, ?_⟩
        refine trX_loop HE hP.mix [0] (fun i : Nat => ⟨upd (upd (upd (upd (upd (fun _ => .junk) 0 (.str s)) 2 (.ref 0 0)) 3 (.int .i64 0)) 28 (.int .i64 (l.length : Int))) 29 (.int .i64 (i : Int)), upd (fun _ => .unused) 0 (.live [.int .u64 0, .nils]), 109⟩)
          (fun i => i ≤ l.length ∧ ∀ j, j < i → 48 ≤ l.getD j 0 ∧ l.getD j 0 ≤ 57) (fun i => l.length - i) 0 20
          (by repeat (first | exact Has.nil | refine Has.upd rfl ?_)) (Kept.of rfl (by repeat (first | exact KT.nil | refine KT.upd rfl (by first | rfl | exact hr | exact hr2 | (simp only [go_sem]; done)) ?_)) (KM.p (by repeat (first | exact KMp.nil | refine KMp.upd rfl (by first | rfl | (simp only [go_sem]; done)) ?_)))) ⟨Nat.zero_le _, fun j hj => absurd hj (Nat.not_lt_zero _)⟩ 109 (by kernel_rfl) ?_
        rintro i ⟨q1, q2⟩
        by_cases hi : i < l.length
        · have hwi := wi_add1 i (by omega)
          have hmem := getD_mem hi
          by_cases c1 : l.getD i 0 < 48
          · have hno : ¬ okD l := fun h => by have := h.2.2 _ hmem; omega
            simp (maxSteps := 1000000) only [go_sem, size_bl, get_bl, hl, hi, c1]
            rw [parse_bad hno]; exact conv12 12
          · by_cases c2 : 57 < l.getD i 0
            · have hno : ¬ okD l := fun h => by have := h.2.2 _ hmem; omega
              simp (maxSteps := 1000000) only [go_sem, size_bl, get_bl, hl, hi, c1, c2]
              rw [parse_bad hno]; exact conv12 12
            · simp (maxSteps := 1000000) only [go_sem, size_bl, get_bl, hl, hi, c1, c2, hwi]
              exact ⟨i + 1, Kept.of rfl (by repeat (first | exact KT.nil | refine KT.upd rfl (by first | rfl | exact hr | exact hr2 | (simp only [go_sem]; done)) ?_)) (KM.p (by repeat (first | exact KMp.nil | refine KMp.upd rfl (by first | rfl | (simp only [go_sem]; done)) ?_))), ⟨by omega, fun j hj => by
                rcases Nat.lt_or_ge j i with h | h
                · exact q2 j h
                · rw [show j = i by omega]; omega⟩, by omega⟩
        · have hok : okD l := ⟨h1, h0, fun c hc => by
            obtain ⟨j, hj, rfl⟩ := List.getElem_of_mem hc
            rw [← getD_get hj]; exact q2 j (by omega)⟩
          clear q1 q2
          by_cases hlg : 256 < l.length
          · simp (maxSteps := 1000000) only [go_sem, size_bl, hl, hi, hlg]
            rw [parse_long hok hlg]; exact conv12 3
          · rw [parse_ok hok (by omega)]
            simp (maxSteps := 1000000) only [go_sem, size_bl, hl, hi, hlg]
            refine trX_loopV HE hP.mix (fun y : PS => oL [0] y.D) (fun y => ⟨upd (upd (upd (upd (fun _ => .junk) 0 (.str y.s)) 2 (.ref 0 0)) 3 (.int .i64 0)) 5 (oV y.D y.n), oM .u64 (upd (fun _ => .unused) 0 (.live [.int .u64 0, .nils])) y.D y.d, 109⟩)
              (fun y => bl y.s = l.drop y.k ∧ y.k ≤ l.length ∧ y.d.length = y.n ∧ y.n ≤ y.k ∧ (∀ x ∈ y.d, x < 18446744073709551616) ∧ dOf 18446744073709551616 y.d = valL (l.take y.k) ∧ (y.D = none → y.d = [] ∧ y.n = 0) ∧ (∀ b, y.D ≠ some (true, b))) (fun y => l.length - y.k) ⟨s, 0, none, 0, []⟩ (fun _ => 20)
              (fun x r hr => oL_has (by repeat (first | exact Has.nil | refine Has.upd rfl ?_)) x.D r hr) (Kept.of rfl (by repeat (first | exact KT.nil | refine KT.upd rfl (by first | rfl | exact hr | exact hr2 | (simp only [go_sem]; done)) ?_)) (KM.p (by repeat (first | exact KMp.nil | refine KMp.upd rfl (by first | rfl | (simp only [go_sem]; done)) ?_)))) ⟨hl, Nat.zero_le _, rfl, Nat.le_refl _, by simp, rfl, fun _ => ⟨rfl, rfl⟩, by simp⟩ 109 (by kernel_rfl) ?_
            rintro ⟨s', k, D, nd, d⟩ ⟨p1, p2, p3, p4, p5, p6, p7, p8⟩
            simp only [] at p1 p2 p3 p4 p5 p6 p7 p8
            obtain ⟨l', hl'⟩ : ∃ l', bl s' = l' := ⟨_, rfl⟩
            rw [hl'] at p1
            have hll : l'.length = l.length - k := by rw [p1, List.length_drop]
            by_cases hk : k < l.length
            · have hl0 : 0 < l'.length := by omega
              obtain ⟨n, hn⟩ : ∃ n, (l'.length - 1) % 19 + 1 = n := ⟨_, rfl⟩
              have hnl : n ≤ l'.length := by have := Nat.mod_le (l'.length - 1) 19; omega
              have hn19 : n ≤ 19 := by have := Nat.mod_lt (l'.length - 1) (show 0 < 19 by decide); omega
              have hn0 : 0 < n := by omega
              have w1 : IntKind.i64.wrap ((l'.length : Int) - 1) = ((l'.length - 1 : Nat) : Int) := by rw [IntKind.wrap_i64]; omega
              have w2 : ((l'.length - 1 : Nat) : Int).tmod 19 = (((l'.length - 1) % 19 : Nat) : Int) := rfl
              have w3 : IntKind.i64.wrap ((((l'.length - 1) % 19 : Nat) : Int) + 1) = (n : Int) := by rw [IntKind.wrap_i64]; omega
              have hdig : ∀ i, i < l'.length → 48 ≤ l'.getD i 0 ∧ l'.getD i 0 ≤ 57 := fun i hi => hok.2.2 _ (by rw [p1] at hi ⊢; exact List.mem_of_mem_drop (getD_mem hi))
              have hp10 : ∀ i, i ≤ 19 → 10 ^ i < 18446744073709551616 := fun i hi => Nat.lt_of_le_of_lt (Nat.pow_le_pow_right (by decide) hi) (by decide)
              rcases D with _ | ⟨_ | _, _ | _⟩
              ·
                simp only [oV, oM, oNum]
                simp (maxSteps := 1000000) only [go_sem, size_bl, hl', hl0, w1, w2, w3]
                refine ⟨by decide, ?_⟩
                refine trX_loop HE hP.mix [0] (fun y : Nat × Nat × Nat => ⟨upd (upd (upd (upd (upd (upd (upd (upd (upd (fun _ => .junk) 0 (.str s')) 2 (.ref 0 0)) 3 (.int .i64 0)) 5 (oV none nd)) 6 (.int .i64 (n : Int))) 7 (.int .u64 (y.2.1 : Int))) 8 (.int .u64 (y.2.2 : Int))) 56 (.int .i64 (n : Int))) 57 (.int .i64 (y.1 : Int)), oM .u64 (upd (fun _ => .unused) 0 (.live [.int .u64 0, .nils])) none d, 109⟩)
                  (fun y => y.1 ≤ n ∧ y.2.1 = valL (l'.take y.1) ∧ y.2.1 < 10 ^ y.1 ∧ y.2.2 = 10 ^ y.1) (fun y => n - y.1) (0, 0, 1) 20 (by repeat (first | exact Has.nil | refine Has.upd rfl ?_)) (Kept.of rfl (by repeat (first | exact KT.nil | refine KT.upd rfl (by first | rfl | exact hr | exact hr2 | (simp only [go_sem]; done)) ?_)) (KM.p (by repeat (first | exact KMp.nil | refine KMp.upd rfl (by first | rfl | (simp only [go_sem]; done)) ?_)))) ⟨Nat.zero_le _, rfl, by decide, rfl⟩ 109 (by kernel_rfl) ?_
                rintro ⟨i, c, p⟩ ⟨q1, q2, q3, q4⟩
                simp only [] at q1 q2 q3 q4
                by_cases hin : i < n
                · have hil : i < l'.length := by omega
                  obtain ⟨g1, g2⟩ := hdig i hil
                  have g3 : 10 ^ i ≤ 10 ^ 18 := Nat.pow_le_pow_right (by decide) (by omega)
                  have f1 : IntKind.u64.wrap (10 * (c : Int)) = ((10 * c : Nat) : Int) := by rw [IntKind.wrap_u64]; omega
                  have f2 : IntKind.u8.wrap (((l'.getD i 0 : Nat) : Int) - 48) = ((l'.getD i 0 - 48 : Nat) : Int) := by rw [IntKind.wrap_u8]; omega
                  have f3 := u_nat (l'.getD i 0 - 48) (by omega)
                  have f4 := wu_add' (10 * c) (l'.getD i 0 - 48) (by omega)
                  have f5 : IntKind.u64.wrap (10 * (p : Int)) = ((10 * p : Nat) : Int) := by rw [IntKind.wrap_u64]; omega
                  have f6 := wi_add1 i (by omega)
                  simp only [oV, oM, oNum]
                  simp (maxSteps := 1000000) only [go_sem, size_bl, get_bl, hl', hin, hil, f1, f2, f3, f4, f5, f6]
                  exact ⟨(i + 1, 10 * c + (l'.getD i 0 - 48), 10 * p), Kept.of rfl (by repeat (first | exact KT.nil | refine KT.upd rfl (by first | rfl | exact hr | exact hr2 | (simp only [go_sem]; done)) ?_)) (KM.p (by repeat (first | exact KMp.nil | refine KMp.upd rfl (by first | rfl | (simp only [go_sem]; done)) ?_))), ⟨by simp only []; omega, by simp only []; rw [valL_take_succ hil, q2], by simp only []; rw [Nat.pow_succ]; omega, by simp only []; rw [q4, Nat.pow_succ, Nat.mul_comm]⟩, by simp only []; omega⟩
                · have hie : i = n := by omega
                  subst hie
                  have hpb := hp10 i hn19
                  rw [← q4] at hpb
                  have hcb : c < 18446744073709551616 := by omega
                  have hs'' : bl (s'.extract i l'.length) = l.drop (k + i) := by
                    rw [bl_extract, hl', p1, List.drop_drop, List.take_of_length_le (by rw [List.length_drop, List.length_drop]; omega)]
                  have hval : valL (l.take (k + i)) = dOf 18446744073709551616 d * p + c := by
                    have e : l.take (k + i) = l.take k ++ l'.take i := by rw [p1, List.take_add]
                    rw [e, valL_app, List.length_take, Nat.min_eq_left hnl, p6, q4, q2]
                  simp only [oV, oM, oNum]
                  simp (maxSteps := 1000000) only [go_sem, hin]
                  obtain ⟨hd0, hn0'⟩ := p7 rfl
                  refine trX_loop HE hP.mix [0] (fun _ : Unit => ⟨upd (upd (upd (upd (upd (upd (upd (upd (upd (fun _ => .junk) 0 (.str s')) 2 (.ref 0 0)) 3 (.int .i64 0)) 5 .nils) 6 (.int .i64 (i : Int))) 7 (.int .u64 (c : Int))) 8 (.int .u64 (p : Int))) 72 (.int .i64 0)) 73 (.int .i64 0), upd (fun _ => .unused) 0 (.live [.int .u64 0, .nils]), 109⟩)
                    (fun _ => True) (fun _ => 0) () 104 (by repeat (first | exact Has.nil | refine Has.upd rfl ?_)) (Kept.of rfl (by repeat (first | exact KT.nil | refine KT.upd rfl (by first | rfl | exact hr | exact hr2 | (simp only [go_sem]; done)) ?_)) (KM.p (by repeat (first | exact KMp.nil | refine KMp.upd rfl (by first | rfl | (simp only [go_sem]; done)) ?_)))) trivial 109 (by kernel_rfl) ?_
                  intro _ _
                  rw [hd0] at hval
                  have hval : valL (l.take (k + i)) = c := by rw [hval]; simp [dOf]
                  by_cases hc : 0 < c
                  · simp (maxSteps := 1000000) only [go_sem, Int.lt_irrefl, hc, size_bl, hl', hnl]
                    exact ⟨⟨by simp, fun _ => trivial⟩, ⟨s'.extract i l'.length, k + i, some (false, false), 1, [c]⟩, Kept.of rfl (by repeat (first | exact KT.nil | refine KT.upd rfl (by first | rfl | exact hr | exact hr2 | (simp only [go_sem]; done)) ?_)) (KM.p (by repeat (first | exact KMp.nil | refine KMp.upd rfl (by first | rfl | (simp only [go_sem]; done)) ?_))), ⟨hs'', by simp only []; omega, rfl, by simp only []; omega, fun x hx => by rw [List.mem_singleton.1 hx]; exact hcb, by simp only []; rw [hval]; simp [dOf], by simp, by simp⟩, by simp only []; omega⟩
                  · simp (maxSteps := 1000000) only [go_sem, Int.lt_irrefl, hc, size_bl, hl', hnl]
                    exact ⟨⟨s'.extract i l'.length, k + i, none, 0, []⟩, Kept.of rfl (by repeat (first | exact KT.nil | refine KT.upd rfl (by first | rfl | exact hr | exact hr2 | (simp only [go_sem]; done)) ?_)) (KM.p (by repeat (first | exact KMp.nil | refine KMp.upd rfl (by first | rfl | (simp only [go_sem]; done)) ?_))), ⟨hs'', by simp only []; omega, rfl, Nat.zero_le _, by simp, by simp only []; rw [hval]; simp [dOf]; omega, fun _ => ⟨rfl, rfl⟩, by simp⟩, by simp only []; omega⟩
              ·
                simp only [oV, oM, oNum]
                simp (maxSteps := 1000000) only [go_sem, size_bl, hl', hl0, w1, w2, w3]
                refine ⟨by decide, ?_⟩
                refine trX_loop HE hP.mix [110, 0] (fun y : Nat × Nat × Nat => ⟨upd (upd (upd (upd (upd (upd (upd (upd (upd (fun _ => .junk) 0 (.str s')) 2 (.ref 0 0)) 3 (.int .i64 0)) 5 (oV (some (false, false)) nd)) 6 (.int .i64 (n : Int))) 7 (.int .u64 (y.2.1 : Int))) 8 (.int .u64 (y.2.2 : Int))) 56 (.int .i64 (n : Int))) 57 (.int .i64 (y.1 : Int)), oM .u64 (upd (fun _ => .unused) 0 (.live [.int .u64 0, .nils])) (some (false, false)) d, 109⟩)
                  (fun y => y.1 ≤ n ∧ y.2.1 = valL (l'.take y.1) ∧ y.2.1 < 10 ^ y.1 ∧ y.2.2 = 10 ^ y.1) (fun y => n - y.1) (0, 0, 1) 20 (by repeat (first | exact Has.nil | refine Has.upd rfl ?_)) (Kept.of rfl (by repeat (first | exact KT.nil | refine KT.upd rfl (by first | rfl | exact hr | exact hr2 | (simp only [go_sem]; done)) ?_)) (KM.p (by repeat (first | exact KMp.nil | refine KMp.upd rfl (by first | rfl | (simp only [go_sem]; done)) ?_)))) ⟨Nat.zero_le _, rfl, by decide, rfl⟩ 109 (by kernel_rfl) ?_
                rintro ⟨i, c, p⟩ ⟨q1, q2, q3, q4⟩
                simp only [] at q1 q2 q3 q4
                by_cases hin : i < n
                · have hil : i < l'.length := by omega
                  obtain ⟨g1, g2⟩ := hdig i hil
                  have g3 : 10 ^ i ≤ 10 ^ 18 := Nat.pow_le_pow_right (by decide) (by omega)
                  have f1 : IntKind.u64.wrap (10 * (c : Int)) = ((10 * c : Nat) : Int) := by rw [IntKind.wrap_u64]; omega
                  have f2 : IntKind.u8.wrap (((l'.getD i 0 : Nat) : Int) - 48) = ((l'.getD i 0 - 48 : Nat) : Int) := by rw [IntKind.wrap_u8]; omega
                  have f3 := u_nat (l'.getD i 0 - 48) (by omega)
                  have f4 := wu_add' (10 * c) (l'.getD i 0 - 48) (by omega)
                  have f5 : IntKind.u64.wrap (10 * (p : Int)) = ((10 * p : Nat) : Int) := by rw [IntKind.wrap_u64]; omega
                  have f6 := wi_add1 i (by omega)
                  simp only [oV, oM, oNum]
                  simp (maxSteps := 1000000) only [go_sem, size_bl, get_bl, hl', hin, hil, f1, f2, f3, f4, f5, f6]
                  exact ⟨(i + 1, 10 * c + (l'.getD i 0 - 48), 10 * p), Kept.of rfl (by repeat (first | exact KT.nil | refine KT.upd rfl (by first | rfl | exact hr | exact hr2 | (simp only [go_sem]; done)) ?_)) (KM.p (by repeat (first | exact KMp.nil | refine KMp.upd rfl (by first | rfl | (simp only [go_sem]; done)) ?_))), ⟨by simp only []; omega, by simp only []; rw [valL_take_succ hil, q2], by simp only []; rw [Nat.pow_succ]; omega, by simp only []; rw [q4, Nat.pow_succ, Nat.mul_comm]⟩, by simp only []; omega⟩
                · have hie : i = n := by omega
                  subst hie
                  have hpb := hp10 i hn19
                  rw [← q4] at hpb
                  have hcb : c < 18446744073709551616 := by omega
                  have hs'' : bl (s'.extract i l'.length) = l.drop (k + i) := by
                    rw [bl_extract, hl', p1, List.drop_drop, List.take_of_length_le (by rw [List.length_drop, List.length_drop]; omega)]
                  have hval : valL (l.take (k + i)) = dOf 18446744073709551616 d * p + c := by
                    have e : l.take (k + i) = l.take k ++ l'.take i := by rw [p1, List.take_add]
                    rw [e, valL_app, List.length_take, Nat.min_eq_left hnl, p6, q4, q2]
                  simp only [oV, oM, oNum]
                  simp (maxSteps := 1000000) only [go_sem, hin]
                  refine trX_loop HE hP.mix [110, 0] (fun y : Nat × List Nat × Nat => ⟨upd (upd (upd (upd (upd (upd (upd (upd (upd (fun _ => .junk) 0 (.str s')) 2 (.ref 0 0)) 3 (.int .i64 0)) 5 (.sl 110 0 nd 1)) 6 (.int .i64 (i : Int))) 7 (.int .u64 (y.2.2 : Int))) 8 (.int .u64 (p : Int))) 72 (.int .i64 (nd : Int))) 73 (.int .i64 (y.1 : Int)), upd (upd (fun _ => .unused) 0 (.live [.int .u64 0, .nils])) 110 (.live (List.map (fun d : Nat => AV.int .u64 (d : Int)) (y.2.1 ++ d.drop y.1))), 109⟩)
                    (fun y => y.1 ≤ nd ∧ y.2.1.length = y.1 ∧ (∀ x ∈ y.2.1, x < 18446744073709551616) ∧ y.2.2 < 18446744073709551616 ∧ dOf 18446744073709551616 y.2.1 + 18446744073709551616 ^ y.1 * y.2.2 = dOf 18446744073709551616 (d.take y.1) * p + c) (fun y => nd - y.1) (0, [], c) 114 (by repeat (first | exact Has.nil | refine Has.upd rfl ?_)) (Kept.of rfl (by repeat (first | exact KT.nil | refine KT.upd rfl (by first | rfl | exact hr | exact hr2 | (simp only [go_sem]; done)) ?_)) (KM.p (by repeat (first | exact KMp.nil | refine KMp.upd rfl (by first | rfl | (simp only [go_sem]; done)) ?_)))) ⟨Nat.zero_le _, rfl, by simp, hcb, by simp [dOf]⟩ 109 (by kernel_rfl) ?_
                  rintro ⟨j, dn, e⟩ ⟨j1, j2, j3, j4, j5⟩
                  simp only [] at j1 j2 j3 j4 j5
                  by_cases hj : j < nd
                  · have hjd : j < d.length := by omega
                    have hxd := p5 _ (getD_mem hjd)
                    have hlen : j < (dn ++ d.drop j).length := by rw [List.length_append, List.length_drop]; omega
                    have hlen' : j < dn.length + (d.length - j) := by omega
                    have hget : (dn ++ d.drop j).getD j 0 = d.getD j 0 := by rw [drop_cons hjd]; exact get_app (R := d.drop (j + 1)) j2
                    have hset : ∀ z, (dn ++ d.drop j).set j z = (dn ++ [z]) ++ d.drop (j + 1) := fun z => by rw [drop_cons hjd, List.append_assoc]; exact set_app (R := d.drop (j + 1)) j2
                    have hcar := away_carry hxd hpb j4
                    have hw2 := wu_add' _ _ hcar
                    have hml := mull_lt (d.getD j 0) p
                    have hwj := wi_add1 j (by omega)
                    simp (maxSteps := 1000000) only [go_sem, hj, hlen, hlen', gU hlen, hget, hset, hxd, hpb, hml, hw2, hwj, upd_upd]
                    refine ⟨(j + 1, dn ++ [addl (mull (d.getD j 0) p) e 0], mulh (d.getD j 0) p + addh (mull (d.getD j 0) p) e 0), Kept.of rfl (by repeat (first | exact KT.nil | refine KT.upd rfl (by first | rfl | exact hr | exact hr2 | (simp only [go_sem]; done)) ?_)) (KM.p (by repeat (first | exact KMp.nil | refine KMp.upd rfl (by first | rfl | (simp only [go_sem]; done)) ?_))), ⟨by simp only []; omega, by simp only [List.length_append, List.length_singleton]; omega, ?_, hcar, ?_⟩, by simp only []; omega⟩
                    · intro x hx
                      rcases List.mem_append.1 hx with hx | hx
                      · exact j3 x hx
                      · rw [List.mem_singleton.1 hx]; exact addl_lt _ _ _
                    · simp only []
                      rw [dOf_snoc, j2, dOf_take_succ 18446744073709551616 d j hjd, Nat.pow_succ]
                      exact mul_acc j5 (away_digit (d.getD j 0) p e)
                  · have hje : j = nd := by omega
                    subst hje
                    have ht : d.take j = d := List.take_of_length_le (by omega)
                    have hdr : d.drop j = [] := List.drop_of_length_le (by omega)
                    rw [ht, ← hval] at j5
                    rw [hdr, List.append_nil]
                    by_cases hc : 0 < e
                    · have hjb : (j + 1) * 8 ≤ 1099511627776 := by omega
                      simp (maxSteps := 1000000) only [go_sem, hj, hc, size_bl, hl', hnl, map_snoc]
                      exact ⟨⟨j2, by simp, fun _ => trivial, hjb⟩, ⟨s'.extract i l'.length, k + i, some (false, true), j + 1, dn ++ [e]⟩, Kept.of rfl (by repeat (first | exact KT.nil | refine KT.upd rfl (by first | rfl | exact hr | exact hr2 | (simp only [go_sem]; done)) ?_)) (KM.p (by repeat (first | exact KMp.nil | refine KMp.upd rfl (by first | rfl | (simp only [go_sem]; done)) ?_))), ⟨hs'', by simp only []; omega, by simp only [List.length_append, List.length_singleton]; omega, by simp only []; omega, fun x hx => by
                        rcases List.mem_append.1 hx with hx | hx
                        · exact j3 x hx
                        · rw [List.mem_singleton.1 hx]; exact j4, by simp only []; rw [dOf_snoc, j2]; exact j5, by simp, by simp⟩, by simp only []; omega⟩
                    · have he0 : e = 0 := by omega
                      rw [he0, Nat.mul_zero, Nat.add_zero] at j5
                      simp (maxSteps := 1000000) only [go_sem, hj, hc, size_bl, hl', hnl]
                      exact ⟨⟨s'.extract i l'.length, k + i, some (false, false), j, dn⟩, Kept.of rfl (by repeat (first | exact KT.nil | refine KT.upd rfl (by first | rfl | exact hr | exact hr2 | (simp only [go_sem]; done)) ?_)) (KM.p (by repeat (first | exact KMp.nil | refine KMp.upd rfl (by first | rfl | (simp only [go_sem]; done)) ?_))), ⟨hs'', by simp only []; omega, j2, by simp only []; omega, j3, j5, by simp, by simp⟩, by simp only []; omega⟩
              ·
                simp only [oV, oM, oNum]
                simp (maxSteps := 1000000) only [go_sem, size_bl, hl', hl0, w1, w2, w3]
                refine ⟨by decide, ?_⟩
                refine trX_loop HE hP.mix [120, 0] (fun y : Nat × Nat × Nat => ⟨upd (upd (upd (upd (upd (upd (upd (upd (upd (fun _ => .junk) 0 (.str s')) 2 (.ref 0 0)) 3 (.int .i64 0)) 5 (oV (some (false, true)) nd)) 6 (.int .i64 (n : Int))) 7 (.int .u64 (y.2.1 : Int))) 8 (.int .u64 (y.2.2 : Int))) 56 (.int .i64 (n : Int))) 57 (.int .i64 (y.1 : Int)), oM .u64 (upd (fun _ => .unused) 0 (.live [.int .u64 0, .nils])) (some (false, true)) d, 109⟩)
                  (fun y => y.1 ≤ n ∧ y.2.1 = valL (l'.take y.1) ∧ y.2.1 < 10 ^ y.1 ∧ y.2.2 = 10 ^ y.1) (fun y => n - y.1) (0, 0, 1) 20 (by repeat (first | exact Has.nil | refine Has.upd rfl ?_)) (Kept.of rfl (by repeat (first | exact KT.nil | refine KT.upd rfl (by first | rfl | exact hr | exact hr2 | (simp only [go_sem]; done)) ?_)) (KM.p (by repeat (first | exact KMp.nil | refine KMp.upd rfl (by first | rfl | (simp only [go_sem]; done)) ?_)))) ⟨Nat.zero_le _, rfl, by decide, rfl⟩ 109 (by kernel_rfl) ?_
                rintro ⟨i, c, p⟩ ⟨q1, q2, q3, q4⟩
                simp only [] at q1 q2 q3 q4
                by_cases hin : i < n
                · have hil : i < l'.length := by omega
                  obtain ⟨g1, g2⟩ := hdig i hil
                  have g3 : 10 ^ i ≤ 10 ^ 18 := Nat.pow_le_pow_right (by decide) (by omega)
                  have f1 : IntKind.u64.wrap (10 * (c : Int)) = ((10 * c : Nat) : Int) := by rw [IntKind.wrap_u64]; omega
                  have f2 : IntKind.u8.wrap (((l'.getD i 0 : Nat) : Int) - 48) = ((l'.getD i 0 - 48 : Nat) : Int) := by rw [IntKind.wrap_u8]; omega
                  have f3 := u_nat (l'.getD i 0 - 48) (by omega)
                  have f4 := wu_add' (10 * c) (l'.getD i 0 - 48) (by omega)
                  have f5 : IntKind.u64.wrap (10 * (p : Int)) = ((10 * p : Nat) : Int) := by rw [IntKind.wrap_u64]; omega
                  have f6 := wi_add1 i (by omega)
                  simp only [oV, oM, oNum]
                  simp (maxSteps := 1000000) only [go_sem, size_bl, get_bl, hl', hin, hil, f1, f2, f3, f4, f5, f6]
                  exact ⟨(i + 1, 10 * c + (l'.getD i 0 - 48), 10 * p), Kept.of rfl (by repeat (first | exact KT.nil | refine KT.upd rfl (by first | rfl | exact hr | exact hr2 | (simp only [go_sem]; done)) ?_)) (KM.p (by repeat (first | exact KMp.nil | refine KMp.upd rfl (by first | rfl | (simp only [go_sem]; done)) ?_))), ⟨by simp only []; omega, by simp only []; rw [valL_take_succ hil, q2], by simp only []; rw [Nat.pow_succ]; omega, by simp only []; rw [q4, Nat.pow_succ, Nat.mul_comm]⟩, by simp only []; omega⟩
                · have hie : i = n := by omega
                  subst hie
                  have hpb := hp10 i hn19
                  rw [← q4] at hpb
                  have hcb : c < 18446744073709551616 := by omega
                  have hs'' : bl (s'.extract i l'.length) = l.drop (k + i) := by
                    rw [bl_extract, hl', p1, List.drop_drop, List.take_of_length_le (by rw [List.length_drop, List.length_drop]; omega)]
                  have hval : valL (l.take (k + i)) = dOf 18446744073709551616 d * p + c := by
                    have e : l.take (k + i) = l.take k ++ l'.take i := by rw [p1, List.take_add]
                    rw [e, valL_app, List.length_take, Nat.min_eq_left hnl, p6, q4, q2]
                  simp only [oV, oM, oNum]
                  simp (maxSteps := 1000000) only [go_sem, hin]
                  refine trX_loop HE hP.mix [120, 0] (fun y : Nat × List Nat × Nat => ⟨upd (upd (upd (upd (upd (upd (upd (upd (upd (fun _ => .junk) 0 (.str s')) 2 (.ref 0 0)) 3 (.int .i64 0)) 5 (.sl 120 0 nd 1)) 6 (.int .i64 (i : Int))) 7 (.int .u64 (y.2.2 : Int))) 8 (.int .u64 (p : Int))) 72 (.int .i64 (nd : Int))) 73 (.int .i64 (y.1 : Int)), upd (upd (fun _ => .unused) 0 (.live [.int .u64 0, .nils])) 120 (.live (List.map (fun d : Nat => AV.int .u64 (d : Int)) (y.2.1 ++ d.drop y.1))), 109⟩)
                    (fun y => y.1 ≤ nd ∧ y.2.1.length = y.1 ∧ (∀ x ∈ y.2.1, x < 18446744073709551616) ∧ y.2.2 < 18446744073709551616 ∧ dOf 18446744073709551616 y.2.1 + 18446744073709551616 ^ y.1 * y.2.2 = dOf 18446744073709551616 (d.take y.1) * p + c) (fun y => nd - y.1) (0, [], c) 104 (by repeat (first | exact Has.nil | refine Has.upd rfl ?_)) (Kept.of rfl (by repeat (first | exact KT.nil | refine KT.upd rfl (by first | rfl | exact hr | exact hr2 | (simp only [go_sem]; done)) ?_)) (KM.p (by repeat (first | exact KMp.nil | refine KMp.upd rfl (by first | rfl | (simp only [go_sem]; done)) ?_)))) ⟨Nat.zero_le _, rfl, by simp, hcb, by simp [dOf]⟩ 109 (by kernel_rfl) ?_
                  rintro ⟨j, dn, e⟩ ⟨j1, j2, j3, j4, j5⟩
                  simp only [] at j1 j2 j3 j4 j5
                  by_cases hj : j < nd
                  · have hjd : j < d.length := by omega
                    have hxd := p5 _ (getD_mem hjd)
                    have hlen : j < (dn ++ d.drop j).length := by rw [List.length_append, List.length_drop]; omega
                    have hlen' : j < dn.length + (d.length - j) := by omega
                    have hget : (dn ++ d.drop j).getD j 0 = d.getD j 0 := by rw [drop_cons hjd]; exact get_app (R := d.drop (j + 1)) j2
                    have hset : ∀ z, (dn ++ d.drop j).set j z = (dn ++ [z]) ++ d.drop (j + 1) := fun z => by rw [drop_cons hjd, List.append_assoc]; exact set_app (R := d.drop (j + 1)) j2
                    have hcar := away_carry hxd hpb j4
                    have hw2 := wu_add' _ _ hcar
                    have hml := mull_lt (d.getD j 0) p
                    have hwj := wi_add1 j (by omega)
                    simp (maxSteps := 1000000) only [go_sem, hj, hlen, hlen', gU hlen, hget, hset, hxd, hpb, hml, hw2, hwj, upd_upd]
                    refine ⟨(j + 1, dn ++ [addl (mull (d.getD j 0) p) e 0], mulh (d.getD j 0) p + addh (mull (d.getD j 0) p) e 0), Kept.of rfl (by repeat (first | exact KT.nil | refine KT.upd rfl (by first | rfl | exact hr | exact hr2 | (simp only [go_sem]; done)) ?_)) (KM.p (by repeat (first | exact KMp.nil | refine KMp.upd rfl (by first | rfl | (simp only [go_sem]; done)) ?_))), ⟨by simp only []; omega, by simp only [List.length_append, List.length_singleton]; omega, ?_, hcar, ?_⟩, by simp only []; omega⟩
                    · intro x hx
                      rcases List.mem_append.1 hx with hx | hx
                      · exact j3 x hx
                      · rw [List.mem_singleton.1 hx]; exact addl_lt _ _ _
                    · simp only []
                      rw [dOf_snoc, j2, dOf_take_succ 18446744073709551616 d j hjd, Nat.pow_succ]
                      exact mul_acc j5 (away_digit (d.getD j 0) p e)
                  · have hje : j = nd := by omega
                    subst hje
                    have ht : d.take j = d := List.take_of_length_le (by omega)
                    have hdr : d.drop j = [] := List.drop_of_length_le (by omega)
                    rw [ht, ← hval] at j5
                    rw [hdr, List.append_nil]
                    by_cases hc : 0 < e
                    · have hjb : (j + 1) * 8 ≤ 1099511627776 := by omega
                      simp (maxSteps := 1000000) only [go_sem, hj, hc, size_bl, hl', hnl, map_snoc]
                      exact ⟨⟨j2, by simp, fun _ => trivial, hjb⟩, ⟨s'.extract i l'.length, k + i, some (false, false), j + 1, dn ++ [e]⟩, Kept.of rfl (by repeat (first | exact KT.nil | refine KT.upd rfl (by first | rfl | exact hr | exact hr2 | (simp only [go_sem]; done)) ?_)) (KM.p (by repeat (first | exact KMp.nil | refine KMp.upd rfl (by first | rfl | (simp only [go_sem]; done)) ?_))), ⟨hs'', by simp only []; omega, by simp only [List.length_append, List.length_singleton]; omega, by simp only []; omega, fun x hx => by
                        rcases List.mem_append.1 hx with hx | hx
                        · exact j3 x hx
                        · rw [List.mem_singleton.1 hx]; exact j4, by simp only []; rw [dOf_snoc, j2]; exact j5, by simp, by simp⟩, by simp only []; omega⟩
                    · have he0 : e = 0 := by omega
                      rw [he0, Nat.mul_zero, Nat.add_zero] at j5
                      simp (maxSteps := 1000000) only [go_sem, hj, hc, size_bl, hl', hnl]
                      exact ⟨⟨s'.extract i l'.length, k + i, some (false, true), j, dn⟩, Kept.of rfl (by repeat (first | exact KT.nil | refine KT.upd rfl (by first | rfl | exact hr | exact hr2 | (simp only [go_sem]; done)) ?_)) (KM.p (by repeat (first | exact KMp.nil | refine KMp.upd rfl (by first | rfl | (simp only [go_sem]; done)) ?_))), ⟨hs'', by simp only []; omega, j2, by simp only []; omega, j3, j5, by simp, by simp⟩, by simp only []; omega⟩
              · exact absurd rfl (p8 false)
              · exact absurd rfl (p8 true)
            · have hl0 : ¬ 0 < l'.length := by omega
              rcases D with _ | ⟨_ | _, _ | _⟩
              · have hd := (p7 rfl).1
                simp only [oV, oM, oNum]
                have htk : d.take nd = d := List.take_of_length_le (by omega)
                have hz3 : (∀ x ∈ d, x < 18446744073709551616) = True := eq_true p5
                have hsl : nd < 4611686018427387904 := by omega
                have hkk : l.take k = l := List.take_of_length_le (by omega)
                rw [hkk] at p6
                simp (maxSteps := 1000000) only [go_sem, size_bl, hl', hl0, htk, hz3, p3, hsl]
                first
                  | (rw [← p6]; exact .refl _)
                  | (rw [← p6, hd]; exact .refl _)
              ·
                simp only [oV, oM, oNum]
                have htk : d.take nd = d := List.take_of_length_le (by omega)
                have hz3 : (∀ x ∈ d, x < 18446744073709551616) = True := eq_true p5
                have hsl : nd < 4611686018427387904 := by omega
                have hkk : l.take k = l := List.take_of_length_le (by omega)
                rw [hkk] at p6
                simp (maxSteps := 1000000) only [go_sem, size_bl, hl', hl0, htk, hz3, p3, hsl]
                first
                  | (rw [← p6]; exact .refl _)
                  | (rw [← p6, hd]; exact .refl _)
              ·
                simp only [oV, oM, oNum]
                have htk : d.take nd = d := List.take_of_length_le (by omega)
                have hz3 : (∀ x ∈ d, x < 18446744073709551616) = True := eq_true p5
                have hsl : nd < 4611686018427387904 := by omega
                have hkk : l.take k = l := List.take_of_length_le (by omega)
                rw [hkk] at p6
                simp (maxSteps := 1000000) only [go_sem, size_bl, hl', hl0, htk, hz3, p3, hsl]
                first
                  | (rw [← p6]; exact .refl _)
                  | (rw [← p6, hd]; exact .refl _)
              · exact absurd rfl (p8 false)
              · exact absurd rfl (p8 true)
    · have h0 : ¬ (1 < l.length ∧ l.getD 0 0 = 48) := fun h => h2 h.1
      simp (maxSteps := 1000000) only [go_sem, toList_nil, size_bl, get_bl, hl, h1', h2]
      refine trX_loop HE hP.mix [0] (fun i : Nat => ⟨upd (upd (upd (upd (upd (fun _ => .junk) 0 (.str s)) 2 (.ref 0 0)) 3 (.int .i64 0)) 28 (.int .i64 (l.length : Int))) 29 (.int .i64 (i : Int)), upd (fun _ => .unused) 0 (.live [.int .u64 0, .nils]), 109⟩)
        (fun i => i ≤ l.length ∧ ∀ j, j < i → 48 ≤ l.getD j 0 ∧ l.getD j 0 ≤ 57) (fun i => l.length - i) 0 20
        (by repeat (first | exact Has.nil | refine Has.upd rfl ?_)) (Kept.of rfl (by repeat (first | exact KT.nil | refine KT.upd rfl (by first | rfl | exact hr | exact hr2 | (simp only [go_sem]; done)) ?_)) (KM.p (by repeat (first | exact KMp.nil | refine KMp.upd rfl (by first | rfl | (simp only [go_sem]; done)) ?_)))) ⟨Nat.zero_le _, fun j hj => absurd hj (Nat.not_lt_zero _)⟩ 109 (by kernel_rfl) ?_
      rintro i ⟨q1, q2⟩
      by_cases hi : i < l.length
      · have hwi := wi_add1 i (by omega)
        have hmem := getD_mem hi
        by_cases c1 : l.getD i 0 < 48
        · have hno : ¬ okD l := fun h => by have := h.2.2 _ hmem; omega
          simp (maxSteps := 1000000) only [go_sem, size_bl, get_bl, hl, hi, c1]
          rw [parse_bad hno]; exact conv12 12
        · by_cases c2 : 57 < l.getD i 0
          · have hno : ¬ okD l := fun h => by have := h.2.2 _ hmem; omega
            simp (maxSteps := 1000000) only [go_sem, size_bl, get_bl, hl, hi, c1, c2]
            rw [parse_bad hno]; exact conv12 12
          · simp (maxSteps := 1000000) only [go_sem, size_bl, get_bl, hl, hi, c1, c2, hwi]
            exact ⟨i + 1, Kept.of rfl (by repeat (first | exact KT.nil | refine KT.upd rfl (by first | rfl | exact hr | exact hr2 | (simp only [go_sem]; done)) ?_)) (KM.p (by repeat (first | exact KMp.nil | refine KMp.upd rfl (by first | rfl | (simp only [go_sem]; done)) ?_))), ⟨by omega, fun j hj => by
              rcases Nat.lt_or_ge j i with h | h
              · exact q2 j h
              · rw [show j = i by omega]; omega⟩, by omega⟩
      · have hok : okD l := ⟨h1, h0, fun c hc => by
          obtain ⟨j, hj, rfl⟩ := List.getElem_of_mem hc
          rw [← getD_get hj]; exact q2 j (by omega)⟩
        clear q1 q2
        by_cases hlg : 256 < l.length
        · simp (maxSteps := 1000000) only [go_sem, size_bl, hl, hi, hlg]
          rw [parse_long hok hlg]; exact conv12 3
        · rw [parse_ok hok (by omega)]
          simp (maxSteps := 1000000) only [go_sem, size_bl, hl, hi, hlg]
          refine trX_loopV HE hP.mix (fun y : PS => oL [0] y.D) (fun y => ⟨upd (upd (upd (upd (fun _ => .junk) 0 (.str y.s)) 2 (.ref 0 0)) 3 (.int .i64 0)) 5 (oV y.D y.n), oM .u64 (upd (fun _ => .unused) 0 (.live [.int .u64 0, .nils])) y.D y.d, 109⟩)
            (fun y => bl y.s = l.drop y.k ∧ y.k ≤ l.length ∧ y.d.length = y.n ∧ y.n ≤ y.k ∧ (∀ x ∈ y.d, x < 18446744073709551616) ∧ dOf 18446744073709551616 y.d = valL (l.take y.k) ∧ (y.D = none → y.d = [] ∧ y.n = 0) ∧ (∀ b, y.D ≠ some (true, b))) (fun y => l.length - y.k) ⟨s, 0, none, 0, []⟩ (fun _ => 20)
            (fun x r hr => oL_has (by repeat (first | exact Has.nil | refine Has.upd rfl ?_)) x.D r hr) (Kept.of rfl (by repeat (first | exact KT.nil | refine KT.upd rfl (by first | rfl | exact hr | exact hr2 | (simp only [go_sem]; done)) ?_)) (KM.p (by repeat (first | exact KMp.nil | refine KMp.upd rfl (by first | rfl | (simp only [go_sem]; done)) ?_)))) ⟨hl, Nat.zero_le _, rfl, Nat.le_refl _, by simp, rfl, fun _ => ⟨rfl, rfl⟩, by simp⟩ 109 (by kernel_rfl) ?_
          rintro ⟨s', k, D, nd, d⟩ ⟨p1, p2, p3, p4, p5, p6, p7, p8⟩
          simp only [] at p1 p2 p3 p4 p5 p6 p7 p8
          obtain ⟨l', hl'⟩ : ∃ l', bl s' = l' := ⟨_, rfl⟩
          rw [hl'] at p1
          have hll : l'.length = l.length - k := by rw [p1, List.length_drop]
          by_cases hk : k < l.length
          · have hl0 : 0 < l'.length := by omega
            obtain ⟨n, hn⟩ : ∃ n, (l'.length - 1) % 19 + 1 = n := ⟨_, rfl⟩
            have hnl : n ≤ l'.length := by have := Nat.mod_le (l'.length - 1) 19; omega
            have hn19 : n ≤ 19 := by have := Nat.mod_lt (l'.length - 1) (show 0 < 19 by decide); omega
            have hn0 : 0 < n := by omega
            have w1 : IntKind.i64.wrap ((l'.length : Int) - 1) = ((l'.length - 1 : Nat) : Int) := by rw [IntKind.wrap_i64]; omega
            have w2 : ((l'.length - 1 : Nat) : Int).tmod 19 = (((l'.length - 1) % 19 : Nat) : Int) := rfl
            have w3 : IntKind.i64.wrap ((((l'.length - 1) % 19 : Nat) : Int) + 1) = (n : Int) := by rw [IntKind.wrap_i64]; omega
            have hdig : ∀ i, i < l'.length → 48 ≤ l'.getD i 0 ∧ l'.getD i 0 ≤ 57 := fun i hi => hok.2.2 _ (by rw [p1] at hi ⊢; exact List.mem_of_mem_drop (getD_mem hi))
            have hp10 : ∀ i, i ≤ 19 → 10 ^ i < 18446744073709551616 := fun i hi => Nat.lt_of_le_of_lt (Nat.pow_le_pow_right (by decide) hi) (by decide)
            rcases D with _ | ⟨_ | _, _ | _⟩
            ·
              simp only [oV, oM, oNum]
              simp (maxSteps := 1000000) only [go_sem, size_bl, hl', hl0, w1, w2, w3]
              refine ⟨by decide, ?_⟩
              refine trX_loop HE hP.mix [0] (fun y : Nat × Nat × Nat => ⟨upd (upd (upd (upd (upd (upd (upd (upd (upd (fun _ => .junk) 0 (.str s')) 2 (.ref 0 0)) 3 (.int .i64 0)) 5 (oV none nd)) 6 (.int .i64 (n : Int))) 7 (.int .u64 (y.2.1 : Int))) 8 (.int .u64 (y.2.2 : Int))) 56 (.int .i64 (n : Int))) 57 (.int .i64 (y.1 : Int)), oM .u64 (upd (fun _ => .unused) 0 (.live [.int .u64 0, .nils])) none d, 109⟩)
                (fun y => y.1 ≤ n ∧ y.2.1 = valL (l'.take y.1) ∧ y.2.1 < 10 ^ y.1 ∧ y.2.2 = 10 ^ y.1) (fun y => n - y.1) (0, 0, 1) 20 (by repeat (first | exact Has.nil | refine Has.upd rfl ?_)) (Kept.of rfl (by repeat (first | exact KT.nil | refine KT.upd rfl (by first | rfl | exact hr | exact hr2 | (simp only [go_sem]; done)) ?_)) (KM.p (by repeat (first | exact KMp.nil | refine KMp.upd rfl (by first | rfl | (simp only [go_sem]; done)) ?_)))) ⟨Nat.zero_le _, rfl, by decide, rfl⟩ 109 (by kernel_rfl) ?_
              rintro ⟨i, c, p⟩ ⟨q1, q2, q3, q4⟩
              simp only [] at q1 q2 q3 q4
              by_cases hin : i < n
              · have hil : i < l'.length := by omega
                obtain ⟨g1, g2⟩ := hdig i hil
                have g3 : 10 ^ i ≤ 10 ^ 18 := Nat.pow_le_pow_right (by decide) (by omega)
                have f1 : IntKind.u64.wrap (10 * (c : Int)) = ((10 * c : Nat) : Int) := by rw [IntKind.wrap_u64]; omega
                have f2 : IntKind.u8.wrap (((l'.getD i 0 : Nat) : Int) - 48) = ((l'.getD i 0 - 48 : Nat) : Int) := by rw [IntKind.wrap_u8]; omega
                have f3 := u_nat (l'.getD i 0 - 48) (by omega)
                have f4 := wu_add' (10 * c) (l'.getD i 0 - 48) (by omega)
                have f5 : IntKind.u64.wrap (10 * (p : Int)) = ((10 * p : Nat) : Int) := by rw [IntKind.wrap_u64]; omega
                have f6 := wi_add1 i (by omega)
                simp only [oV, oM, oNum]
                simp (maxSteps := 1000000) only [go_sem, size_bl, get_bl, hl', hin, hil, f1, f2, f3, f4, f5, f6]
                exact ⟨(i + 1, 10 * c + (l'.getD i 0 - 48), 10 * p), Kept.of rfl (by repeat (first | exact KT.nil | refine KT.upd rfl (by first | rfl | exact hr | exact hr2 | (simp only [go_sem]; done)) ?_)) (KM.p (by repeat (first | exact KMp.nil | refine KMp.upd rfl (by first | rfl | (simp only [go_sem]; done)) ?_))), ⟨by simp only []; omega, by simp only []; rw [valL_take_succ hil, q2], by simp only []; rw [Nat.pow_succ]; omega, by simp only []; rw [q4, Nat.pow_succ, Nat.mul_comm]⟩, by simp only []; omega⟩
              · have hie : i = n := by omega
                subst hie
                have hpb := hp10 i hn19
                rw [← q4] at hpb
                have hcb : c < 18446744073709551616 := by omega
                have hs'' : bl (s'.extract i l'.length) = l.drop (k + i) := by
                  rw [bl_extract, hl', p1, List.drop_drop, List.take_of_length_le (by rw [List.length_drop, List.length_drop]; omega)]
                have hval : valL (l.take (k + i)) = dOf 18446744073709551616 d * p + c := by
                  have e : l.take (k + i) = l.take k ++ l'.take i := by rw [p1, List.take_add]
                  rw [e, valL_app, List.length_take, Nat.min_eq_left hnl, p6, q4, q2]
                simp only [oV, oM, oNum]
                simp (maxSteps := 1000000) only [go_sem, hin]
                obtain ⟨hd0, hn0'⟩ := p7 rfl
                refine trX_loop HE hP.mix [0] (fun _ : Unit => ⟨upd (upd (upd (upd (upd (upd (upd (upd (upd (fun _ => .junk) 0 (.str s')) 2 (.ref 0 0)) 3 (.int .i64 0)) 5 .nils) 6 (.int .i64 (i : Int))) 7 (.int .u64 (c : Int))) 8 (.int .u64 (p : Int))) 72 (.int .i64 0)) 73 (.int .i64 0), upd (fun _ => .unused) 0 (.live [.int .u64 0, .nils]), 109⟩)
                  (fun _ => True) (fun _ => 0) () 104 (by repeat (first | exact Has.nil | refine Has.upd rfl ?_)) (Kept.of rfl (by repeat (first | exact KT.nil | refine KT.upd rfl (by first | rfl | exact hr | exact hr2 | (simp only [go_sem]; done)) ?_)) (KM.p (by repeat (first | exact KMp.nil | refine KMp.upd rfl (by first | rfl | (simp only [go_sem]; done)) ?_)))) trivial 109 (by kernel_rfl) ?_
                intro _ _
                rw [hd0] at hval
                have hval : valL (l.take (k + i)) = c := by rw [hval]; simp [dOf]
                by_cases hc : 0 < c
                · simp (maxSteps := 1000000) only [go_sem, Int.lt_irrefl, hc, size_bl, hl', hnl]
                  exact ⟨⟨by simp, fun _ => trivial⟩, ⟨s'.extract i l'.length, k + i, some (false, false), 1, [c]⟩, Kept.of rfl (by repeat (first | exact KT.nil | refine KT.upd rfl (by first | rfl | exact hr | exact hr2 | (simp only [go_sem]; done)) ?_)) (KM.p (by repeat (first | exact KMp.nil | refine KMp.upd rfl (by first | rfl | (simp only [go_sem]; done)) ?_))), ⟨hs'', by simp only []; omega, rfl, by simp only []; omega, fun x hx => by rw [List.mem_singleton.1 hx]; exact hcb, by simp only []; rw [hval]; simp [dOf], by simp, by simp⟩, by simp only []; omega⟩
                · simp (maxSteps := 1000000) only [go_sem, Int.lt_irrefl, hc, size_bl, hl', hnl]
                  exact ⟨⟨s'.extract i l'.length, k + i, none, 0, []⟩, Kept.of rfl (by repeat (first | exact KT.nil | refine KT.upd rfl (by first | rfl | exact hr | exact hr2 | (simp only [go_sem]; done)) ?_)) (KM.p (by repeat (first | exact KMp.nil | refine KMp.upd rfl (by first | rfl | (simp only [go_sem]; done)) ?_))), ⟨hs'', by simp only []; omega, rfl, Nat.zero_le _, by simp, by simp only []; rw [hval]; simp [dOf]; omega, fun _ => ⟨rfl, rfl⟩, by simp⟩, by simp only []; omega⟩
            ·
              simp only [oV, oM, oNum]
              simp (maxSteps := 1000000) only [go_sem, size_bl, hl', hl0, w1, w2, w3]
              refine ⟨by decide, ?_⟩
              refine trX_loop HE hP.mix [110, 0] (fun y : Nat × Nat × Nat => ⟨upd (upd (upd (upd (upd (upd (upd (upd (upd (fun _ => .junk) 0 (.str s')) 2 (.ref 0 0)) 3 (.int .i64 0)) 5 (oV (some (false, false)) nd)) 6 (.int .i64 (n : Int))) 7 (.int .u64 (y.2.1 : Int))) 8 (.int .u64 (y.2.2 : Int))) 56 (.int .i64 (n : Int))) 57 (.int .i64 (y.1 : Int)), oM .u64 (upd (fun _ => .unused) 0 (.live [.int .u64 0, .nils])) (some (false, false)) d, 109⟩)
                (fun y => y.1 ≤ n ∧ y.2.1 = valL (l'.take y.1) ∧ y.2.1 < 10 ^ y.1 ∧ y.2.2 = 10 ^ y.1) (fun y => n - y.1) (0, 0, 1) 20 (by repeat (first | exact Has.nil | refine Has.upd rfl ?_)) (Kept.of rfl (by repeat (first | exact KT.nil | refine KT.upd rfl (by first | rfl | exact hr | exact hr2 | (simp only [go_sem]; done)) ?_)) (KM.p (by repeat (first | exact KMp.nil | refine KMp.upd rfl (by first | rfl | (simp only [go_sem]; done)) ?_)))) ⟨Nat.zero_le _, rfl, by decide, rfl⟩ 109 (by kernel_rfl) ?_
              rintro ⟨i, c, p⟩ ⟨q1, q2, q3, q4⟩
              simp only [] at q1 q2 q3 q4
              by_cases hin : i < n
              · have hil : i < l'.length := by omega
                obtain ⟨g1, g2⟩ := hdig i hil
                have g3 : 10 ^ i ≤ 10 ^ 18 := Nat.pow_le_pow_right (by decide) (by omega)
                have f1 : IntKind.u64.wrap (10 * (c : Int)) = ((10 * c : Nat) : Int) := by rw [IntKind.wrap_u64]; omega
                have f2 : IntKind.u8.wrap (((l'.getD i 0 : Nat) : Int) - 48) = ((l'.getD i 0 - 48 : Nat) : Int) := by rw [IntKind.wrap_u8]; omega
                have f3 := u_nat (l'.getD i 0 - 48) (by omega)
                have f4 := wu_add' (10 * c) (l'.getD i 0 - 48) (by omega)
                have f5 : IntKind.u64.wrap (10 * (p : Int)) = ((10 * p : Nat) : Int) := by rw [IntKind.wrap_u64]; omega
                have f6 := wi_add1 i (by omega)
                simp only [oV, oM, oNum]
                simp (maxSteps := 1000000) only [go_sem, size_bl, get_bl, hl', hin, hil, f1, f2, f3, f4, f5, f6]
                exact ⟨(i + 1, 10 * c + (l'.getD i 0 - 48), 10 * p), Kept.of rfl (by repeat (first | exact KT.nil | refine KT.upd rfl (by first | rfl | exact hr | exact hr2 | (simp only [go_sem]; done)) ?_)) (KM.p (by repeat (first | exact KMp.nil | refine KMp.upd rfl (by first | rfl | (simp only [go_sem]; done)) ?_))), ⟨by simp only []; omega, by simp only []; rw [valL_take_succ hil, q2], by simp only []; rw [Nat.pow_succ]; omega, by simp only []; rw [q4, Nat.pow_succ, Nat.mul_comm]⟩, by simp only []; omega⟩
              · have hie : i = n := by omega
                subst hie
                have hpb := hp10 i hn19
                rw [← q4] at hpb
                have hcb : c < 18446744073709551616 := by omega
                have hs'' : bl (s'.extract i l'.length) = l.drop (k + i) := by
                  rw [bl_extract, hl', p1, List.drop_drop, List.take_of_length_le (by rw [List.length_drop, List.length_drop]; omega)]
                have hval : valL (l.take (k + i)) = dOf 18446744073709551616 d * p + c := by
                  have e : l.take (k + i) = l.take k ++ l'.take i := by rw [p1, List.take_add]
                  rw [e, valL_app, List.length_take, Nat.min_eq_left hnl, p6, q4, q2]
                simp only [oV, oM, oNum]
                simp (maxSteps := 1000000) only [go_sem, hin]
                refine trX_loop HE hP.mix [110, 0] (fun y : Nat × List Nat × Nat => ⟨upd (upd (upd (upd (upd (upd (upd (upd (upd (fun _ => .junk) 0 (.str s')) 2 (.ref 0 0)) 3 (.int .i64 0)) 5 (.sl 110 0 nd 1)) 6 (.int .i64 (i : Int))) 7 (.int .u64 (y.2.2 : Int))) 8 (.int .u64 (p : Int))) 72 (.int .i64 (nd : Int))) 73 (.int .i64 (y.1 : Int)), upd (upd (fun _ => .unused) 0 (.live [.int .u64 0, .nils])) 110 (.live (List.map (fun d : Nat => AV.int .u64 (d : Int)) (y.2.1 ++ d.drop y.1))), 109⟩)
                  (fun y => y.1 ≤ nd ∧ y.2.1.length = y.1 ∧ (∀ x ∈ y.2.1, x < 18446744073709551616) ∧ y.2.2 < 18446744073709551616 ∧ dOf 18446744073709551616 y.2.1 + 18446744073709551616 ^ y.1 * y.2.2 = dOf 18446744073709551616 (d.take y.1) * p + c) (fun y => nd - y.1) (0, [], c) 114 (by repeat (first | exact Has.nil | refine Has.upd rfl ?_)) (Kept.of rfl (by repeat (first | exact KT.nil | refine KT.upd rfl (by first | rfl | exact hr | exact hr2 | (simp only [go_sem]; done)) ?_)) (KM.p (by repeat (first | exact KMp.nil | refine KMp.upd rfl (by first | rfl | (simp only [go_sem]; done)) ?_)))) ⟨Nat.zero_le _, rfl, by simp, hcb, by simp [dOf]⟩ 109 (by kernel_rfl) ?_
                rintro ⟨j, dn, e⟩ ⟨j1, j2, j3, j4, j5⟩
                simp only [] at j1 j2 j3 j4 j5
                by_cases hj : j < nd
                · have hjd : j < d.length := by omega
                  have hxd := p5 _ (getD_mem hjd)
                  have hlen : j < (dn ++ d.drop j).length := by rw [List.length_append, List.length_drop]; omega
                  have hlen' : j < dn.length + (d.length - j) := by omega
                  have hget : (dn ++ d.drop j).getD j 0 = d.getD j 0 := by rw [drop_cons hjd]; exact get_app (R := d.drop (j + 1)) j2
                  have hset : ∀ z, (dn ++ d.drop j).set j z = (dn ++ [z]) ++ d.drop (j + 1) := fun z => by rw [drop_cons hjd, List.append_assoc]; exact set_app (R := d.drop (j + 1)) j2
                  have hcar := away_carry hxd hpb j4
                  have hw2 := wu_add' _ _ hcar
                  have hml := mull_lt (d.getD j 0) p
                  have hwj := wi_add1 j (by omega)
                  simp (maxSteps := 1000000) only [go_sem, hj, hlen, hlen', gU hlen, hget, hset, hxd, hpb, hml, hw2, hwj, upd_upd]
                  refine ⟨(j + 1, dn ++ [addl (mull (d.getD j 0) p) e 0], mulh (d.getD j 0) p + addh (mull (d.getD j 0) p) e 0), Kept.of rfl (by repeat (first | exact KT.nil | refine KT.upd rfl (by first | rfl | exact hr | exact hr2 | (simp only [go_sem]; done)) ?_)) (KM.p (by repeat (first | exact KMp.nil | refine KMp.upd rfl (by first | rfl | (simp only [go_sem]; done)) ?_))), ⟨by simp only []; omega, by simp only [List.length_append, List.length_singleton]; omega, ?_, hcar, ?_⟩, by simp only []; omega⟩
                  · intro x hx
                    rcases List.mem_append.1 hx with hx | hx
                    · exact j3 x hx
                    · rw [List.mem_singleton.1 hx]; exact addl_lt _ _ _
                  · simp only []
                    rw [dOf_snoc, j2, dOf_take_succ 18446744073709551616 d j hjd, Nat.pow_succ]
                    exact mul_acc j5 (away_digit (d.getD j 0) p e)
                · have hje : j = nd := by omega
                  subst hje
                  have ht : d.take j = d := List.take_of_length_le (by omega)
                  have hdr : d.drop j = [] := List.drop_of_length_le (by omega)
                  rw [ht, ← hval] at j5
                  rw [hdr, List.append_nil]
                  by_cases hc : 0 < e
                  · have hjb : (j + 1) * 8 ≤ 1099511627776 := by omega
                    simp (maxSteps := 1000000) only [go_sem, hj, hc, size_bl, hl', hnl, map_snoc]
                    exact ⟨⟨j2, by simp, fun _ => trivial, hjb⟩, ⟨s'.extract i l'.length, k + i, some (false, true), j + 1, dn ++ [e]⟩, Kept.of rfl (by repeat (first | exact KT.nil | refine KT.upd rfl (by first | rfl | exact hr | exact hr2 | (simp only [go_sem]; done)) ?_)) (KM.p (by repeat (first | exact KMp.nil | refine KMp.upd rfl (by first | rfl | (simp only [go_sem]; done)) ?_))), ⟨hs'', by simp only []; omega, by simp only [List.length_append, List.length_singleton]; omega, by simp only []; omega, fun x hx => by
                      rcases List.mem_append.1 hx with hx | hx
                      · exact j3 x hx
                      · rw [List.mem_singleton.1 hx]; exact j4, by simp only []; rw [dOf_snoc, j2]; exact j5, by simp, by simp⟩, by simp only []; omega⟩
                  · have he0 : e = 0 := by omega
                    rw [he0, Nat.mul_zero, Nat.add_zero] at j5
                    simp (maxSteps := 1000000) only [go_sem, hj, hc, size_bl, hl', hnl]
                    exact ⟨⟨s'.extract i l'.length, k + i, some (false, false), j, dn⟩, Kept.of rfl (by repeat (first | exact KT.nil | refine KT.upd rfl (by first | rfl | exact hr | exact hr2 | (simp only [go_sem]; done)) ?_)) (KM.p (by repeat (first | exact KMp.nil | refine KMp.upd rfl (by first | rfl | (simp only [go_sem]; done)) ?_))), ⟨hs'', by simp only []; omega, j2, by simp only []; omega, j3, j5, by simp, by simp⟩, by simp only []; omega⟩
            ·
              simp only [oV, oM, oNum]
              simp (maxSteps := 1000000) only [go_sem, size_bl, hl', hl0, w1, w2, w3]
              refine ⟨by decide, ?_⟩
              refine trX_loop HE hP.mix [120, 0] (fun y : Nat × Nat × Nat => ⟨upd (upd (upd (upd (upd (upd (upd (upd (upd (fun _ => .junk) 0 (.str s')) 2 (.ref 0 0)) 3 (.int .i64 0)) 5 (oV (some (false, true)) nd)) 6 (.int .i64 (n : Int))) 7 (.int .u64 (y.2.1 : Int))) 8 (.int .u64 (y.2.2 : Int))) 56 (.int .i64 (n : Int))) 57 (.int .i64 (y.1 : Int)), oM .u64 (upd (fun _ => .unused) 0 (.live [.int .u64 0, .nils])) (some (false, true)) d, 109⟩)
                (fun y => y.1 ≤ n ∧ y.2.1 = valL (l'.take y.1) ∧ y.2.1 < 10 ^ y.1 ∧ y.2.2 = 10 ^ y.1) (fun y => n - y.1) (0, 0, 1) 20 (by repeat (first | exact Has.nil | refine Has.upd rfl ?_)) (Kept.of rfl (by repeat (first | exact KT.nil | refine KT.upd rfl (by first | rfl | exact hr | exact hr2 | (simp only [go_sem]; done)) ?_)) (KM.p (by repeat (first | exact KMp.nil | refine KMp.upd rfl (by first | rfl | (simp only [go_sem]; done)) ?_)))) ⟨Nat.zero_le _, rfl, by decide, rfl⟩ 109 (by kernel_rfl) ?_
              rintro ⟨i, c, p⟩ ⟨q1, q2, q3, q4⟩
              simp only [] at q1 q2 q3 q4
              by_cases hin : i < n
              · have hil : i < l'.length := by omega
                obtain ⟨g1, g2⟩ := hdig i hil
                have g3 : 10 ^ i ≤ 10 ^ 18 := Nat.pow_le_pow_right (by decide) (by omega)
                have f1 : IntKind.u64.wrap (10 * (c : Int)) = ((10 * c : Nat) : Int) := by rw [IntKind.wrap_u64]; omega
                have f2 : IntKind.u8.wrap (((l'.getD i 0 : Nat) : Int) - 48) = ((l'.getD i 0 - 48 : Nat) : Int) := by rw [IntKind.wrap_u8]; omega
                have f3 := u_nat (l'.getD i 0 - 48) (by omega)
                have f4 := wu_add' (10 * c) (l'.getD i 0 - 48) (by omega)
                have f5 : IntKind.u64.wrap (10 * (p : Int)) = ((10 * p : Nat) : Int) := by rw [IntKind.wrap_u64]; omega
                have f6 := wi_add1 i (by omega)
                simp only [oV, oM, oNum]
                simp (maxSteps := 1000000) only [go_sem, size_bl, get_bl, hl', hin, hil, f1, f2, f3, f4, f5, f6]
                exact ⟨(i + 1, 10 * c + (l'.getD i 0 - 48), 10 * p), Kept.of rfl (by repeat (first | exact KT.nil | refine KT.upd rfl (by first | rfl | exact hr | exact hr2 | (simp only [go_sem]; done)) ?_)) (KM.p (by repeat (first | exact KMp.nil | refine KMp.upd rfl (by first | rfl | (simp only [go_sem]; done)) ?_))), ⟨by simp only []; omega, by simp only []; rw [valL_take_succ hil, q2], by simp only []; rw [Nat.pow_succ]; omega, by simp only []; rw [q4, Nat.pow_succ, Nat.mul_comm]⟩, by simp only []; omega⟩
              · have hie : i = n := by omega
                subst hie
                have hpb := hp10 i hn19
                rw [← q4] at hpb
                have hcb : c < 18446744073709551616 := by omega
                have hs'' : bl (s'.extract i l'.length) = l.drop (k + i) := by
                  rw [bl_extract, hl', p1, List.drop_drop, List.take_of_length_le (by rw [List.length_drop, List.length_drop]; omega)]
                have hval : valL (l.take (k + i)) = dOf 18446744073709551616 d * p + c := by
                  have e : l.take (k + i) = l.take k ++ l'.take i := by rw [p1, List.take_add]
                  rw [e, valL_app, List.length_take, Nat.min_eq_left hnl, p6, q4, q2]
                simp only [oV, oM, oNum]
                simp (maxSteps := 1000000) only [go_sem, hin]
                refine trX_loop HE hP.mix [120, 0] (fun y : Nat × List Nat × Nat => ⟨upd (upd (upd (upd (upd (upd (upd (upd (upd (fun _ => .junk) 0 (.str s')) 2 (.ref 0 0)) 3 (.int .i64 0)) 5 (.sl 120 0 nd 1)) 6 (.int .i64 (i : Int))) 7 (.int .u64 (y.2.2 : Int))) 8 (.int .u64 (p : Int))) 72 (.int .i64 (nd : Int))) 73 (.int .i64 (y.1 : Int)), upd (upd (fun _ => .unused) 0 (.live [.int .u64 0, .nils])) 120 (.live (List.map (fun d : Nat => AV.int .u64 (d : Int)) (y.2.1 ++ d.drop y.1))), 109⟩)
                  (fun y => y.1 ≤ nd ∧ y.2.1.length = y.1 ∧ (∀ x ∈ y.2.1, x < 18446744073709551616) ∧ y.2.2 < 18446744073709551616 ∧ dOf 18446744073709551616 y.2.1 + 18446744073709551616 ^ y.1 * y.2.2 = dOf 18446744073709551616 (d.take y.1) * p + c) (fun y => nd - y.1) (0, [], c) 104 (by repeat (first | exact Has.nil | refine Has.upd rfl ?_)) (Kept.of rfl (by repeat (first | exact KT.nil | refine KT.upd rfl (by first | rfl | exact hr | exact hr2 | (simp only [go_sem]; done)) ?_)) (KM.p (by repeat (first | exact KMp.nil | refine KMp.upd rfl (by first | rfl | (simp only [go_sem]; done)) ?_)))) ⟨Nat.zero_le _, rfl, by simp, hcb, by simp [dOf]⟩ 109 (by kernel_rfl) ?_
                rintro ⟨j, dn, e⟩ ⟨j1, j2, j3, j4, j5⟩
                simp only [] at j1 j2 j3 j4 j5
                by_cases hj : j < nd
                · have hjd : j < d.length := by omega
                  have hxd := p5 _ (getD_mem hjd)
                  have hlen : j < (dn ++ d.drop j).length := by rw [List.length_append, List.length_drop]; omega
                  have hlen' : j < dn.length + (d.length - j) := by omega
                  have hget : (dn ++ d.drop j).getD j 0 = d.getD j 0 := by rw [drop_cons hjd]; exact get_app (R := d.drop (j + 1)) j2
                  have hset : ∀ z, (dn ++ d.drop j).set j z = (dn ++ [z]) ++ d.drop (j + 1) := fun z => by rw [drop_cons hjd, List.append_assoc]; exact set_app (R := d.drop (j + 1)) j2
                  have hcar := away_carry hxd hpb j4
                  have hw2 := wu_add' _ _ hcar
                  have hml := mull_lt (d.getD j 0) p
                  have hwj := wi_add1 j (by omega)
                  simp (maxSteps := 1000000) only [go_sem, hj, hlen, hlen', gU hlen, hget, hset, hxd, hpb, hml, hw2, hwj, upd_upd]
                  refine ⟨(j + 1, dn ++ [addl (mull (d.getD j 0) p) e 0], mulh (d.getD j 0) p + addh (mull (d.getD j 0) p) e 0), Kept.of rfl (by repeat (first | exact KT.nil | refine KT.upd rfl (by first | rfl | exact hr | exact hr2 | (simp only [go_sem]; done)) ?_)) (KM.p (by repeat (first | exact KMp.nil | refine KMp.upd rfl (by first | rfl | (simp only [go_sem]; done)) ?_))), ⟨by simp only []; omega, by simp only [List.length_append, List.length_singleton]; omega, ?_, hcar, ?_⟩, by simp only []; omega⟩
                  · intro x hx
                    rcases List.mem_append.1 hx with hx | hx
                    · exact j3 x hx
                    · rw [List.mem_singleton.1 hx]; exact addl_lt _ _ _
                  · simp only []
                    rw [dOf_snoc, j2, dOf_take_succ 18446744073709551616 d j hjd, Nat.pow_succ]
                    exact mul_acc j5 (away_digit (d.getD j 0) p e)
                · have hje : j = nd := by omega
                  subst hje
                  have ht : d.take j = d := List.take_of_length_le (by omega)
                  have hdr : d.drop j = [] := List.drop_of_length_le (by omega)
                  rw [ht, ← hval] at j5
                  rw [hdr, List.append_nil]
                  by_cases hc : 0 < e
                  · have hjb : (j + 1) * 8 ≤ 1099511627776 := by omega
                    simp (maxSteps := 1000000) only [go_sem, hj, hc, size_bl, hl', hnl, map_snoc]
                    exact ⟨⟨j2, by simp, fun _ => trivial, hjb⟩, ⟨s'.extract i l'.length, k + i, some (false, false), j + 1, dn ++ [e]⟩, Kept.of rfl (by repeat (first | exact KT.nil | refine KT.upd rfl (by first | rfl | exact hr | exact hr2 | (simp only [go_sem]; done)) ?_)) (KM.p (by repeat (first | exact KMp.nil | refine KMp.upd rfl (by first | rfl | (simp only [go_sem]; done)) ?_))), ⟨hs'', by simp only []; omega, by simp only [List.length_append, List.length_singleton]; omega, by simp only []; omega, fun x hx => by
                      rcases List.mem_append.1 hx with hx | hx
                      · exact j3 x hx
                      · rw [List.mem_singleton.1 hx]; exact j4, by simp only []; rw [dOf_snoc, j2]; exact j5, by simp, by simp⟩, by simp only []; omega⟩
                  · have he0 : e = 0 := by omega
                    rw [he0, Nat.mul_zero, Nat.add_zero] at j5
                    simp (maxSteps := 1000000) only [go_sem, hj, hc, size_bl, hl', hnl]
                    exact ⟨⟨s'.extract i l'.length, k + i, some (false, true), j, dn⟩, Kept.of rfl (by repeat (first | exact KT.nil | refine KT.upd rfl (by first | rfl | exact hr | exact hr2 | (simp only [go_sem]; done)) ?_)) (KM.p (by repeat (first | exact KMp.nil | refine KMp.upd rfl (by first | rfl | (simp only [go_sem]; done)) ?_))), ⟨hs'', by simp only []; omega, j2, by simp only []; omega, j3, j5, by simp, by simp⟩, by simp only []; omega⟩
            · exact absurd rfl (p8 false)
            · exact absurd rfl (p8 true)
          · have hl0 : ¬ 0 < l'.length := by omega
            rcases D with _ | ⟨_ | _, _ | _⟩
            · have hd := (p7 rfl).1
              simp only [oV, oM, oNum]
              have htk : d.take nd = d := List.take_of_length_le (by omega)
              have hz3 : (∀ x ∈ d, x < 18446744073709551616) = True := eq_true p5
              have hsl : nd < 4611686018427387904 := by omega
              have hkk : l.take k = l := List.take_of_length_le (by omega)
              rw [hkk] at p6
              simp (maxSteps := 1000000) only [go_sem, size_bl, hl', hl0, htk, hz3, p3, hsl]
              first
                | (rw [← p6]; exact .refl _)
                | (rw [← p6, hd]; exact .refl _)
            ·
              simp only [oV, oM, oNum]
              have htk : d.take nd = d := List.take_of_length_le (by omega)
              have hz3 : (∀ x ∈ d, x < 18446744073709551616) = True := eq_true p5
              have hsl : nd < 4611686018427387904 := by omega
              have hkk : l.take k = l := List.take_of_length_le (by omega)
              rw [hkk] at p6
              simp (maxSteps := 1000000) only [go_sem, size_bl, hl', hl0, htk, hz3, p3, hsl]
              first
                | (rw [← p6]; exact .refl _)
                | (rw [← p6, hd]; exact .refl _)
            ·
              simp only [oV, oM, oNum]
              have htk : d.take nd = d := List.take_of_length_le (by omega)
              have hz3 : (∀ x ∈ d, x < 18446744073709551616) = True := eq_true p5
              have hsl : nd < 4611686018427387904 := by omega
              have hkk : l.take k = l := List.take_of_length_le (by omega)
              rw [hkk] at p6
              simp (maxSteps := 1000000) only [go_sem, size_bl, hl', hl0, htk, hz3, p3, hsl]
              first
                | (rw [← p6]; exact .refl _)
                | (rw [← p6, hd]; exact .refl _)
            · exact absurd rfl (p8 false)
            · exact absurd rfl (p8 true)
theorem valL_blen {l : List Nat} (h : okD l) (h2 : l.length ≤ 256) : blen (valL l) ≤ 1024 := by
  have h1 := valL_lt (l := l) (fun c hc => (h.2.2 c hc).2)
  have h4 : 10 ^ l.length ≤ 16 ^ l.length := Nat.pow_le_pow_left (by decide) _
  have h5 : (16 : Nat) ^ l.length = 2 ^ (4 * l.length) := by rw [show (16 : Nat) = 2 ^ 4 from rfl, ← Nat.pow_mul]
  have h6 : blen (valL l) ≤ 4 * l.length := by
    rw [blen_le_iff, ← h5]; exact Nat.lt_of_lt_of_le h1 h4
  omega
noncomputable def ParseS : List AV → Option (Prop × AV)
  | [.str s] => some ((bl s).length ≤ 1099511627776, parseR (bl s))
  | _ => none
theorem ParseS_ok (hP : PrgOk P) (args p r) (h : ParseS args = some (p, r)) (hp : p) : CSpec P 37 args r := by
  unfold ParseS at h
  split at h
  · simp only [Option.some.injEq, Prod.mk.injEq] at h
    obtain ⟨rfl, rfl⟩ := h
    exact Parse_spec hP _ hp
  · simp at h
attribute [go_sem] ParseS
end Go.Proofs.YtjnhekedclcbfaaDoor.AM
/- Texts az numbers; package nat whole. -/
namespace Go.Proofs.YtjnhekedclcbfaaDoor.AM
set_option linter.all false
set_option autoImplicit true
set_option relaxedAutoImplicit true
open Go Go.Proofs
set_option maxRecDepth 100000
set_option maxHeartbeats 8000000
set_option linter.unusedSimpArgs false
variable {P : Program}

theorem valL_dv {l : List Nat} (h : ∀ c ∈ l, 48 ≤ c) : valL l = dv l.reverse := by
  induction l with
  | nil => rfl
  | cons c t ih =>
    have e := valL_app [c] t
    simp only [List.singleton_append] at e
    have hc := h c (by simp)
    have e2 : valL [c] = c - 48 := by simp [valL]
    rw [e, e2, ih (fun d hd => h d (by simp [hd])), List.reverse_cons, show c = 48 + (c - 48) by omega, dv_snoc, List.length_reverse, Nat.mul_comm, Nat.add_comm]
    congr 2; omega
theorem decL_val {l : List Nat} (h : okD l) : decL (valL l) = l := by
  obtain ⟨h1, h2, h3⟩ := h
  have hb : byt l.reverse := fun c hc => by have := h3 c (by simpa using hc); omega
  have hv := valL_dv (l := l) (fun c hc => (h3 c hc).1)
  obtain ⟨c, t, rfl⟩ : ∃ c t, l = c :: t := by cases l with | nil => exact absurd rfl h1 | cons c t => exact ⟨c, t, rfl⟩
  have hc := h3 c (by simp)
  have e := valL_app [c] t
  simp only [List.singleton_append] at e
  have e2 : valL [c] = c - 48 := by simp [valL]
  rcases Nat.eq_zero_or_pos (c - 48) with h0 | h0
  · have ht : t = [] := by
      cases t with
      | nil => rfl
      | cons d t => exact absurd ⟨by simp, by simp; omega⟩ h2
    subst ht
    have hc48 : c = 48 := by omega
    subst hc48; rfl
  · have hp : 0 < valL (c :: t) := by
      rw [e, e2]; have : 0 < (c - 48) * 10 ^ t.length := Nat.mul_pos h0 (Nat.pow_pos (by decide))
      omega
    have := text_end hb hv (fun hne => by simp; omega) hp
    rw [this, List.reverse_reverse]
theorem bytesS_bl (s : ByteArray) : bytesS ((bl s).map fun d : Nat => AV.int .u8 (d : Int)) = s := by
  obtain ⟨a⟩ := s
  unfold bytesS bl
  congr 1
  rw [List.map_map, List.map_map]
  have : ((toB ∘ fun d : Nat => AV.int .u8 (d : Int)) ∘ UInt8.toNat) = id := by funext b; simp [toB]
  rw [this, List.map_id]
theorem decS_val {s : ByteArray} (h : okD (bl s)) : decS (valL (bl s)) = s := by
  unfold decS; rw [decL_val h, bytesS_bl]
theorem bl_bytesS {m : List Nat} (h : ∀ c ∈ m, c < 256) : bl (bytesS (m.map fun d : Nat => AV.int .u8 (d : Int))) = m := by
  unfold bytesS bl
  simp only [List.map_map]
  conv => rhs; rw [← List.map_id m]
  refine List.map_congr_left fun c hc => ?_
  have := h c hc
  simp [toB]; omega
theorem dig10 (a : Nat) : ∀ d ∈ digs 10 a, d < 10 := digs_lt 10 a (by decide)
theorem okD_decL (a : Nat) : okD (decL a) := by
  unfold decL
  split
  · exact ⟨by simp, by simp, by simp⟩
  · rename_i ha
    have hne : digs 10 a ≠ [] := by intro e; have := dOf_digs 10 a (by decide); rw [e] at this; simp [dOf] at this; omega
    have hc := digs_canon 10 a (by decide) hne
    have hall : ∀ c ∈ dec10 a, 48 ≤ c ∧ c ≤ 57 := fun c hc => by
      obtain ⟨d, hd, rfl⟩ := List.mem_map.1 hc
      have := dig10 a d hd; omega
    refine ⟨by simp [dec10, hne], ?_, fun c hc => hall c (by simpa using hc)⟩
    rintro ⟨_, h2⟩
    have hne2 : dec10 a ≠ [] := by simp [dec10, hne]
    have e : (dec10 a).reverse.getD 0 0 = (dec10 a).getLast hne2 := by
      rw [List.getD_eq_getElem?_getD, List.getElem?_reverse (List.length_pos_iff.2 hne2), Nat.sub_zero, List.getLast_eq_getElem, List.getElem?_eq_getElem]; rfl
    rw [e] at h2
    have h3 : (dec10 a).getLast hne2 = 48 + (digs 10 a).getLast hne := by
      have : dec10 a = (digs 10 a).map (48 + ·) := rfl
      simp only [this]; exact List.getLast_map ..
    omega
theorem valL_decL (a : Nat) : valL (decL a) = a := by
  have h := okD_decL a
  rw [valL_dv (fun c hc => (h.2.2 c hc).1)]
  unfold decL
  split
  · rename_i ha; subst ha; rfl
  · rw [List.reverse_reverse]
    unfold dv dec10
    rw [List.map_map]
    have : ((fun x => x - 48) ∘ fun x => 48 + x) = (id : Nat → Nat) := by funext d; simp
    rw [this, List.map_id, dOf_digs 10 a (by decide)]
theorem bl_decS (a : Nat) : bl (decS a) = decL a := bl_bytesS fun c hc => by have := (okD_decL a).2.2 c hc; omega
theorem decL_len (a : Nat) : (decL a).length ≤ blen a + 1 := by
  unfold decL; split
  · simp
  · rw [List.length_reverse]; unfold dec10; rw [List.length_map]
    have := digs_length_le 10 a (blen a) (by decide) (Nat.lt_of_lt_of_le (blen_lt a) (Nat.pow_le_pow_left (by decide) _))
    omega
theorem str_same (x y : ByteArray) : (x.toList == y.toList) = decide (x = y) := by
  rw [ByteArray.toList_eq, ByteArray.toList_eq, Bool.eq_iff_iff, beq_iff_eq, decide_eq_true_eq]
  constructor
  · intro h; cases x; cases y; congr 1; exact Array.ext' h
  · intro h; rw [h]

theorem strs_only (f) : ∀ l : List ByteArray, onlyL f (l.map AV.str) = true
  | [] => rfl
  | s :: l => by simp only [List.map_cons, onlyL, AV.only, Bool.true_and]; exact strs_only f l
theorem strs_plain (l : List ByteArray) : (l.map AV.str).all AV.plain = true := by rw [List.all_map]; simp [AV.plain]
theorem strs_get {l : List ByteArray} {i : Nat} (h : i < l.length) : ((l.drop i).map AV.str).getD 0 .junk = .str (l.getD i ⟨#[]⟩) := by simp [h]
theorem strs_drop (l : List ByteArray) (i : Nat) : (l.map AV.str).drop i = (l.drop i).map AV.str := List.map_drop.symm
theorem strs_head (l : List ByteArray) : AV.head (l.map AV.str) = true := by cases l <;> rfl
attribute [go_sem] strs_only strs_drop strs_head
theorem lap_cons {α : Type} (a : α) (l r : List α) : List.append (a :: l) r = a :: List.append l r := rfl
theorem lap_nil {α : Type} (r : List α) : List.append [] r = r := rfl
attribute [go_sem] lap_cons lap_nil
def okP (s : ByteArray) : Prop := okD (bl s) ∧ (bl s).length ≤ 256
def val (s : ByteArray) : Nat := valL (bl s)
theorem val_blen {s : ByteArray} (h : okP s) : blen (val s) ≤ 1024 := valL_blen h.1 h.2
theorem parse_yes {s : ByteArray} (h : okP s) : parseR (bl s) = .tup [(.agg [.opq (.nat (val s)), .pad]), .int .i64 0] := parse_ok h.1 h.2
theorem parse_no {s : ByteArray} (h : ¬ okP s) : ∃ e : Int, (e == 0) = false ∧ (e == 12 || e == 3) = true ∧ parseR (bl s) = .tup [(.agg [.opq (.nat (0)), .pad]), .int .i64 e] := by
  by_cases h1 : okD (bl s)
  · by_cases h2 : (bl s).length ≤ 256
    · exact absurd ⟨h1, h2⟩ h
    · exact ⟨3, by decide, by decide, parse_long h1 (by omega)⟩
  · exact ⟨12, by decide, by decide, parse_bad h1⟩

theorem cmpI_zero {a b : Nat} : (cmpI a b == 0) = decide (a = b) := by
  rcases Nat.lt_trichotomy a b with h | h | h
  · rw [cmpI_lt h, decide_eq_false (by omega)]; rfl
  · rw [h, cmpI_eq, decide_eq_true rfl]; rfl
  · rw [cmpI_gt h, decide_eq_false (by omega)]; rfl
theorem le_big {a n : Nat} (h : blen a ≤ n) (hn : n ≤ 68719476736) : blen a ≤ 68719476736 := Nat.le_trans h hn
theorem gcd_blen {a b n : Nat} (ha : blen a ≤ n) (hb : blen b ≤ n) : blen (Nat.gcd a b) ≤ n := by
  rcases Nat.eq_zero_or_pos a with h | h
  · subst h; rw [Nat.gcd_zero_left]; exact hb
  · exact blen_le_of (Nat.le_of_dvd h (Nat.gcd_dvd_left a b)) ha
noncomputable def Sh : Nat → List AV → Option (Prop × AV) := addS (addS (addS (addS Sg 37 ParseS) 17 TextS) 14 GcdS) 42 AddS
theorem Sh_ok (hP : PrgOk P) : EnvOk P ⟨T0, Sh⟩ := (((((Sg_ok hP).add (ParseS_ok hP)).add (TextS_ok hP)).add (GcdS_ok hP)).add (AddS_ok hP))
theorem Sh_at (f a) : Sh f a = (addS (addS (addS (addS Sg 37 ParseS) 17 TextS) 14 GcdS) 42 AddS) f a := rfl
attribute [go_sem] Sh_at
end Go.Proofs.YtjnhekedclcbfaaDoor.AM
/- The document's numbers: their digits. -/
namespace Go.Proofs.YtjnhekedclcbfaaDoor.AM
set_option linter.all false
set_option autoImplicit true
set_option relaxedAutoImplicit true
open Go Go.Proofs
set_option maxRecDepth 100000
set_option maxHeartbeats 8000000
set_option linter.unusedSimpArgs false
variable {P : Program}

def isR (n : Nat) (cs : List AV) : Prop := cs = (List.map (fun d : Nat => AV.int .u32 (d : Int)) (cs.map ud)) ∧ n = cs.length ∧ (∀ d ∈ cs.map ud, d < 65536) ∧ Canon (cs.map ud)
def rawR : AV → Option (Prop × Nat)
  | .nils => some (True, 0)
  | .imm n cs => some (isR n cs, dOf 65536 (cs.map ud))
  | .opq (.rnat n) => some (True, n)
  | _ => none
theorem rawR_opq (n : Nat) : rawR (.opq (.rnat (n))) = some (True, n) := rfl
theorem CvL.rnatIn (n : Nat) {xs bs} (k : CvL xs bs) : CvL ((.opq (.rnat (n))) :: xs) ((.imm (digs 65536 (n)).length (List.map (fun d : Nat => AV.int .u32 (d : Int)) (digs 65536 (n)))) :: bs) := fun W φ w l hl => by
  have h := RL.unfold (x := .rnat n) (rest := xs) (by simpa [Pay.width] using hl)
  exact (CvL.cons (a := (.imm (digs 65536 (n)).length (List.map (fun d : Nat => AV.int .u32 (d : Int)) (digs 65536 (n))))) rfl k) W φ w l (by simpa [Pay.open] using h)
theorem Conv.rnat (n : Nat) : Conv (.imm (digs 65536 (n)).length (List.map (fun d : Nat => AV.int .u32 (d : Int)) (digs 65536 (n)))) (.opq (.rnat (n))) := CvL.conv (by simpa [Pay.open, Pay.width] using CvL.fold (.rnat n) [] rfl)
theorem rawR_nils : rawR .nils = some (True, 0) := rfl
theorem rawR_imm (n cs) : rawR (.imm n cs) = some (isR n cs, dOf 65536 (cs.map ud)) := rfl
theorem isR_digs (a : Nat) : isR (digs 65536 a).length (List.map (fun d : Nat => AV.int .u32 (d : Int)) (digs 65536 a)) = True := by
  unfold isR
  rw [map_ud32]
  exact eq_true ⟨rfl, by rw [List.length_map], digs_lt 65536 a (by decide), digs_canon 65536 a (by decide)⟩
theorem isR_nil : isR 0 [] = True := eq_true ⟨rfl, rfl, by simp, by intro h; exact absurd rfl h⟩
theorem dOf_digs16 (a : Nat) : dOf 65536 (digs 65536 a) = a := dOf_digs _ _ (by decide)
theorem CvL.nilR {xs bs} (k : CvL xs bs) : CvL (.nils :: xs) (.imm 0 [] :: bs) := fun _ _ _ _ hl => by
  obtain ⟨v, vs, rfl, h1, h2⟩ := hl.uncons rfl
  rw [h1.nils_inv]
  exact .imm0 _ _ (k _ _ _ _ h2)
theorem rawR_cv {v : AV} {p a} (h : rawR v = some (p, a)) (hp : p) {xs bs} (k : CvL xs bs) : CvL (v :: xs) ((.imm (digs 65536 (a)).length (List.map (fun d : Nat => AV.int .u32 (d : Int)) (digs 65536 (a)))) :: bs) := by
  unfold rawR at h
  split at h
  · simp only [Option.some.injEq, Prod.mk.injEq] at h
    obtain ⟨rfl, rfl⟩ := h
    have e : digs 65536 0 = [] := digs_zero _
    rw [e]; exact .nilR k
  · simp only [Option.some.injEq, Prod.mk.injEq] at h
    obtain ⟨rfl, rfl⟩ := h
    rename_i n cs
    obtain ⟨h1, h2, h3, h4⟩ := hp
    have e := digs_dOf 65536 (by decide) (cs.map ud) h3 h4
    rw [e, List.length_map, ← h2, ← h1]
    exact .cons rfl k
  · simp only [Option.some.injEq, Prod.mk.injEq] at h
    obtain ⟨rfl, rfl⟩ := h
    exact .rnatIn _ k
  · simp at h
def onR1 (f : Nat → Prop × AV) : List AV → Option (Prop × AV)
  | [x] => (rawR x).map fun a => (a.1 ∧ (f a.2).1, (f a.2).2)
  | _ => none
def onR2 (f : Nat → Nat → Prop × AV) : List AV → Option (Prop × AV)
  | [x, y] => (rawR x).bind fun a => (rawR y).map fun b => (a.1 ∧ b.1 ∧ (f a.2 b.2).1, (f a.2 b.2).2)
  | _ => none
theorem onR1_ok {P : Program} {fi : Nat} {f : Nat → Prop × AV} (h : ∀ a, (f a).1 → CSpec P fi [(.imm (digs 65536 (a)).length (List.map (fun d : Nat => AV.int .u32 (d : Int)) (digs 65536 (a))))] (f a).2) (args p r) (he : onR1 f args = some (p, r)) (hp : p) : CSpec P fi args r := by
  unfold onR1 at he
  split at he
  · simp only [Option.map_eq_some_iff, Prod.exists, Prod.mk.injEq] at he
    obtain ⟨q, a, h1, rfl, rfl⟩ := he
    exact (h a hp.2).cv (rawR_cv h1 hp.1 .nil)
  · simp at he
theorem onR2_ok {P : Program} {fi : Nat} {f : Nat → Nat → Prop × AV} (h : ∀ a b, (f a b).1 → CSpec P fi [(.imm (digs 65536 (a)).length (List.map (fun d : Nat => AV.int .u32 (d : Int)) (digs 65536 (a)))), (.imm (digs 65536 (b)).length (List.map (fun d : Nat => AV.int .u32 (d : Int)) (digs 65536 (b))))] (f a b).2) (args p r) (he : onR2 f args = some (p, r)) (hp : p) : CSpec P fi args r := by
  unfold onR2 at he
  split at he
  · simp only [Option.bind_eq_some_iff, Option.map_eq_some_iff, Prod.exists, Prod.mk.injEq] at he
    obtain ⟨q, a, h1, q', b, h2, rfl, rfl⟩ := he
    exact (h a b hp.2.2).cv (rawR_cv h1 hp.1 (rawR_cv h2 hp.2.1 .nil))
  · simp at he
theorem onR1_eq (f x) : onR1 f [x] = (rawR x).map fun a => (a.1 ∧ (f a.2).1, (f a.2).2) := rfl
theorem onR2_eq (f x y) : onR2 f [x, y] = (rawR x).bind fun a => (rawR y).map fun b => (a.1 ∧ b.1 ∧ (f a.2 b.2).1, (f a.2 b.2).2) := rfl
attribute [go_sem] rawR_opq rawR_nils rawR_imm isR_digs isR_nil dOf_digs16 onR1_eq onR2_eq
def rcutS : List AV → Option (Prop × AV)
  | [.nils] => some (True, (.imm (digs 65536 (0)).length (List.map (fun d : Nat => AV.int .u32 (d : Int)) (digs 65536 (0)))))
  | [.imm n cs] => some (cs = (List.map (fun d : Nat => AV.int .u32 (d : Int)) (cs.map ud)) ∧ n = cs.length ∧ (∀ d ∈ cs.map ud, d < 65536) ∧ n < 4611686018427387904, (.imm (digs 65536 (dOf 65536 (cs.map ud))).length (List.map (fun d : Nat => AV.int .u32 (d : Int)) (digs 65536 (dOf 65536 (cs.map ud))))))
  | _ => none
attribute [go_sem] rcutS
end Go.Proofs.YtjnhekedclcbfaaDoor.AM
/- The document's numbers: made, told, measured, compared. -/
namespace Go.Proofs.YtjnhekedclcbfaaDoor.AM
set_option linter.all false
set_option autoImplicit true
set_option relaxedAutoImplicit true
open Go Go.Proofs
set_option maxRecDepth 100000
set_option maxHeartbeats 8000000
set_option linter.unusedSimpArgs false
variable {P : Program}

structure RS where
  m : Nat
  D : OD
  k : Nat
  o : List Nat
theorem conv_nilR : Conv .nils (.imm (digs 65536 (0)).length (List.map (fun d : Nat => AV.int .u32 (d : Int)) (digs 65536 (0)))) := by
  have e : digs 65536 0 = [] := digs_zero _
  rw [e]; exact CvL.conv (.nilR .nil)
theorem rof_step {n D p m : Nat} (h : n = D + p * m) : n = D + p * (m % 65536) + p * 65536 * (m / 65536) := by
  rw [h, Nat.mul_assoc, Nat.add_assoc, ← Nat.mul_add, Nat.mod_add_div]
theorem dOf_snocR (l : List Nat) (s : Nat) : dOf 65536 (l ++ [s]) = dOf 65536 l + 65536 ^ l.length * s := by
  rw [dOf_append]; simp [dOf]
theorem canon_snoc (l : List Nat) (s : Nat) (h : s ≠ 0) : Canon (l ++ [s]) := fun _ => by simpa using h
def rOfS : List AV → Option (Prop × AV)
  | [.int .u64 n] => some (0 ≤ n ∧ n < 18446744073709551616, (.imm (digs 65536 (n.toNat)).length (List.map (fun d : Nat => AV.int .u32 (d : Int)) (digs 65536 (n.toNat)))))
  | _ => none
attribute [go_sem] rOfS
theorem len4 (a : Nat) : 4 < (digs 65536 a).length ↔ ¬ a < 18446744073709551616 := by
  constructor
  · intro h hlt
    have := digs_length_le 65536 a 4 (by decide) (by rw [show (65536 : Nat) ^ 4 = 18446744073709551616 by decide]; exact hlt)
    omega
  · intro h
    exact digs_length_gt 65536 a 4 (by decide) (by rw [show (65536 : Nat) ^ 4 = 18446744073709551616 by decide]; omega)
def SmallS : List AV → Option (Prop × AV) := onR1 fun a => ((digs 65536 a).length ≤ 1099511627776, .tup [.int .u64 ((if a < 18446744073709551616 then a else 0 : Nat) : Int), .bool (decide (a < 18446744073709551616))])
attribute [go_sem] SmallS
theorem two16 (k : Nat) : 65536 ^ k = 2 ^ (16 * k) := by rw [Nat.pow_mul]
theorem blen_digs16 (a : Nat) (h : a ≠ 0) : blen a = 16 * ((digs 65536 a).length - 1) + blen ((digs 65536 a).getD ((digs 65536 a).length - 1) 0) := by
  have hpos : 0 < (digs 65536 a).length := by rw [digs_eq _ _ (by decide) h]; simp
  have hc := canon_last (digs_canon 65536 a (by decide)) hpos
  have hlt := digs_lt 65536 a (by decide)
  have e := dOf_last 65536 _ hpos
  rw [dOf_digs _ _ (by decide), two16] at e
  have hr := dOf_lt 65536 ((digs 65536 a).take ((digs 65536 a).length - 1)) (fun d hd => hlt d (List.mem_of_mem_take hd))
  rw [List.length_take, Nat.min_eq_left (by omega), two16] at hr
  conv => lhs; rw [e]
  exact blen_top _ _ _ hc hr
theorem rlen_blen (a : Nat) : (digs 65536 a).length ≤ blen a := by
  refine digs_length_le 65536 a (blen a) (by decide) (Nat.lt_of_lt_of_le (blen_lt a) (Nat.pow_le_pow_left (by decide) _))
theorem blen_half {d : Nat} (h : 0 < d) : blen d = blen (d / 2) + 1 := by
  have e : d = d % 2 + 2 ^ 1 * (d / 2) := by omega
  by_cases h2 : d / 2 = 0
  · have : d = 1 := by omega
    subst this; decide
  · have := blen_top 1 (d / 2) (d % 2) h2 (by omega)
    rw [← e] at this; omega
def rBitsS : List AV → Option (Prop × AV) := onR1 fun a => (blen a ≤ 68719476736, .int .i64 (blen a : Nat))
attribute [go_sem] rBitsS
def rCmpS : List AV → Option (Prop × AV) := onR2 fun a b => (blen a ≤ 68719476736 ∧ blen b ≤ 68719476736, .int .i64 (cmpI a b))
attribute [go_sem] rCmpS
end Go.Proofs.YtjnhekedclcbfaaDoor.AM
/- The document's numbers: sums and differences. -/
namespace Go.Proofs.YtjnhekedclcbfaaDoor.AM
set_option linter.all false
set_option autoImplicit true
set_option relaxedAutoImplicit true
open Go Go.Proofs
set_option maxRecDepth 100000
set_option maxHeartbeats 8000000
set_option linter.unusedSimpArgs false
variable {P : Program}

noncomputable def Sk : Nat → List AV → Option (Prop × AV) := Sh
theorem Sk_ok (hP : PrgOk P) : EnvOk P ⟨T0, Sk⟩ := (Sh_ok hP)
attribute [go_sem] Sk
structure AS where
  i : Nat
  c : Nat
  D : OD
  o : List Nat
theorem take_any (x : List Nat) (i : Nat) : dOf 65536 (x.take (i + 1)) = dOf 65536 (x.take i) + 65536 ^ i * x.getD i 0 := by
  by_cases h : i < x.length
  · exact dOf_take_succ 65536 x i h
  · rw [List.take_of_length_le (show x.length ≤ i by omega), List.take_of_length_le (show x.length ≤ i + 1 by omega), getD_ge (by omega)]; simp
theorem radd_step {O p c X Y x y s : Nat} (h : O + p * c = X + Y) (hs : s = c + x + y) : O + p * (s % 65536) + p * 65536 * (s / 65536) = (X + p * x) + (Y + p * y) := by
  have e := Nat.mod_add_div s 65536
  have e2 := congrArg (p * ·) (e.trans hs)
  simp only [Nat.mul_add, ← Nat.mul_assoc] at e2
  omega
def rAddS : List AV → Option (Prop × AV) := onR2 fun a b => (blen a ≤ 68719476736 ∧ blen b ≤ 68719476736, (.imm (digs 65536 (a + b)).length (List.map (fun d : Nat => AV.int .u32 (d : Int)) (digs 65536 (a + b)))))
attribute [go_sem] rAddS
theorem rsub_step {O p c X Y x y s : Nat} (h : O + Y = X + p * c) (hs : s + c + y = x + 65536) (hs2 : s / 65536 ≤ 1) : O + p * (s % 65536) + (Y + p * y) = (X + p * x) + p * 65536 * (1 - s / 65536) := by
  have e := Nat.mod_add_div s 65536
  have e3 : s % 65536 + c + y = x + 65536 * (1 - s / 65536) := by omega
  have e2 := congrArg (p * ·) e3
  simp only [Nat.mul_add, ← Nat.mul_assoc] at e2
  omega
def rSubS : List AV → Option (Prop × AV) := onR2 fun a b => (blen a ≤ 68719476736 ∧ b ≤ a, (.imm (digs 65536 (a - b)).length (List.map (fun d : Nat => AV.int .u32 (d : Int)) (digs 65536 (a - b)))))
attribute [go_sem] rSubS
end Go.Proofs.YtjnhekedclcbfaaDoor.AM
/- The document's numbers: products. -/
namespace Go.Proofs.YtjnhekedclcbfaaDoor.AM
set_option linter.all false
set_option autoImplicit true
set_option relaxedAutoImplicit true
open Go Go.Proofs
set_option maxRecDepth 100000
set_option maxHeartbeats 8000000
set_option linter.unusedSimpArgs false
variable {P : Program}

noncomputable def Sl : Nat → List AV → Option (Prop × AV) := Sk
theorem Sl_ok (hP : PrgOk P) : EnvOk P ⟨T0, Sl⟩ := (Sk_ok hP)
attribute [go_sem] Sl
theorem rmul_bound {p c z X Y : Nat} (hp : 65536 ^ (X + Y) ≤ p) (h : z + p * c < 65536 ^ (X + Y)) : c = 0 := by
  rcases Nat.eq_zero_or_pos c with h0 | h0
  · exact h0
  · have := Nat.mul_le_mul hp h0
    omega
theorem rmul_step {p c z z0 d s A x y : Nat} (h : z + p * c = A) (hs : z0 + p * d = z + p * (s % 65536)) (hd : s = d + c + x * y) : z0 + p * 65536 * (s / 65536) = A + p * (x * y) := by
  have e := Nat.mod_add_div s 65536
  have e2 := congrArg (p * ·) (e.trans hd)
  simp only [Nat.mul_add, ← Nat.mul_assoc] at e2
  simp only [← Nat.mul_assoc]
  omega
def rMulS : List AV → Option (Prop × AV) := onR2 fun a b => (blen a ≤ 68719476736 ∧ blen b ≤ 68719476736, (.imm (digs 65536 (a * b)).length (List.map (fun d : Nat => AV.int .u32 (d : Int)) (digs 65536 (a * b)))))
attribute [go_sem] rMulS
end Go.Proofs.YtjnhekedclcbfaaDoor.AM
/- The document's numbers: quotients and rests. -/
namespace Go.Proofs.YtjnhekedclcbfaaDoor.AM
set_option linter.all false
set_option autoImplicit true
set_option relaxedAutoImplicit true
open Go Go.Proofs
set_option maxRecDepth 100000
set_option maxHeartbeats 8000000
set_option linter.unusedSimpArgs false
variable {P : Program}

noncomputable def Sm : Nat → List AV → Option (Prop × AV) := Sl
theorem Sm_ok (hP : PrgOk P) : EnvOk P ⟨T0, Sm⟩ := (Sl_ok hP)
attribute [go_sem] Sm
/-- A rest: none yet, or a number. -/
def rv : Option Nat → AV
  | none => .nils
  | some r => (.imm (digs 65536 (r)).length (List.map (fun d : Nat => AV.int .u32 (d : Int)) (digs 65536 (r))))
theorem rv_some (r : Nat) : rv (some r) = (.imm (digs 65536 (r)).length (List.map (fun d : Nat => AV.int .u32 (d : Int)) (digs 65536 (r)))) := rfl
attribute [go_sem] rv_some
def ru : Option Nat → Nat
  | none => 0
  | some r => r
theorem blen_17 {m : Nat} (h : m ≤ 65536) : blen m ≤ 17 := (blen_le_iff m 17).2 (by omega)
theorem objOnly_F {L : List Nat} {l : List Nat} : objOnly L (AObj.live (List.map (fun d : Nat => AV.int .u32 (d : Int)) (l))).freeze = true := objOnly_U (k := .u32) (l := l)
theorem dOf_split_at (b : Nat) (l : List Nat) (i : Nat) (h : i ≤ l.length) : dOf b l = dOf b (l.take i) + b ^ i * dOf b (l.drop i) := by
  conv => lhs; rw [← List.take_append_drop i l]
  rw [dOf_append, List.length_take, Nat.min_eq_left h]
def rDivS : List AV → Option (Prop × AV) := onR2 fun a b => (blen a ≤ 68719476736 ∧ blen b ≤ 34359738368 ∧ 0 < b, .tup [(.imm (digs 65536 (a / b)).length (List.map (fun d : Nat => AV.int .u32 (d : Int)) (digs 65536 (a / b)))), (.imm (digs 65536 (a % b)).length (List.map (fun d : Nat => AV.int .u32 (d : Int)) (digs 65536 (a % b))))])
attribute [go_sem] rDivS
end Go.Proofs.YtjnhekedclcbfaaDoor.AM
/- The document's numbers: the greatest divisor, the text. -/
namespace Go.Proofs.YtjnhekedclcbfaaDoor.AM
set_option linter.all false
set_option autoImplicit true
set_option relaxedAutoImplicit true
open Go Go.Proofs
set_option maxRecDepth 100000
set_option maxHeartbeats 8000000
set_option linter.unusedSimpArgs false
variable {P : Program}

noncomputable def Sn : Nat → List AV → Option (Prop × AV) := Sm
theorem Sn_ok (hP : PrgOk P) : EnvOk P ⟨T0, Sn⟩ := (Sm_ok hP)
attribute [go_sem] Sn
theorem rlen_pos {a : Nat} : 0 < (digs 65536 a).length ↔ 0 < a := by
  constructor
  · intro h
    rcases Nat.eq_zero_or_pos a with e | e
    · rw [e, digs_zero] at h; simp at h
    · exact e
  · intro h
    rcases Nat.eq_zero_or_pos (digs 65536 a).length with e | e
    · have := dOf_digs 65536 a (by decide)
      rw [List.length_eq_zero_iff.1 e] at this
      simp [dOf] at this; omega
    · exact e
theorem rlen_pos_eq {a : Nat} : decide (0 < (digs 65536 a).length) = decide (0 < a) := decide_eq_decide.2 rlen_pos
def rGcdS : List AV → Option (Prop × AV) := onR2 fun a b => (blen a ≤ 34359738368 ∧ blen b ≤ 34359738368, (.imm (digs 65536 (Nat.gcd a b)).length (List.map (fun d : Nat => AV.int .u32 (d : Int)) (digs 65536 (Nat.gcd a b)))))
attribute [go_sem] rGcdS
theorem bytesS_app (x y : List AV) : bytesS x ++ bytesS y = bytesS (x ++ y) := by
  unfold bytesS
  rw [List.map_append]
  apply ByteArray.ext
  simp
theorem bytesS_size (x : List AV) : (bytesS x).size = x.length := by
  unfold bytesS
  rw [← ByteArray.size_data]
  simp
theorem bytesS_nil : (⟨#[]⟩ : ByteArray) = bytesS [] := rfl
abbrev bS (l : List Nat) : ByteArray := bytesS (l.map fun d : Nat => AV.int .u8 (d : Int))
theorem bS_app (x y : List Nat) : bytesS (x.map fun d : Nat => AV.int .u8 (d : Int)) ++ bytesS (y.map fun d : Nat => AV.int .u8 (d : Int)) = bytesS ((x ++ y).map fun d : Nat => AV.int .u8 (d : Int)) := by rw [bytesS_app, List.map_append]
def rTextS : List AV → Option (Prop × AV) := onR1 fun a => (blen a ≤ 68719476736, .str (decS a))
attribute [go_sem] rTextS
end Go.Proofs.YtjnhekedclcbfaaDoor.AM
/- The document's numbers: texts that are numbers. -/
namespace Go.Proofs.YtjnhekedclcbfaaDoor.AM
set_option linter.all false
set_option autoImplicit true
set_option relaxedAutoImplicit true
open Go Go.Proofs
set_option maxRecDepth 100000
set_option maxHeartbeats 8000000
set_option linter.unusedSimpArgs false
variable {P : Program}

instance okD_dec (l : List Nat) : Decidable (okD l) := by unfold okD; infer_instance
def DigitsS : List AV → Option (Prop × AV)
  | [.str s] => some ((bl s).length ≤ 1099511627776, .bool (decide (okD (bl s))))
  | _ => none
attribute [go_sem] DigitsS
noncomputable def So : Nat → List AV → Option (Prop × AV) := Sn
theorem So_ok (hP : PrgOk P) : EnvOk P ⟨T0, So⟩ := (Sn_ok hP)
attribute [go_sem] So
theorem valL_blen4 {l : List Nat} (h : ∀ c ∈ l, c ≤ 57) : blen (valL l) ≤ 4 * l.length := by
  have h1 := valL_lt (l := l) h
  have h4 : 10 ^ l.length ≤ 16 ^ l.length := Nat.pow_le_pow_left (by decide) _
  have h5 : (16 : Nat) ^ l.length = 2 ^ (4 * l.length) := by rw [show (16 : Nat) = 2 ^ 4 from rfl, ← Nat.pow_mul]
  rw [blen_le_iff, ← h5]; exact Nat.lt_of_lt_of_le h1 h4
def rParseS : List AV → Option (Prop × AV)
  | [.str s] => some ((bl s).length ≤ 8589934592 ∧ ∀ c ∈ bl s, 48 ≤ c ∧ c ≤ 57, (.imm (digs 65536 (valL (bl s))).length (List.map (fun d : Nat => AV.int .u32 (d : Int)) (digs 65536 (valL (bl s))))))
  | _ => none
attribute [go_sem] rParseS
noncomputable def Sp : Nat → List AV → Option (Prop × AV) := So
theorem Sp_ok (hP : PrgOk P) : EnvOk P ⟨T0, Sp⟩ := (So_ok hP)
attribute [go_sem] Sp
end Go.Proofs.YtjnhekedclcbfaaDoor.AM
/- The document's numbers, told az one. -/
namespace Go.Proofs.YtjnhekedclcbfaaDoor.AM
set_option linter.all false
set_option autoImplicit true
set_option relaxedAutoImplicit true
open Go Go.Proofs
set_option maxRecDepth 100000
set_option maxHeartbeats 8000000
set_option linter.unusedSimpArgs false
variable {P : Program}

def rOfA : List AV → Option (Prop × AV)
  | [.int .u64 n] => some (0 ≤ n ∧ n < 18446744073709551616, (.opq (.rnat (n.toNat))))
  | _ => none
def rAddA : List AV → Option (Prop × AV) := onR2 fun a b => (blen a ≤ 68719476736 ∧ blen b ≤ 68719476736, (.opq (.rnat (a + b))))
def rSubA : List AV → Option (Prop × AV) := onR2 fun a b => (blen a ≤ 68719476736 ∧ b ≤ a, (.opq (.rnat (a - b))))
def rMulA : List AV → Option (Prop × AV) := onR2 fun a b => (blen a ≤ 68719476736 ∧ blen b ≤ 68719476736, (.opq (.rnat (a * b))))
theorem Conv.rnat2 (a b : Nat) : Conv (.tup [(.imm (digs 65536 (a)).length (List.map (fun d : Nat => AV.int .u32 (d : Int)) (digs 65536 (a)))), (.imm (digs 65536 (b)).length (List.map (fun d : Nat => AV.int .u32 (d : Int)) (digs 65536 (b))))]) (.tup [(.opq (.rnat (a))), (.opq (.rnat (b)))]) := CvL.conv (CvL.tup (fun W φ w l hl => by
  obtain ⟨v, vs, rfl, h1, h2⟩ := hl.uncons rfl
  obtain ⟨v', rfl, h2⟩ := h2.one
  exact (Conv.rnat a _ _ _ _ h1).app (Conv.rnat b _ _ _ _ h2)) .nil)
def rDivA : List AV → Option (Prop × AV) := onR2 fun a b => (blen a ≤ 68719476736 ∧ blen b ≤ 34359738368 ∧ 0 < b, .tup [(.opq (.rnat (a / b))), (.opq (.rnat (a % b)))])
def rGcdA : List AV → Option (Prop × AV) := onR2 fun a b => (blen a ≤ 34359738368 ∧ blen b ≤ 34359738368, (.opq (.rnat (Nat.gcd a b))))
def rParseA : List AV → Option (Prop × AV)
  | [.str s] => some ((bl s).length ≤ 8589934592 ∧ ∀ c ∈ bl s, 48 ≤ c ∧ c ≤ 57, (.opq (.rnat (valL (bl s)))))
  | _ => none
attribute [go_sem] rOfA rAddA rSubA rMulA rDivA rGcdA rParseA
noncomputable def Sr : Nat → List AV → Option (Prop × AV) := Sp
theorem Sr_all (hP : PrgOk P) (T) (hT : TyOk P T) : EnvOk P ⟨T, Sr⟩ := ((Sp_ok hP).re hT)
attribute [go_sem] Sr
end Go.Proofs.YtjnhekedclcbfaaDoor.AM
/- Whole numbers: their cells; made of a sign and a size. -/
namespace Go.Proofs.YtjnhekedclcbfaaDoor.AM
set_option linter.all false
set_option autoImplicit true
set_option relaxedAutoImplicit true
open Go Go.Proofs
set_option maxRecDepth 100000
set_option maxHeartbeats 8000000
set_option linter.unusedSimpArgs false
variable {P : Program}

/-- The cells of one. -/
def wC (z : Int) : List AV := [.bool (decide (z < 0)), .opq (.nat z.natAbs), .pad]
theorem CvL.wholeIn (z : Int) {xs bs} (h : CvL xs bs) : CvL ((.agg [.opq (.whole (z)), .pad, .pad]) :: xs) (.agg (wC z) :: bs) := .agg (by simpa [Pay.open, Pay.width, wC] using CvL.unfold (.whole z) []) h
theorem CvL.wholeOut (z : Int) {xs bs} (h : CvL xs bs) : CvL (.agg (wC z) :: xs) ((.agg [.opq (.whole (z)), .pad, .pad]) :: bs) := .agg (by simpa [Pay.open, Pay.width, wC] using CvL.fold (.whole z) [] rfl) h
theorem Conv.whole (z : Int) : Conv (.agg (wC z)) (.agg [.opq (.whole (z)), .pad, .pad]) := CvL.conv (.wholeOut z .nil)
/-- A size with a sign. -/
def sg (m : Bool) (a : Nat) : Int := if m then -(a : Int) else a
theorem sg_t (a : Nat) : sg true a = -(a : Int) := rfl
theorem sg_f (a : Nat) : sg false a = (a : Int) := rfl
theorem sg_abs (m a) : (sg m a).natAbs = a := by cases m <;> simp [sg]
theorem sg_neg (m a) : decide (sg m a < 0) = (m && decide (0 < a)) := by cases m <;> simp [sg] <;> omega
theorem sg_of (z : Int) : sg (decide (z < 0)) z.natAbs = z := by
  unfold sg; by_cases h : z < 0
  · rw [decide_eq_true h]; simp; omega
  · rw [decide_eq_false h]; simp; omega
def rawW : AV → Option (Prop × Int)
  | .agg [.opq (.whole z), .pad, .pad] => some (True, z)
  | .agg [.bool m, .opq (.nat a), .pad] => some (m = true → 0 < a, sg m a)
  | _ => none
theorem rawW_atom (z : Int) : rawW (.agg [.opq (.whole (z)), .pad, .pad]) = some (True, z) := rfl
theorem rawW_raw (m a) : rawW (.agg [.bool m, .opq (.nat a), .pad]) = some (m = true → 0 < a, sg m a) := rfl
theorem rawW_cv {v : AV} {p z} (h : rawW v = some (p, z)) (hp : p) {xs bs} (k : CvL xs bs) : CvL (v :: xs) ((.agg [.opq (.whole (z)), .pad, .pad]) :: bs) := by
  unfold rawW at h
  split at h
  · simp only [Option.some.injEq, Prod.mk.injEq] at h
    obtain ⟨rfl, rfl⟩ := h
    exact .agg (.refl _) k
  · simp only [Option.some.injEq, Prod.mk.injEq] at h
    obtain ⟨rfl, rfl⟩ := h
    rename_i m a
    have e : wC (sg m a) = [.bool m, .opq (.nat a), .pad] := by
      unfold wC; rw [sg_abs, sg_neg]
      cases m
      · rfl
      · rw [decide_eq_true (hp rfl)]; rfl
    rw [← e]; exact .wholeOut _ k
  · simp at h
def onW1 (f : Int → Prop × AV) : List AV → Option (Prop × AV)
  | [x] => (rawW x).map fun a => (a.1 ∧ (f a.2).1, (f a.2).2)
  | _ => none
def onW2 (f : Int → Int → Prop × AV) : List AV → Option (Prop × AV)
  | [x, y] => (rawW x).bind fun a => (rawW y).map fun b => (a.1 ∧ b.1 ∧ (f a.2 b.2).1, (f a.2 b.2).2)
  | _ => none
theorem onW1_ok {fi : Nat} {f : Int → Prop × AV} (h : ∀ a, (f a).1 → CSpec P fi [(.agg [.opq (.whole (a)), .pad, .pad])] (f a).2) (args p r) (he : onW1 f args = some (p, r)) (hp : p) : CSpec P fi args r := by
  unfold onW1 at he
  split at he
  · simp only [Option.map_eq_some_iff, Prod.exists, Prod.mk.injEq] at he
    obtain ⟨q, a, h1, rfl, rfl⟩ := he
    exact (h a hp.2).cv (rawW_cv h1 hp.1 .nil)
  · simp at he
theorem onW2_ok {fi : Nat} {f : Int → Int → Prop × AV} (h : ∀ a b, (f a b).1 → CSpec P fi [(.agg [.opq (.whole (a)), .pad, .pad]), (.agg [.opq (.whole (b)), .pad, .pad])] (f a b).2) (args p r) (he : onW2 f args = some (p, r)) (hp : p) : CSpec P fi args r := by
  unfold onW2 at he
  split at he
  · simp only [Option.bind_eq_some_iff, Option.map_eq_some_iff, Prod.exists, Prod.mk.injEq] at he
    obtain ⟨q, a, h1, q', b, h2, rfl, rfl⟩ := he
    exact (h a b hp.2.2).cv (rawW_cv h1 hp.1 (rawW_cv h2 hp.2.1 .nil))
  · simp at he
theorem onW1_eq (f x) : onW1 f [x] = (rawW x).map fun a => (a.1 ∧ (f a.2).1, (f a.2).2) := rfl
theorem onW2_eq (f x y) : onW2 f [x, y] = (rawW x).bind fun a => (rawW y).map fun b => (a.1 ∧ b.1 ∧ (f a.2 b.2).1, (f a.2 b.2).2) := rfl
attribute [go_sem] rawW_atom rawW_raw onW1_eq onW2_eq
/-- The bits of a size. -/
abbrev wl (z : Int) : Nat := blen z.natAbs

theorem wMake_spec (hP : PrgOk P) (m : Bool) (a : Nat) (ha : blen a ≤ 68719476736) : CSpec P 39 [.bool m, (.agg [.opq (.nat (a)), .pad])] (.agg [.opq (.whole (sg m a)), .pad, .pad]) := by
  have HE := Sr_all hP T1 hP.t1
  refine CSpec.conv (r := .agg (wC (sg m a))) ?_ (.whole _)
  unfold wC
  rw [sg_abs, sg_neg]
  refine CSpec_vc (E := ⟨T1, Sr⟩) (fn39 hP) HE hP.mix rfl (by first | rfl | (simp only [go_sem]; done)) (by first | rfl | (simp only [go_sem]; done)) (Nat.le_of_ble_eq_true rfl) ?_
  cases m
  · simp (maxSteps := 1000000) only [go_sem, ha]
    exact .refl _
  · rcases Nat.eq_zero_or_pos a with h | h
    · subst h
      have hb : blen 0 = 0 := by decide
      simp (maxSteps := 1000000) only [go_sem, ha, hb]
      exact .refl _
    · have hb : 0 < blen a := by
        have : blen a ≠ 0 := by rw [Ne, blen_zero_iff]; omega
        omega
      simp (maxSteps := 1000000) only [go_sem, ha, hb, h]
      exact .refl _
def wMakeS : List AV → Option (Prop × AV)
  | [.bool m, x] => (rawN x).map fun a => (a.1 ∧ blen a.2 ≤ 68719476736, (.agg [.opq (.whole (sg m a.2)), .pad, .pad]))
  | _ => none
theorem wMakeS_eq (m x) : wMakeS [.bool m, x] = (rawN x).map fun a => (a.1 ∧ blen a.2 ≤ 68719476736, (.agg [.opq (.whole (sg m a.2)), .pad, .pad])) := rfl
theorem wMakeS_ok (hP : PrgOk P) (args p r) (he : wMakeS args = some (p, r)) (hp : p) : CSpec P 39 args r := by
  unfold wMakeS at he
  split at he
  · simp only [Option.map_eq_some_iff, Prod.exists, Prod.mk.injEq] at he
    obtain ⟨q, a, h1, rfl, rfl⟩ := he
    exact (wMake_spec hP _ a hp.2).cv (.cons rfl (rawN_cv h1 hp.1 .nil))
  · simp at he
attribute [go_sem] wMakeS_eq
end Go.Proofs.YtjnhekedclcbfaaDoor.AM
/- Whole numbers: signs, order, sums. -/
namespace Go.Proofs.YtjnhekedclcbfaaDoor.AM
set_option linter.all false
set_option autoImplicit true
set_option relaxedAutoImplicit true
open Go Go.Proofs
set_option maxRecDepth 100000
set_option maxHeartbeats 8000000
set_option linter.unusedSimpArgs false
variable {P : Program}

noncomputable def Wt0 : Nat → List AV → Option (Prop × AV) := addS Sr 39 wMakeS
theorem Wt0_all (hP : PrgOk P) (T) (hT : TyOk P T) : EnvOk P ⟨T, Wt0⟩ := ((Sr_all hP T hT).add (wMakeS_ok hP))
theorem Wt0_at (f a) : Wt0 f a = (addS Sr 39 wMakeS) f a := rfl
attribute [go_sem] Wt0_at
def sgnZ (z : Int) : Int := if z = 0 then 0 else if z < 0 then -1 else 1
def cmpZ (a b : Int) : Int := if a < b then -1 else if b < a then 1 else 0
theorem wl_zero {z : Int} : (wl z = 0) = (z = 0) := by
  unfold wl; rw [eq_iff_iff, blen_zero_iff]; omega
theorem wSign_spec (hP : PrgOk P) (z : Int) (h : wl z ≤ 68719476736) : CSpec P 41 [(.agg [.opq (.whole (z)), .pad, .pad])] (.int .i64 (sgnZ z)) := by
  have HE := Wt0_all hP T1 hP.t1
  refine CSpec.cv ?_ (.wholeIn z .nil)
  unfold wC
  refine CSpec_vc (E := ⟨T1, Wt0⟩) (fn41 hP) HE hP.mix rfl (by first | rfl | (simp only [go_sem]; done)) (by first | rfl | (simp only [go_sem]; done)) (Nat.le_of_ble_eq_true rfl) ?_
  unfold sgnZ
  unfold wl at h
  by_cases h0 : z = 0
  · have hb : (blen z.natAbs == 0) = true := beq_iff_eq.2 ((blen_zero_iff _).2 (by omega))
    rw [if_pos h0]
    simp (maxSteps := 1000000) only [go_sem, h, hb]
    exact .refl _
  · have hb : (blen z.natAbs == 0) = false := beq_eq_false_iff_ne.2 fun e => h0 (by have := (blen_zero_iff _).1 e; omega)
    rw [if_neg h0]
    by_cases h1 : z < 0
    · rw [if_pos h1]
      simp (maxSteps := 1000000) only [go_sem, h, hb, h1]
      exact .refl _
    · rw [if_neg h1]
      simp (maxSteps := 1000000) only [go_sem, h, hb, h1]
      exact .refl _
def wSignS : List AV → Option (Prop × AV) := onW1 fun a => (wl a ≤ 68719476736, .int .i64 (sgnZ a))
theorem wSignS_ok (hP : PrgOk P) (args p r) : wSignS args = some (p, r) → p → CSpec P 41 args r := onW1_ok (fun a h => by exact wSign_spec hP a h) args p r
attribute [go_sem] wSignS
theorem wAbs_spec (hP : PrgOk P) (z : Int) : CSpec P 16 [(.agg [.opq (.whole (z)), .pad, .pad])] (.agg [.opq (.nat (z.natAbs)), .pad]) := by
  have HE := Wt0_all hP T1 hP.t1
  refine CSpec.cv ?_ (.wholeIn z .nil)
  unfold wC
  refine CSpec_vc (E := ⟨T1, Wt0⟩) (fn16 hP) HE hP.mix rfl (by first | rfl | (simp only [go_sem]; done)) (by first | rfl | (simp only [go_sem]; done)) (Nat.le_of_ble_eq_true rfl) ?_
  simp (maxSteps := 1000000) only [go_sem]
  exact .refl _
def wAbsS : List AV → Option (Prop × AV) := onW1 fun a => (True, (.agg [.opq (.nat (a.natAbs)), .pad]))
theorem wAbsS_ok (hP : PrgOk P) (args p r) : wAbsS args = some (p, r) → p → CSpec P 16 args r := onW1_ok (fun a _ => by exact wAbs_spec hP a) args p r
attribute [go_sem] wAbsS
theorem wOf_spec (hP : PrgOk P) (n : Int) (h1 : -9223372036854775808 ≤ n) (h2 : n ≤ 9223372036854775807) : CSpec P 21 [.int .i64 n] (.agg [.opq (.whole (n)), .pad, .pad]) := by
  have HE := Wt0_all hP T1 hP.t1
  refine CSpec.conv (r := .agg (wC n)) ?_ (.whole _)
  unfold wC
  refine CSpec_vc (E := ⟨T1, Wt0⟩) (fn21 hP) HE hP.mix rfl (by first | rfl | (simp only [go_sem]; done)) (by first | rfl | (simp only [go_sem]; done)) (Nat.le_of_ble_eq_true rfl) ?_
  by_cases h : n < 0
  · have e1 : IntKind.u64.wrap n = n + 18446744073709551616 := by rw [IntKind.wrap_u64]; omega
    have e2 : IntKind.u64.wrap (0 - (n + 18446744073709551616)) = -n := by rw [IntKind.wrap_u64]; omega
    have e3 : ((0 : Int) ≤ -n) = True := eq_true (by omega)
    have e4 : (-n < 18446744073709551616) = True := eq_true (by omega)
    have e5 : (-n).toNat = n.natAbs := by omega
    simp (maxSteps := 1000000) only [go_sem, h, e1, e2, e3, e4, e5]
    exact .refl _
  · have e1 : IntKind.u64.wrap n = n := by rw [IntKind.wrap_u64]; omega
    have e3 : ((0 : Int) ≤ n) = True := eq_true (by omega)
    have e4 : (n < 18446744073709551616) = True := eq_true (by omega)
    have e5 : n.toNat = n.natAbs := by omega
    simp (maxSteps := 1000000) only [go_sem, h, e1, e3, e4, e5]
    exact .refl _
def wOfS : List AV → Option (Prop × AV)
  | [.int .i64 n] => some (-9223372036854775808 ≤ n ∧ n ≤ 9223372036854775807, (.agg [.opq (.whole (n)), .pad, .pad]))
  | _ => none
theorem wOfS_ok (hP : PrgOk P) (args p r) (h : wOfS args = some (p, r)) (hp : p) : CSpec P 21 args r := by
  unfold wOfS at h
  split at h
  · simp only [Option.some.injEq, Prod.mk.injEq] at h
    obtain ⟨rfl, rfl⟩ := h
    exact wOf_spec hP _ hp.1 hp.2
  · simp at h
attribute [go_sem] wOfS
theorem wCmp_spec (hP : PrgOk P) (a b : Int) (ha : wl a ≤ 68719476736) (hb : wl b ≤ 68719476736) : CSpec P 48 [(.agg [.opq (.whole (a)), .pad, .pad]), (.agg [.opq (.whole (b)), .pad, .pad])] (.int .i64 (cmpZ a b)) := by
  have HE := Wt0_all hP T1 hP.t1
  refine CSpec.cv ?_ (.wholeIn a (.wholeIn b .nil))
  unfold wC
  unfold wl at ha hb
  refine CSpec_vc (E := ⟨T1, Wt0⟩) (fn48 hP) HE hP.mix rfl (by first | rfl | (simp only [go_sem]; done)) (by first | rfl | (simp only [go_sem]; done)) (Nat.le_of_ble_eq_true rfl) ?_
  by_cases h1 : a < 0
  · by_cases h2 : b < 0
    · have e : cmpZ a b = cmpI b.natAbs a.natAbs := by
        unfold cmpZ cmpI; repeat' split
        all_goals omega
      simp (maxSteps := 1000000) only [go_sem, h1, h2, ha, hb]
      rw [e]; exact .refl _
    · have e : cmpZ a b = -1 := by unfold cmpZ; rw [if_pos (by omega)]
      simp (maxSteps := 1000000) only [go_sem, h1, h2, ha, hb]
      rw [e]; exact .refl _
  · by_cases h2 : b < 0
    · have e : cmpZ a b = 1 := by unfold cmpZ; rw [if_neg (by omega), if_pos (by omega)]
      simp (maxSteps := 1000000) only [go_sem, h1, h2, ha, hb]
      rw [e]; exact .refl _
    · have e : cmpZ a b = cmpI a.natAbs b.natAbs := by
        unfold cmpZ cmpI; repeat' split
        all_goals omega
      simp (maxSteps := 1000000) only [go_sem, h1, h2, ha, hb]
      rw [e]; exact .refl _
def wCmpS : List AV → Option (Prop × AV) := onW2 fun a b => (wl a ≤ 68719476736 ∧ wl b ≤ 68719476736, .int .i64 (cmpZ a b))
theorem wCmpS_ok (hP : PrgOk P) (args p r) : wCmpS args = some (p, r) → p → CSpec P 48 args r := onW2_ok (fun a b h => by exact wCmp_spec hP a b h.1 h.2) args p r
attribute [go_sem] wCmpS
theorem wNeg_spec (hP : PrgOk P) (a : Int) (ha : wl a ≤ 68719476736) : CSpec P 65 [(.agg [.opq (.whole (a)), .pad, .pad])] (.agg [.opq (.whole (-a)), .pad, .pad]) := by
  have HE := Wt0_all hP T1 hP.t1
  refine CSpec.cv ?_ (.wholeIn a .nil)
  unfold wC
  unfold wl at ha
  refine CSpec_vc (E := ⟨T1, Wt0⟩) (fn65 hP) HE hP.mix rfl (by first | rfl | (simp only [go_sem]; done)) (by first | rfl | (simp only [go_sem]; done)) (Nat.le_of_ble_eq_true rfl) ?_
  have e : sg (!decide (a < 0)) a.natAbs = -a := by
    by_cases h : a < 0
    · rw [decide_eq_true h]; simp [sg]; omega
    · rw [decide_eq_false h]; simp [sg]; omega
  simp (maxSteps := 1000000) only [go_sem, ha, e]
  exact .refl _
def wNegS : List AV → Option (Prop × AV) := onW1 fun a => (wl a ≤ 68719476736, (.agg [.opq (.whole (-a)), .pad, .pad]))
theorem wNegS_ok (hP : PrgOk P) (args p r) : wNegS args = some (p, r) → p → CSpec P 65 args r := onW1_ok (fun a h => by exact wNeg_spec hP a h) args p r
attribute [go_sem] wNegS
theorem wAdd_spec (hP : PrgOk P) (a b : Int) (ha : wl a ≤ 34359738368) (hb : wl b ≤ 34359738368) : CSpec P 20 [(.agg [.opq (.whole (a)), .pad, .pad]), (.agg [.opq (.whole (b)), .pad, .pad])] (.agg [.opq (.whole (a + b)), .pad, .pad]) := by
  have HE := Wt0_all hP T1 hP.t1
  refine CSpec.cv ?_ (.wholeIn a (.wholeIn b .nil))
  unfold wC
  unfold wl at ha hb
  have hs := Nat.le_trans (blen_add_le ha hb) (show _ ≤ 68719476736 by decide)
  have ha' := Nat.le_trans ha (show _ ≤ 68719476736 by decide)
  have hb' := Nat.le_trans hb (show _ ≤ 68719476736 by decide)
  refine CSpec_vc (E := ⟨T1, Wt0⟩) (fn20 hP) HE hP.mix rfl (by first | rfl | (simp only [go_sem]; done)) (by first | rfl | (simp only [go_sem]; done)) (Nat.le_of_ble_eq_true rfl) ?_
  by_cases h1 : a < 0
  · by_cases h2 : b < 0
    · have e : sg true (a.natAbs + b.natAbs) = a + b := by rw [sg_t]; omega
      simp (maxSteps := 1000000) only [go_sem, h1, h2, ha', hb', hs, e]
      exact .refl _
    · rcases Nat.lt_or_ge a.natAbs b.natAbs with h | h
      · have hc : cmpI a.natAbs b.natAbs = -1 := cmpI_lt h
        have hn : (b.natAbs < a.natAbs) = False := eq_false (by omega)
        have hd := Nat.le_trans (blen_mono (Nat.sub_le b.natAbs a.natAbs)) hb'
        have e : sg false (b.natAbs - a.natAbs) = a + b := by rw [sg_f]; omega
        simp (maxSteps := 1000000) only [go_sem, h1, h2, ha', hb', hc, hn, hd, e]
        exact .refl _
      · have hc : decide (cmpI a.natAbs b.natAbs < 0) = false := cmp_ge h
        have hn : (a.natAbs < b.natAbs) = False := eq_false (by omega)
        have hd := Nat.le_trans (blen_mono (Nat.sub_le a.natAbs b.natAbs)) ha'
        have e : sg true (a.natAbs - b.natAbs) = a + b := by rw [sg_t]; omega
        simp (maxSteps := 1000000) only [go_sem, h1, h2, ha', hb', hc, hn, hd, e]
        exact .refl _
  · by_cases h2 : b < 0
    · rcases Nat.lt_or_ge a.natAbs b.natAbs with h | h
      · have hc : cmpI a.natAbs b.natAbs = -1 := cmpI_lt h
        have hn : (b.natAbs < a.natAbs) = False := eq_false (by omega)
        have hd := Nat.le_trans (blen_mono (Nat.sub_le b.natAbs a.natAbs)) hb'
        have e : sg true (b.natAbs - a.natAbs) = a + b := by rw [sg_t]; omega
        simp (maxSteps := 1000000) only [go_sem, h1, h2, ha', hb', hc, hn, hd, e]
        exact .refl _
      · have hc : decide (cmpI a.natAbs b.natAbs < 0) = false := cmp_ge h
        have hn : (a.natAbs < b.natAbs) = False := eq_false (by omega)
        have hd := Nat.le_trans (blen_mono (Nat.sub_le a.natAbs b.natAbs)) ha'
        have e : sg false (a.natAbs - b.natAbs) = a + b := by rw [sg_f]; omega
        simp (maxSteps := 1000000) only [go_sem, h1, h2, ha', hb', hc, hn, hd, e]
        exact .refl _
    · have e : sg false (a.natAbs + b.natAbs) = a + b := by rw [sg_f]; omega
      simp (maxSteps := 1000000) only [go_sem, h1, h2, ha', hb', hs, e]
      exact .refl _
def wAddS : List AV → Option (Prop × AV) := onW2 fun a b => (wl a ≤ 34359738368 ∧ wl b ≤ 34359738368, (.agg [.opq (.whole (a + b)), .pad, .pad]))
theorem wAddS_ok (hP : PrgOk P) (args p r) : wAddS args = some (p, r) → p → CSpec P 20 args r := onW2_ok (fun a b h => by exact wAdd_spec hP a b h.1 h.2) args p r
attribute [go_sem] wAddS
noncomputable def Wt1 : Nat → List AV → Option (Prop × AV) := addS (addS (addS (addS (addS (addS Wt0 41 wSignS) 16 wAbsS) 21 wOfS) 48 wCmpS) 65 wNegS) 20 wAddS
theorem Wt1_all (hP : PrgOk P) (T) (hT : TyOk P T) : EnvOk P ⟨T, Wt1⟩ := (((((((Wt0_all hP T hT).add (wSignS_ok hP)).add (wAbsS_ok hP)).add (wOfS_ok hP)).add (wCmpS_ok hP)).add (wNegS_ok hP)).add (wAddS_ok hP))
theorem Wt1_at (f a) : Wt1 f a = (addS (addS (addS (addS (addS (addS Wt0 41 wSignS) 16 wAbsS) 21 wOfS) 48 wCmpS) 65 wNegS) 20 wAddS) f a := rfl
attribute [go_sem] Wt1_at
theorem wl_neg (a : Int) : wl (-a) = wl a := by unfold wl; rw [Int.natAbs_neg]
theorem wSub_spec (hP : PrgOk P) (a b : Int) (ha : wl a ≤ 34359738368) (hb : wl b ≤ 34359738368) : CSpec P 56 [(.agg [.opq (.whole (a)), .pad, .pad]), (.agg [.opq (.whole (b)), .pad, .pad])] (.agg [.opq (.whole (a - b)), .pad, .pad]) := by
  have HE := Wt1_all hP T2 hP.t2
  have hb' := Nat.le_trans hb (show _ ≤ 68719476736 by decide)
  have e : a + -b = a - b := rfl
  unfold wl at ha hb hb'
  refine CSpec_vc (E := ⟨T2, Wt1⟩) (fn56 hP) HE hP.mix rfl (by first | rfl | (simp only [go_sem]; done)) (by first | rfl | (simp only [go_sem]; done)) (Nat.le_of_ble_eq_true rfl) ?_
  simp (maxSteps := 1000000) only [go_sem, ha, hb, hb', wl, Int.natAbs_neg, e]
  exact .refl _
def wSubS : List AV → Option (Prop × AV) := onW2 fun a b => (wl a ≤ 34359738368 ∧ wl b ≤ 34359738368, (.agg [.opq (.whole (a - b)), .pad, .pad]))
theorem wSubS_ok (hP : PrgOk P) (args p r) : wSubS args = some (p, r) → p → CSpec P 56 args r := onW2_ok (fun a b h => by exact wSub_spec hP a b h.1 h.2) args p r
attribute [go_sem] wSubS
theorem sg_mul (a b : Int) : sg (!(decide (a < 0) == decide (b < 0))) (a.natAbs * b.natAbs) = a * b := by
  rw [← Int.natAbs_mul]
  have ha := sg_of a
  have hb := sg_of b
  unfold sg at *
  by_cases h1 : a < 0 <;> by_cases h2 : b < 0
  · have := Int.mul_pos_of_neg_of_neg h1 h2; simp [h1, h2]; omega
  · have := Int.mul_nonpos_of_nonpos_of_nonneg (Int.le_of_lt h1) (Int.not_lt.1 h2); simp [h1, h2]; omega
  · have := Int.mul_nonpos_of_nonneg_of_nonpos (Int.not_lt.1 h1) (Int.le_of_lt h2); simp [h1, h2]; omega
  · have := Int.mul_nonneg (Int.not_lt.1 h1) (Int.not_lt.1 h2); simp [h1, h2]; omega
theorem wMul_spec (hP : PrgOk P) (a b : Int) (ha : wl a ≤ 34359738368) (hb : wl b ≤ 34359738368) : CSpec P 54 [(.agg [.opq (.whole (a)), .pad, .pad]), (.agg [.opq (.whole (b)), .pad, .pad])] (.agg [.opq (.whole (a * b)), .pad, .pad]) := by
  have HE := Wt1_all hP T1 hP.t1
  refine CSpec.cv ?_ (.wholeIn a (.wholeIn b .nil))
  unfold wC
  unfold wl at ha hb
  have hs := Nat.le_trans (blen_mul_le ha hb) (show _ ≤ 68719476736 by decide)
  have ha' := Nat.le_trans ha (show _ ≤ 68719476736 by decide)
  have hb' := Nat.le_trans hb (show _ ≤ 68719476736 by decide)
  refine CSpec_vc (E := ⟨T1, Wt1⟩) (fn54 hP) HE hP.mix rfl (by first | rfl | (simp only [go_sem]; done)) (by first | rfl | (simp only [go_sem]; done)) (Nat.le_of_ble_eq_true rfl) ?_
  simp (maxSteps := 1000000) only [go_sem, ha', hb', hs, sg_mul]
  exact .refl _
def wMulS : List AV → Option (Prop × AV) := onW2 fun a b => (wl a ≤ 34359738368 ∧ wl b ≤ 34359738368, (.agg [.opq (.whole (a * b)), .pad, .pad]))
theorem wMulS_ok (hP : PrgOk P) (args p r) : wMulS args = some (p, r) → p → CSpec P 54 args r := onW2_ok (fun a b h => by exact wMul_spec hP a b h.1 h.2) args p r
attribute [go_sem] wMulS
end Go.Proofs.YtjnhekedclcbfaaDoor.AM
/- Whole numbers: quotients, texts, machine's numbers. -/
namespace Go.Proofs.YtjnhekedclcbfaaDoor.AM
set_option linter.all false
set_option autoImplicit true
set_option relaxedAutoImplicit true
open Go Go.Proofs
set_option maxRecDepth 100000
set_option maxHeartbeats 8000000
set_option linter.unusedSimpArgs false
variable {P : Program}

noncomputable def Wt2 : Nat → List AV → Option (Prop × AV) := addS (addS Wt1 56 wSubS) 54 wMulS
theorem Wt2_all (hP : PrgOk P) (T) (hT : TyOk P T) : EnvOk P ⟨T, Wt2⟩ := (((Wt1_all hP T hT).add (wSubS_ok hP)).add (wMulS_ok hP))
theorem Wt2_at (f a) : Wt2 f a = (addS (addS Wt1 56 wSubS) 54 wMulS) f a := rfl
attribute [go_sem] Wt2_at
/-- What is left, from 0 on; how often it goes. -/
def rZ (a b : Int) : Nat := if a < 0 ∧ 0 < a.natAbs % b.natAbs then b.natAbs - a.natAbs % b.natAbs else a.natAbs % b.natAbs
def qZ (a b : Int) : Int := sg (!(decide (a < 0) == decide (b < 0))) (if a < 0 ∧ 0 < a.natAbs % b.natAbs then a.natAbs / b.natAbs + 1 else a.natAbs / b.natAbs)
def wQuoS : List AV → Option (Prop × AV) := onW2 fun a b => (wl a ≤ 34359738368 ∧ wl b ≤ 34359738368, if b = 0 then .tup [(.agg [.opq (.whole (0)), .pad, .pad]), (.agg [.opq (.whole (0)), .pad, .pad]), .int .i64 11] else .tup [(.agg [.opq (.whole (qZ a b)), .pad, .pad]), (.agg [.opq (.whole ((rZ a b : Nat))), .pad, .pad]), .int .i64 0])
attribute [go_sem] wQuoS
/-- The text of a whole number. -/
def itS (z : Int) : ByteArray := if z < 0 then ⟨#[45]⟩ ++ decS z.natAbs else decS z.natAbs
theorem decS_size (a : Nat) : (decS a).size = (decL a).length := by unfold decS; rw [bytesS_size, List.length_map]
theorem wText_spec (hP : PrgOk P) (z : Int) (h : wl z ≤ 68719476736) : CSpec P 33 [(.agg [.opq (.whole (z)), .pad, .pad])] (.str (itS z)) := by
  have HE := Wt2_all hP T2 hP.t2
  refine CSpec.cv ?_ (.wholeIn z .nil)
  unfold wC
  unfold wl at h
  unfold itS
  have hl := decL_len z.natAbs
  have hs : (ByteArray.mk #[45]).size + (decS z.natAbs).size ≤ 9223372036854775807 := by
    rw [decS_size]; have : (ByteArray.mk #[45]).size = 1 := rfl
    omega
  refine CSpec_vc (E := ⟨T2, Wt2⟩) (fn33 hP) HE hP.mix rfl (by first | rfl | (simp only [go_sem]; done)) (by first | rfl | (simp only [go_sem]; done)) (Nat.le_of_ble_eq_true rfl) ?_
  by_cases h1 : z < 0
  · simp (maxSteps := 1000000) only [go_sem, h1, h]
    exact ⟨hs, .refl _⟩
  · simp (maxSteps := 1000000) only [go_sem, h1, h]
    exact .refl _
def wTextS : List AV → Option (Prop × AV) := onW1 fun a => (wl a ≤ 68719476736, .str (itS a))
theorem wTextS_ok (hP : PrgOk P) (args p r) : wTextS args = some (p, r) → p → CSpec P 33 args r := onW1_ok (fun a h => by exact wText_spec hP a h) args p r
attribute [go_sem] wTextS
/-- Does it fit into a machine's number? -/
def fitZ (z : Int) : Bool := decide (-9223372036854775808 ≤ z ∧ z ≤ 9223372036854775807)
def wInt64S : List AV → Option (Prop × AV) := onW1 fun z => (True, .tup [.int .i64 (if fitZ z = true then z else 0), .bool (fitZ z)])
attribute [go_sem] wInt64S
/-- A text read: the number, and what is wrong with it. -/
noncomputable def prD (l : List Nat) : Nat × Int := if okD l then (if l.length ≤ 256 then (valL l, 0) else (0, 3)) else (0, 12)
theorem parseR_eq (l : List Nat) : parseR l = .tup [(.agg [.opq (.nat ((prD l).1)), .pad]), .int .i64 (prD l).2] := by
  unfold prD
  by_cases h : okD l
  · by_cases h2 : l.length ≤ 256
    · rw [parse_ok h h2, if_pos h, if_pos h2]
    · rw [parse_long h (by omega), if_pos h, if_neg h2]
  · rw [parse_bad h, if_neg h]
noncomputable def parW (l : List Nat) : Int × Int := if l = [45, 48] then (0, 12) else (sg (decide (l.getD 0 0 = 45)) (prD (if l.getD 0 0 = 45 then l.drop 1 else l)).1, (prD (if l.getD 0 0 = 45 then l.drop 1 else l)).2)
theorem bl_inj {s t : ByteArray} (h : bl s = bl t) : s = t := by rw [← bytesS_bl s, ← bytesS_bl t, h]
theorem prD_zero {l : List Nat} (h : (prD l).2 ≠ 0) : (prD l).1 = 0 := by
  unfold prD at *
  by_cases h1 : okD l
  · by_cases h2 : l.length ≤ 256
    · simp [h1, h2] at h
    · simp [h1, h2]
  · simp [h1]
theorem prD_blen (l : List Nat) : blen (prD l).1 ≤ 1024 := by
  unfold prD
  split
  · split
    · exact valL_blen ‹_› ‹_›
    · decide
  · decide
theorem sg_zero (m : Bool) : sg m 0 = 0 := by cases m <;> rfl
noncomputable def wParseS : List AV → Option (Prop × AV)
  | [.str s] => some ((bl s).length ≤ 1099511627776, .tup [(.agg [.opq (.whole ((parW (bl s)).1)), .pad, .pad]), .int .i64 (parW (bl s)).2])
  | _ => none
attribute [go_sem] wParseS
noncomputable def Wt3 : Nat → List AV → Option (Prop × AV) := addS Wt2 33 wTextS
theorem Wt3_all (hP : PrgOk P) (T) (hT : TyOk P T) : EnvOk P ⟨T, Wt3⟩ := ((Wt2_all hP T hT).add (wTextS_ok hP))
theorem Wt3_at (f a) : Wt3 f a = (addS Wt2 33 wTextS) f a := rfl
attribute [go_sem] Wt3_at
end Go.Proofs.YtjnhekedclcbfaaDoor.AM
/- Texts and numbers; bounds. -/
namespace Go.Proofs.YtjnhekedclcbfaaDoor.AM
set_option linter.all false
set_option autoImplicit true
set_option relaxedAutoImplicit true
open Go Go.Proofs
set_option maxRecDepth 100000
set_option maxHeartbeats 8000000
set_option linter.unusedSimpArgs false
variable {P : Program}

/-! Texts and numbers. -/
theorem decS_inj2 {a b : Nat} (h : decS a = decS b) : a = b := by
  rw [← valL_decL a, ← valL_decL b, ← bl_decS, ← bl_decS, h]
theorem bl_app (s t : ByteArray) : bl (s ++ t) = bl s ++ bl t := by
  simp [bl, ByteArray.data_append]
theorem bl_itS (z : Int) : bl (itS z) = if z < 0 then 45 :: decL z.natAbs else decL z.natAbs := by
  unfold itS; split
  · rw [bl_app, bl_decS]; rfl
  · exact bl_decS _
theorem decL_head (a : Nat) : (decL a).getD 0 0 ≠ 45 := by
  have h := okD_decL a
  intro e
  have h1 := h.1
  cases hd : decL a with
  | nil => exact h1 hd
  | cons c t =>
    rw [hd] at e
    have := (h.2.2 c (by rw [hd]; simp)).1
    simp at e; omega
theorem itS_inj {a b : Int} (h : itS a = itS b) : a = b := by
  have e : bl (itS a) = bl (itS b) := by rw [h]
  rw [bl_itS, bl_itS] at e
  have hab := sg_of a
  have hbb := sg_of b
  by_cases h1 : a < 0 <;> by_cases h2 : b < 0
  · rw [if_pos h1, if_pos h2] at e
    have := congrArg valL (List.cons.inj e).2
    rw [valL_decL, valL_decL] at this; omega
  · rw [if_pos h1, if_neg h2] at e
    exact absurd (by rw [← e]; rfl) (decL_head b.natAbs)
  · rw [if_neg h1, if_pos h2] at e
    exact absurd (by rw [e]; rfl) (decL_head a.natAbs)
  · rw [if_neg h1, if_neg h2] at e
    have := congrArg valL e
    rw [valL_decL, valL_decL] at this; omega
theorem itS_eq (a b : Int) : ((itS a).toList == (itS b).toList) = decide (a = b) := by
  rw [str_same]
  exact decide_eq_decide.2 ⟨itS_inj, fun h => h ▸ rfl⟩
/-- A text that is read az a number is that number's. -/
theorem itS_val {s : ByteArray} (h : (parW (bl s)).2 = 0) : itS (parW (bl s)).1 = s := by
  unfold parW at *
  by_cases h0 : bl s = [45, 48]
  · rw [if_pos h0] at h; simp at h
  rw [if_neg h0] at h ⊢
  simp only [] at h ⊢
  have hprd : ∀ l, (prD l).2 = 0 → okD l ∧ (prD l).1 = valL l := fun l hl => by
    unfold prD at *
    by_cases h1 : okD l
    · by_cases h2 : l.length ≤ 256
      · simp [h1, h2]
      · simp [h1, h2] at hl
    · simp [h1] at hl
  apply bl_inj
  rw [bl_itS]
  by_cases hm : (bl s).getD 0 0 = 45
  · rw [if_pos hm] at h ⊢
    obtain ⟨h1, h2⟩ := hprd _ h
    rw [h2, decide_eq_true hm, sg_abs, decL_val h1]
    obtain ⟨c, t, hct⟩ : ∃ c t, bl s = c :: t := by
      cases hb : bl s with
      | nil => rw [hb] at hm; simp at hm
      | cons c t => exact ⟨c, t, rfl⟩
    have hc : c = 45 := by rw [hct] at hm; simpa using hm
    have hv : 0 < valL ((bl s).drop 1) := by
      rcases Nat.eq_zero_or_pos (valL ((bl s).drop 1)) with hz | hz
      · exfalso
        have h3 := decL_val h1
        rw [hz] at h3
        have h4 : decL 0 = [48] := rfl
        rw [h4, hct] at h3
        simp at h3
        exact h0 (by rw [hct, hc, ← h3])
      · exact hz
    have hneg : sg true (valL ((bl s).drop 1)) < 0 := by rw [sg_t]; omega
    rw [if_pos hneg, hct, hc]; rfl
  · rw [if_neg hm] at h ⊢
    obtain ⟨h1, h2⟩ := hprd _ h
    rw [h2, decide_eq_false hm, sg_abs, decL_val h1]
    have hneg : ¬ sg false (valL (bl s)) < 0 := by rw [sg_f]; omega
    rw [if_neg hneg]
/-- .. and a number's text is read az it. -/
theorem parW_itS {z : Int} (h : wl z ≤ 255) : parW (bl (itS z)) = (z, 0) := by
  rw [bl_itS]
  have hl := decL_len z.natAbs
  have hp : prD (decL z.natAbs) = (z.natAbs, 0) := by
    unfold prD
    rw [if_pos (okD_decL _), if_pos (by unfold wl at h; omega), valL_decL]
  have hz := sg_of z
  unfold parW
  by_cases h1 : z < 0
  · rw [if_pos h1]
    have hne : ¬ (45 :: decL z.natAbs) = [45, 48] := fun e => by
      have := congrArg valL (List.cons.inj e).2
      rw [valL_decL] at this
      have h2 : valL [48] = 0 := rfl
      omega
    have hh : (45 :: decL z.natAbs).getD 0 0 = 45 := rfl
    rw [if_neg hne, if_pos hh, List.drop_succ_cons, List.drop_zero, hp, decide_eq_true hh]
    rw [decide_eq_true h1] at hz; rw [hz]
  · rw [if_neg h1]
    have hh := decL_head z.natAbs
    have hne : ¬ decL z.natAbs = [45, 48] := fun e => hh (by rw [e]; rfl)
    rw [if_neg hne, if_neg hh, hp, decide_eq_false hh]
    rw [decide_eq_false h1] at hz; rw [hz]
theorem decL_bnd {a : Nat} {k : Nat} (h : a < 10 ^ k) (hk : 0 < k) : (decL a).length ≤ k := by
  unfold decL; split
  · exact hk
  · rw [List.length_reverse]; unfold dec10; rw [List.length_map]
    exact digs_length_le 10 a k (by decide) h
/-- 800 bits are at most 256 digits. -/
theorem parW_big {z : Int} (h : wl z ≤ 800) : parW (bl (itS z)) = (z, 0) := by
  rw [bl_itS]
  have hl : (decL z.natAbs).length ≤ 256 := decL_bnd (Nat.lt_of_lt_of_le ((blen_le_iff _ _).1 h) (by decide +kernel)) (by decide)
  have hp : prD (decL z.natAbs) = (z.natAbs, 0) := by
    unfold prD
    rw [if_pos (okD_decL _), if_pos hl, valL_decL]
  have hz := sg_of z
  unfold parW
  by_cases h1 : z < 0
  · rw [if_pos h1]
    have hne : ¬ (45 :: decL z.natAbs) = [45, 48] := fun e => by
      have := congrArg valL (List.cons.inj e).2
      rw [valL_decL] at this
      have h2 : valL [48] = 0 := rfl
      omega
    have hh : (45 :: decL z.natAbs).getD 0 0 = 45 := rfl
    rw [if_neg hne, if_pos hh, List.drop_succ_cons, List.drop_zero, hp, decide_eq_true hh]
    rw [decide_eq_true h1] at hz; rw [hz]
  · rw [if_neg h1]
    have hh := decL_head z.natAbs
    have hne : ¬ decL z.natAbs = [45, 48] := fun e => hh (by rw [e]; rfl)
    rw [if_neg hne, if_neg hh, hp, decide_eq_false hh]
    rw [decide_eq_false h1] at hz; rw [hz]
theorem parW_neg {d : List Nat} {n : Nat} (h : okD d) (hl : d.length ≤ 256) (hv : valL d = n) (hn : d ≠ [48]) : parW (45 :: d) = (-(n : Int), 0) := by
  unfold parW prD
  have hh : (45 :: d).getD 0 0 = 45 := rfl
  rw [if_neg (fun e => hn (List.cons.inj e).2), if_pos hh, decide_eq_true hh, List.drop_succ_cons, List.drop_zero, if_pos h, if_pos hl, hv]; rfl
theorem parW_pos {d : List Nat} {n : Nat} (h : okD d) (hl : d.length ≤ 256) (hv : valL d = n) : parW d = ((n : Int), 0) := by
  have hh : ¬ d.getD 0 0 = 45 := fun e => by
    cases d with
    | nil => exact h.1 rfl
    | cons c t => have := (h.2.2 c (by simp)).1; simp at e; omega
  unfold parW prD
  rw [if_neg (fun e => hh (by rw [e]; rfl)), if_neg hh, decide_eq_false hh, if_pos h, if_pos hl, hv]; rfl
theorem itS_of {s : ByteArray} {z : Int} (h : parW (bl s) = (z, 0)) : itS z = s := by
  have := itS_val (s := s) (by rw [h])
  rw [h] at this; exact this
theorem itS_lit {s : ByteArray} {z : Int} (h : parW (bl s) = (z, 0)) : ((itS z).toList == s.toList) = true := by rw [itS_of h]; exact beq_self_eq_true _
/-! Bounds. -/
theorem wl_add {a b : Int} {n m : Nat} (h : wl a ≤ n) (h' : wl b ≤ m) : wl (a + b) ≤ n + m + 1 := by
  unfold wl at *
  rw [blen_le_iff] at *
  have h1 : (a + b).natAbs ≤ a.natAbs + b.natAbs := Int.natAbs_add_le a b
  have e1 : 2 ^ n ≤ 2 ^ (n + m) := Nat.pow_le_pow_right (by decide) (by omega)
  have e2 : 2 ^ m ≤ 2 ^ (n + m) := Nat.pow_le_pow_right (by decide) (by omega)
  rw [Nat.pow_succ]; omega
theorem wl_sub {a b : Int} {n m : Nat} (h : wl a ≤ n) (h' : wl b ≤ m) : wl (a - b) ≤ n + m + 1 := by
  have := wl_add h (show wl (-b) ≤ m by rw [wl_neg]; exact h')
  exact this
theorem wl_mul {a b : Int} {n m : Nat} (h : wl a ≤ n) (h' : wl b ≤ m) : wl (a * b) ≤ n + m := by
  unfold wl at *
  rw [Int.natAbs_mul]; exact blen_mul_le h h'
theorem wl_neg' {a : Int} {n : Nat} (h : wl a ≤ n) : wl (-a) ≤ n := by rw [wl_neg]; exact h
theorem wl_qZ {a b : Int} {n : Nat} (h : wl a ≤ n) : wl (qZ a b) ≤ n + 1 := by
  unfold qZ wl at *
  rw [sg_abs]
  have hq := blen_le_of (Nat.div_le_self a.natAbs b.natAbs) h
  split
  · rw [blen_le_iff] at *
    have : 2 ^ n * 2 = 2 ^ (n + 1) := (Nat.pow_succ 2 n).symm
    have := Nat.one_le_two_pow (n := n)
    omega
  · omega
theorem wl_rZ {a b : Int} {n : Nat} (h : wl b ≤ n) (h0 : b ≠ 0) : wl ((rZ a b : Nat) : Int) ≤ n := by
  unfold rZ wl at *
  rw [Int.natAbs_natCast]
  have := Nat.mod_lt a.natAbs (show 0 < b.natAbs by omega)
  split
  · exact blen_le_of (Nat.sub_le _ _) h
  · exact blen_le_of (Nat.le_of_lt this) h
theorem itS_len {z : Int} {n : Nat} (h : wl z ≤ n) : (bl (itS z)).length ≤ n + 2 := by
  rw [bl_itS]
  have := decL_len z.natAbs
  unfold wl at h
  split <;> simp <;> omega

end Go.Proofs.YtjnhekedclcbfaaDoor.AM
/- Fractions: plain facts. -/

namespace Go.Proofs.YtjnhekedclcbfaaDoor.AM
set_option linter.all false
set_option autoImplicit true
set_option relaxedAutoImplicit true
open Go Go.Proofs
set_option maxRecDepth 100000

/-- How long a fraction's numbers are. -/
def fl (q : Rat) : Nat := max (wl q.num) (blen q.den)
theorem fl_le {q : Rat} {n : Nat} : fl q ≤ n ↔ wl q.num ≤ n ∧ blen q.den ≤ n := by unfold fl; exact Nat.max_le
theorem mk_num {z : Int} {d : Nat} (hd : 0 < d) : (mkRat z d).num = sg (decide (z < 0)) (z.natAbs / Nat.gcd z.natAbs d) := by
  rw [Rat.num_mkRat, if_neg (by omega), Nat.gcd_comm d]
  have hg : 0 < Nat.gcd z.natAbs d := Nat.gcd_pos_of_pos_right _ hd
  have e := Nat.div_mul_cancel (Nat.gcd_dvd_left z.natAbs d)
  refine Int.ediv_eq_of_eq_mul_left (by omega) ?_
  have hz := sg_of z
  by_cases h : z < 0
  · rw [decide_eq_true h, sg_t] at *
    rw [Int.neg_mul, ← Int.natCast_mul, e]; exact hz.symm
  · rw [decide_eq_false h, sg_f] at *
    rw [← Int.natCast_mul, e]; exact hz.symm
theorem mk_den {z : Int} {d : Nat} (hd : 0 < d) : (mkRat z d).den = d / Nat.gcd z.natAbs d := by
  rw [Rat.den_mkRat, if_neg (by omega), Nat.gcd_comm]
theorem mk_one (z : Int) : (mkRat z 1).num = z ∧ (mkRat z 1).den = 1 := by
  rw [mk_num (by decide), mk_den (by decide), Nat.gcd_one_right, Nat.div_one]
  exact ⟨sg_of z, rfl⟩
theorem mk_int (z : Int) : mkRat z 1 = (z : Rat) := by
  apply Rat.ext
  · rw [(mk_one z).1]; rfl
  · rw [(mk_one z).2]; rfl
theorem fl_mk {z : Int} {d n : Nat} (hz : wl z ≤ n) (hd : blen d ≤ n) (h0 : 0 < d) : fl (mkRat z d) ≤ n := by
  rw [fl_le, mk_num h0, mk_den h0]
  refine ⟨?_, blen_le_of (Nat.div_le_self _ _) hd⟩
  unfold wl; rw [sg_abs]; exact blen_le_of (Nat.div_le_self _ _) hz
theorem den_pos (q : Rat) : 0 < q.den := q.den_pos
theorem den_eq (q : Rat) : q.den - 1 + 1 = q.den := by have := q.den_pos; omega
theorem q_self (q : Rat) : mkRat q.num q.den = q := Rat.mkRat_self q
theorem q_gcd (q : Rat) : Nat.gcd q.num.natAbs q.den = 1 := q.reduced
theorem add_mk (a b : Rat) : a + b = mkRat (a.num * b.den + b.num * a.den) (a.den * b.den) := by rw [Rat.add_def, Rat.normalize_eq_mkRat]
theorem sub_mk (a b : Rat) : a - b = mkRat (a.num * b.den - b.num * a.den) (a.den * b.den) := by rw [Rat.sub_def, Rat.normalize_eq_mkRat]
theorem mul_mk (a b : Rat) : a * b = mkRat (a.num * b.num) (a.den * b.den) := by rw [Rat.mul_def, Rat.normalize_eq_mkRat]
theorem neg_nd (a : Rat) : (-a).num = -a.num ∧ (-a).den = a.den := ⟨rfl, rfl⟩
/-- Divided: by the sign and the size of the numerator. -/
theorem div_mk {a b : Rat} (hb : b.num ≠ 0) : a / b = mkRat (a.num * sgnZ b.num * b.den) (a.den * b.num.natAbs) := by
  have hb0 : b ≠ 0 := fun h => hb (by rw [h]; rfl)
  have hd : a.den * b.num.natAbs ≠ 0 := Nat.mul_ne_zero a.den_nz (by omega)
  have e : a / b * b = a := Rat.div_mul_cancel hb0
  have key : mkRat (a.num * sgnZ b.num * b.den) (a.den * b.num.natAbs) * b = a := by
    have hs : sgnZ b.num * b.num = (b.num.natAbs : Int) := by
      rcases Int.lt_trichotomy b.num 0 with h | h | h
      · rw [show sgnZ b.num = -1 by unfold sgnZ; rw [if_neg (by omega), if_pos h]]; omega
      · exact absurd h hb
      · rw [show sgnZ b.num = 1 by unfold sgnZ; rw [if_neg (by omega), if_neg (by omega)]]; omega
    conv => lhs; rhs; rw [← q_self b]
    conv => rhs; rw [← q_self a]
    rw [Rat.mkRat_mul_mkRat, Rat.mkRat_eq_iff (Nat.mul_ne_zero hd b.den_nz) a.den_nz]
    have : a.num * sgnZ b.num * ↑b.den * b.num * (a.den : Int) = a.num * (sgnZ b.num * b.num) * ↑b.den * ↑a.den := by grind
    rw [this, hs, Int.natCast_mul, Int.natCast_mul]; grind
  have h2 : a / b * b = mkRat (a.num * sgnZ b.num * b.den) (a.den * b.num.natAbs) * b := by rw [e, key]
  generalize mkRat (a.num * sgnZ b.num * b.den) (a.den * b.num.natAbs) = c at *
  generalize a / b = d at *
  have h3 : (d - c) * b = 0 := by grind
  rcases Rat.mul_eq_zero.1 h3 with h | h
  · grind
  · exact absurd h hb0
def cmpQ (a b : Rat) : Int := if a < b then -1 else if b < a then 1 else 0
theorem cmpQ_mk (a b : Rat) : cmpQ a b = cmpZ (a.num * b.den) (b.num * a.den) := by
  unfold cmpQ cmpZ
  simp only [Rat.lt_iff]
theorem sgn_cmp (q : Rat) : sgnZ q.num = cmpQ q 0 := by
  rw [cmpQ_mk]
  show _ = cmpZ (q.num * 1) (0 * q.den)
  rw [Int.mul_one, Int.zero_mul]
  unfold sgnZ cmpZ; repeat' split
  all_goals first | rfl | omega
theorem cmpQ_sub (a b : Rat) : sgnZ (a - b).num = cmpQ a b := by
  rw [sgn_cmp]; unfold cmpQ
  by_cases h1 : a < b
  · rw [if_pos h1, if_pos (by grind)]
  · rw [if_neg h1, if_neg (by grind)]
    by_cases h2 : b < a
    · rw [if_pos h2, if_pos (by grind)]
    · rw [if_neg h2, if_neg (by grind)]
theorem num_zero {q : Rat} : q.num = 0 ↔ q = 0 := Rat.num_eq_zero
theorem wl_add2 {a b : Int} {n : Nat} (h : wl a ≤ n) (h' : wl b ≤ n) : wl (a + b) ≤ n + 1 := by
  unfold wl at *
  rw [blen_le_iff] at *
  have h1 : (a + b).natAbs ≤ a.natAbs + b.natAbs := Int.natAbs_add_le a b
  rw [Nat.pow_succ]; omega
theorem fl_add {a b : Rat} {n m : Nat} (h : fl a ≤ n) (h' : fl b ≤ m) : fl (a + b) ≤ n + m + 1 := by
  rw [fl_le] at h h'
  rw [add_mk]
  refine fl_mk ?_ ?_ (Nat.mul_pos a.den_pos b.den_pos)
  · have h1 := wl_mul h.1 (show wl (b.den : Int) ≤ m from h'.2)
    have h2 := wl_mul h'.1 (show wl (a.den : Int) ≤ n from h.2)
    exact wl_add2 h1 (Nat.le_trans h2 (by omega))
  · exact Nat.le_trans (blen_mul_le h.2 h'.2) (by omega)
theorem fl_neg {a : Rat} {n : Nat} (h : fl a ≤ n) : fl (-a) ≤ n := by
  rw [fl_le] at *
  exact ⟨by rw [(neg_nd a).1, wl_neg]; exact h.1, h.2⟩
theorem fl_sub {a b : Rat} {n m : Nat} (h : fl a ≤ n) (h' : fl b ≤ m) : fl (a - b) ≤ n + m + 1 := by
  rw [Rat.sub_eq_add_neg]; exact fl_add h (fl_neg h')
theorem fl_mul {a b : Rat} {n m : Nat} (h : fl a ≤ n) (h' : fl b ≤ m) : fl (a * b) ≤ n + m := by
  rw [fl_le] at h h'
  rw [mul_mk]
  exact fl_mk (wl_mul h.1 h'.1) (blen_mul_le h.2 h'.2) (Nat.mul_pos a.den_pos b.den_pos)
theorem wl_sgn (z : Int) : wl (sgnZ z) ≤ 1 := by
  unfold sgnZ
  split
  · exact Nat.le_of_ble_eq_true rfl
  · split <;> exact Nat.le_of_ble_eq_true rfl
theorem fl_div {a b : Rat} {n m : Nat} (h : fl a ≤ n) (h' : fl b ≤ m) : fl (a / b) ≤ n + m + 1 := by
  rw [fl_le] at h h'
  by_cases hb : b.num = 0
  · rw [num_zero.1 hb, Rat.div_def, Rat.inv_zero, Rat.mul_zero]
    exact fl_le.2 ⟨Nat.le_trans (Nat.le_of_ble_eq_true rfl : wl (0 : Rat).num ≤ 0) (by omega), Nat.le_trans (Nat.le_of_ble_eq_true rfl : blen (0 : Rat).den ≤ 1) (by omega)⟩
  · rw [div_mk hb]
    refine fl_mk ?_ ?_ (Nat.mul_pos a.den_pos (by omega))
    · exact Nat.le_trans (wl_mul (wl_mul h.1 (wl_sgn _)) (show wl (b.den : Int) ≤ m from h'.2)) (by omega)
    · exact Nat.le_trans (blen_mul_le h.2 h'.1) (by omega)
theorem fl_int {z : Int} {n : Nat} (h : wl z ≤ n) (hn : 1 ≤ n) : fl (z : Rat) ≤ n := fl_le.2 ⟨h, Nat.le_trans (Nat.le_of_ble_eq_true rfl : blen 1 ≤ 1) hn⟩

/-- Sums and the like, such that nothing unfolds them. -/
theorem qo_ex : ∃ x : (Rat → Rat → Rat) × (Rat → Rat → Rat) × (Rat → Rat → Rat) × (Rat → Rat → Rat) × (Int → Nat → Rat) × (Rat → Rat), x = ((· + ·), (· - ·), (· * ·), (· / ·), mkRat, (- ·)) := ⟨_, rfl⟩
noncomputable def qo : (Rat → Rat → Rat) × (Rat → Rat → Rat) × (Rat → Rat → Rat) × (Rat → Rat → Rat) × (Int → Nat → Rat) × (Rat → Rat) := Classical.choose qo_ex
theorem qo_eq : qo = ((· + ·), (· - ·), (· * ·), (· / ·), mkRat, (- ·)) := Classical.choose_spec qo_ex
noncomputable def qadd (a b : Rat) : Rat := qo.1 a b
noncomputable def qsub (a b : Rat) : Rat := qo.2.1 a b
noncomputable def qmul (a b : Rat) : Rat := qo.2.2.1 a b
noncomputable def qdiv (a b : Rat) : Rat := qo.2.2.2.1 a b
noncomputable def qlow (z : Int) (d : Nat) : Rat := qo.2.2.2.2.1 z d
noncomputable def qneg (a : Rat) : Rat := qo.2.2.2.2.2 a
theorem qadd_eq (a b) : qadd a b = a + b := by unfold qadd; rw [qo_eq]
theorem qsub_eq (a b) : qsub a b = a - b := by unfold qsub; rw [qo_eq]
theorem qmul_eq (a b) : qmul a b = a * b := by unfold qmul; rw [qo_eq]
theorem qdiv_eq (a b) : qdiv a b = a / b := by unfold qdiv; rw [qo_eq]
theorem qlow_eq (z d) : qlow z d = mkRat z d := by unfold qlow; rw [qo_eq]
theorem qneg_eq (a) : qneg a = -a := by unfold qneg; rw [qo_eq]
theorem fl_qadd {a b : Rat} {n m : Nat} (h : fl a ≤ n) (h' : fl b ≤ m) : fl (qadd a b) ≤ n + m + 1 := qadd_eq a b ▸ fl_add h h'
theorem fl_qsub {a b : Rat} {n m : Nat} (h : fl a ≤ n) (h' : fl b ≤ m) : fl (qsub a b) ≤ n + m + 1 := qsub_eq a b ▸ fl_sub h h'
theorem fl_qmul {a b : Rat} {n m : Nat} (h : fl a ≤ n) (h' : fl b ≤ m) : fl (qmul a b) ≤ n + m := qmul_eq a b ▸ fl_mul h h'
theorem fl_qdiv {a b : Rat} {n m : Nat} (h : fl a ≤ n) (h' : fl b ≤ m) : fl (qdiv a b) ≤ n + m + 1 := qdiv_eq a b ▸ fl_div h h'
theorem fl_qneg {a : Rat} {n : Nat} (h : fl a ≤ n) : fl (qneg a) ≤ n := qneg_eq a ▸ fl_neg h

/-- The text of a fraction. -/
def qtS (q : Rat) : ByteArray := if q.den = 1 then itS q.num else itS q.num ++ ⟨#[47]⟩ ++ decS q.den
end Go.Proofs.YtjnhekedclcbfaaDoor.AM
