/- Package nat: quotients and rests. -/
import Derived.Test.YtbfapomdnocbaaaGreatDoorB4
namespace Go.Proofs.YtbfapomdnocbaaaGreatDoor.AM
set_option linter.all false
set_option autoImplicit true
set_option relaxedAutoImplicit true
open Go Go.Proofs
set_option maxRecDepth 100000
set_option maxHeartbeats 8000000
set_option linter.unusedSimpArgs false
variable {P : Program}
def longC (n m : Nat) (a b : List Nat) : Prop := n = a.length ∧ m = b.length ∧ (∀ d ∈ a, d < 18446744073709551616) ∧ (∀ d ∈ b, d < 18446744073709551616) ∧ 2 ≤ b.length ∧ b.length ≤ a.length ∧ a.length + 1 ≤ 1099511627776 ∧ b.getD (b.length - 1) 0 ≠ 0
noncomputable def longS : List AV → Option (Prop × AV)
 | [.imm n xs, .imm m ys] => some ((xs = (List.map (fun d : Nat => AV.int .u64 (d : Int)) (xs.map ud)) ∧ ys = (List.map (fun d : Nat => AV.int .u64 (d : Int)) (ys.map ud))) ∧ longC n m (xs.map ud) (ys.map ud), .tup [(.agg [.opq (.nat (dOf 18446744073709551616 (xs.map ud) / dOf 18446744073709551616 (ys.map ud))), .pad]), (.agg [.opq (.nat (dOf 18446744073709551616 (xs.map ud) % dOf 18446744073709551616 (ys.map ud))), .pad])])
 | _ => none
theorem longS_ok (hP : PrgOk P) (args p r) (h : longS args = some (p, r)) (hp : p) : CSpec P 126 args r := by
 unfold longS at h
 split at h
 · simp only [Option.some.injEq, Prod.mk.injEq] at h
   obtain ⟨rfl, rfl⟩ := h
   exact (by rename_i n xs m ys; obtain ⟨⟨a1, a2⟩, b1, b2, b3, b4, b5, b6, b7, b8⟩ := hp; have := long_spec hP _ _ b3 b4 b5 b6 b7 b8; rw [← a1, ← a2, ← b1, ← b2] at this; exact this)
 · simp at h
attribute [go_sem] longS
noncomputable def Se : Nat → List AV → Option (Prop × AV) := addS Sd 126 longS
theorem Se_ok (hP : PrgOk P) : EnvOk P ⟨T0, Se⟩ := ((Sd_ok hP).add (longS_ok hP))
theorem Se_at (f a) : Se f a = (addS Sd 126 longS) f a := rfl
attribute [go_sem] Se_at
theorem Div_zero (hP : PrgOk P) (a : Nat) : CSpec P 79 [(.agg [.opq (.nat (a)), .pad]), (.agg [.opq (.nat (0)), .pad])] (.tup [(.agg [.opq (.nat (0)), .pad]), (.agg [.opq (.nat (0)), .pad]), .int .i64 11]) := by
 have HE := Se_ok hP
 have hb : blen 0 ≤ 68719476736 := by decide
 have hb2 : blen 0 = 0 := by decide
 have e0 : natC 0 = [.int .u64 0, .nils] := natC_small (by decide)
 have e : CvL [.agg [.int .u64 0, .nils], .agg [.int .u64 0, .nils], .int .i64 11] [(.agg [.opq (.nat (0)), .pad]), (.agg [.opq (.nat (0)), .pad]), .int .i64 11] := by
  have := CvL.natOut 0 (CvL.natOut 0 (CvL.refl [.int .i64 11]))
  rwa [e0] at this
 refine CSpec_go (E := ⟨T0, Se⟩) (fn79 hP) HE hP.mix ?_
 simp only [go_sem, hb, hb2]
 exact CvL.conv (CvL.tup e .nil)
theorem Div_less (hP : PrgOk P) (a b : Nat) (ha : blen a ≤ 68719476736) (hb : blen b ≤ 68719476736) (h : a < b) : CSpec P 79 [(.agg [.opq (.nat (a)), .pad]), (.agg [.opq (.nat (b)), .pad])] (.tup [(.agg [.opq (.nat (0)), .pad]), (.agg [.opq (.nat (a)), .pad]), .int .i64 0]) := by
 have HE := Se_ok hP
 have hb2 : (blen b == 0) = false := by
  have : blen b ≠ 0 := by rw [Ne, blen_zero_iff]; omega
  simpa using this
 have hc : decide (cmpI a b < 0) = true := by rw [cmpI_lt h]; rfl
 have e0 : natC 0 = [.int .u64 0, .nils] := natC_small (by decide)
 have e : CvL [.agg [.int .u64 0, .nils], (.agg [.opq (.nat (a)), .pad]), .int .i64 0] [(.agg [.opq (.nat (0)), .pad]), (.agg [.opq (.nat (a)), .pad]), .int .i64 0] := by
  have := CvL.natOut 0 (CvL.refl [(.agg [.opq (.nat (a)), .pad]), .int .i64 0])
  rwa [e0] at this
 refine CSpec_go (E := ⟨T0, Se⟩) (fn79 hP) HE hP.mix ?_
 simp only [go_sem, ha, hb, hb2, hc]
 exact CvL.conv (CvL.tup e .nil)
theorem cmp_ge {a b : Nat} (h : b ≤ a) : decide (cmpI a b < 0) = false := by
 rcases Nat.lt_or_ge b a with h' | h'
 · rw [cmpI_gt h']; rfl
 · rw [Nat.le_antisymm h h', cmpI_eq]; rfl
theorem divmod_of {W A y c : Nat} (h : W * y + c = A) (hc : c < y) : W = A / y ∧ c = A % y := by
 have h1 : A / y = W := by rw [← h, Nat.mul_comm, Nat.mul_add_div (by omega), Nat.div_eq_of_lt hc, Nat.add_zero]
 have h2 : A % y = c := by rw [← h, Nat.mul_comm, Nat.mul_add_mod, Nat.mod_eq_of_lt hc]
 exact ⟨h1.symm, h2.symm⟩
theorem Div_pos (hP : PrgOk P) (a b : Nat) (ha : blen a ≤ 68719476736) (hb : blen b ≤ 68719476736) (h0 : 0 < b) (h : b ≤ a) : CSpec P 79 [(.agg [.opq (.nat (a)), .pad]), (.agg [.opq (.nat (b)), .pad])] (.tup [(.agg [.opq (.nat (a / b)), .pad]), (.agg [.opq (.nat (a % b)), .pad]), .int .i64 0]) := by
 have HE := Se_ok hP
 have hb2 : (blen b == 0) = false := by
  have : blen b ≠ 0 := by rw [Ne, blen_zero_iff]; omega
  simpa using this
 have hc := cmp_ge h
 refine CSpec.cv ?_ (CvL.natIn a (CvL.natIn b .nil))
 by_cases hb1 : b < 18446744073709551616
 · by_cases ha1 : a < 18446744073709551616
   · rw [natC_small ha1, natC_small hb1]
     have hq := wu_div a b ha1
     have hr := u_mod a b
     have hqb : a / b < 18446744073709551616 := Nat.lt_of_le_of_lt (Nat.div_le_self _ _) ha1
     have hrb : a % b < 18446744073709551616 := Nat.lt_of_le_of_lt (Nat.mod_le _ _) ha1
     have e : CvL [.agg [.int .u64 ((a / b : Nat) : Int), .nils], .agg [.int .u64 ((a % b : Nat) : Int), .nils], .int .i64 0] [(.agg [.opq (.nat (a / b)), .pad]), (.agg [.opq (.nat (a % b)), .pad]), .int .i64 0] := by
      have := CvL.natOut (a / b) (CvL.natOut (a % b) (CvL.refl [.int .i64 0]))
      rwa [natC_small hqb, natC_small hrb] at this
     refine CSpec_go (E := ⟨T0, Se⟩) (fn79 hP) HE hP.mix ?_
     simp only [go_sem, ha, hb, ha1, hb1, hb2, hc, hq, hr]
     exact ⟨by omega, by omega, CvL.conv (CvL.tup e .nil)⟩
   · rw [natC_great ha1, natC_small hb1]
     have hxd : ∀ d ∈ digs 18446744073709551616 a, d < 18446744073709551616 := digs_lt 18446744073709551616 a (by decide)
     have hx := dOf_digs 18446744073709551616 a (by decide)
     have hlx := digs_len_blen a
     have hl := digs_length_gt 18446744073709551616 a 1 (by decide) (by omega)
     have hl2 : 2 ≤ (digs 18446744073709551616 a).length := by omega
     have hl3 : ((digs 18446744073709551616 a).length ≠ 0) = True := eq_true (by omega)
     refine CSpec_go (E := ⟨T0, Se⟩) (fn79 hP) HE hP.mix ?_
     simp only [go_sem, ha, hb, hb1, hb2, hc, hl2, hl3]
     generalize digs 18446744073709551616 a = x at *
     refine ⟨⟨fun _ => by omega, by omega⟩, ?_⟩
     refine short_ic hP (L := [24, 3, 2, 1, 0]) (tail := []) (w := x) (by repeat (first | exact GenM.nil | refine GenM.upd ?_ rfl (by first | rfl | exact objOnly_U | (simp only [go_sem, objOnly]; done)))) rfl (by rw [List.append_nil]; rfl) rfl (by omega) hxd hb1 h0 ?_
     intro nx w' c w1 w2 w3 w4
     have hwt : w'.take x.length = w' := List.take_of_length_le (by omega)
     have hz3 : (∀ d ∈ w', d < 18446744073709551616) = True := eq_true w2
     have hsl : x.length < 4611686018427387904 := by omega
     rw [List.append_nil]
     simp only [go_sem, hwt, hz3, w1, hsl]
     have hdm := divmod_of w4 w3
     rw [hx] at hdm
     have e : CvL [(.agg [.opq (.nat (dOf 18446744073709551616 w')), .pad]), .agg [.int .u64 ((c : Nat) : Int), .nils], .int .i64 0] [(.agg [.opq (.nat (a / b)), .pad]), (.agg [.opq (.nat (a % b)), .pad]), .int .i64 0] := by
      have := CvL.natOut c (CvL.refl [.int .i64 0])
      rw [natC_small (show c < 18446744073709551616 by omega)] at this
      rw [← hdm.2, hdm.1]
      exact CvL.agg (.refl _) this
     exact CvL.conv (CvL.tup e .nil)
 · have ha1 : ¬ a < 18446744073709551616 := by omega
   rw [natC_great ha1, natC_great hb1]
   have hxd : ∀ d ∈ digs 18446744073709551616 a, d < 18446744073709551616 := digs_lt 18446744073709551616 a (by decide)
   have hyd : ∀ d ∈ digs 18446744073709551616 b, d < 18446744073709551616 := digs_lt 18446744073709551616 b (by decide)
   have hx := dOf_digs 18446744073709551616 a (by decide)
   have hy := dOf_digs 18446744073709551616 b (by decide)
   have hlx := digs_len_blen a
   have hl := digs_length_gt 18446744073709551616 a 1 (by decide) (by omega)
   have hm := digs_length_gt 18446744073709551616 b 1 (by decide) (by omega)
   have hl2 : 2 ≤ (digs 18446744073709551616 a).length := by omega
   have hl3 : ((digs 18446744073709551616 a).length ≠ 0) = True := eq_true (by omega)
   have hm2 : 2 ≤ (digs 18446744073709551616 b).length := by omega
   have hm3 : ((digs 18446744073709551616 b).length ≠ 0) = True := eq_true (by omega)
   have hle : (digs 18446744073709551616 b).length ≤ (digs 18446744073709551616 a).length := by
    rcases Nat.lt_or_ge (digs 18446744073709551616 a).length (digs 18446744073709551616 b).length with h' | h'
    · have := digs_len_lt 18446744073709551616 a b (by decide) h'; omega
    · exact h'
   have htop := canon_last (digs_canon 18446744073709551616 b (by decide)) (by omega)
   refine CSpec_go (E := ⟨T0, Se⟩) (fn79 hP) HE hP.mix ?_
   simp only [go_sem, ha, hb, hb2, hc, hl2, hl3, hm2, hm3]
   refine ⟨⟨rfl, rfl, hxd, hyd, hm2, hle, by omega, htop⟩, ?_⟩
   exact .refl _
theorem Div_spec (hP : PrgOk P) (a b : Nat) (ha : blen a ≤ 68719476736) (hb : blen b ≤ 68719476736) (h0 : 0 < b) : CSpec P 79 [(.agg [.opq (.nat (a)), .pad]), (.agg [.opq (.nat (b)), .pad])] (.tup [(.agg [.opq (.nat (a / b)), .pad]), (.agg [.opq (.nat (a % b)), .pad]), .int .i64 0]) := by
 rcases Nat.lt_or_ge a b with h | h
 · rw [Nat.div_eq_of_lt h, Nat.mod_eq_of_lt h]; exact Div_less hP a b ha hb h
 · exact Div_pos hP a b ha hb h0 h
def DivS : List AV → Option (Prop × AV) := on2 fun a b => (blen a ≤ 68719476736 ∧ blen b ≤ 68719476736, if b = 0 then .tup [(.agg [.opq (.nat (0)), .pad]), (.agg [.opq (.nat (0)), .pad]), .int .i64 11] else .tup [(.agg [.opq (.nat (a / b)), .pad]), (.agg [.opq (.nat (a % b)), .pad]), .int .i64 0])
theorem DivS_ok (hP : PrgOk P) (args p r) : DivS args = some (p, r) → p → CSpec P 79 args r := on2_ok (fun a b h => by
 by_cases hb : b = 0
 · subst hb; simp only [if_pos]; exact Div_zero hP a
 · simp only [if_neg hb]; exact Div_spec hP a b h.1 h.2 (by omega)) args p r
attribute [go_sem] DivS
end Go.Proofs.YtbfapomdnocbaaaGreatDoor.AM
/- Loops whose objects change their numbers. -/
namespace Go.Proofs.YtbfapomdnocbaaaGreatDoor.AM
set_option linter.all false
set_option autoImplicit true
set_option relaxedAutoImplicit true
open Go Go.Proofs
set_option maxRecDepth 100000
set_option linter.unusedSimpArgs false
section
variable {P : Program} {E : Env} {s : St} {Q : Exit → Nat → St → Prop} {nx : Nat} {tr : TriT} {ic : ICallT}
def loopV {α : Type} (LL : α → List Nat) (F : α → St) (I : α → Prop) (μ : α → Nat) (n : Nat) (Q : Exit → Nat → St → Prop) : Exit → Nat → St → Prop
 | .normal, _, s => ∃ x, Kept (LL x) s (F x) ∧ I x ∧ μ x < n
 | e, nx, s => Q e nx s
theorem Tri_loopV {α : Type} {c : Code} (LL : α → List Nat) (F : α → St) (I : α → Prop) (μ : α → Nat) (x0 : α) (hL : ∀ x r, s.m r ≠ .unused → (LL x).contains r = true) (h0 : Kept (LL x0) s (F x0)) (i0 : I x0)
 (hr : ∀ x, I x → Tri P c (loopV LL F I μ (μ x) Q) (F x)) : Tri P (.loop c) Q s := by
 intro X φ a w R
 have hφ : ∀ r, s.m r = .unused → φ r = none := fun r h => R.mem.unused h
 let p : Act → World → Nat → Prop := fun a' w' k => ∃ x φ1, I x ∧ μ x = k ∧ Rel X φ1 (F x) a' w' ∧ Stp X φ s.m w φ1 (F x).m w'
 obtain ⟨φ0, r0, st0⟩ := kept_rel R h0 (.refl _ _ _ _) (hL x0) hφ
 refine wp_loop (fun a' w' => ∃ k, p a' w' k) (fun a' w' => leastOf (p a' w')) ⟨_, x0, φ0, i0, rfl, r0, st0⟩ fun a' w' hI => ?_
 obtain ⟨⟨x, φ1, i1, hk, r1, st1⟩, _⟩ := leastOf_spec hI
 refine Code.wp_mono ?_ (hr x i1 X φ1 a' w' r1)
 rintro e a2 w2 ⟨nx, s2, φ2, q, r2, st2⟩
 cases e with
 | normal =>
   obtain ⟨x3, k3, i3, hlt⟩ := q
   obtain ⟨φ3, r3, st3⟩ := kept_rel r2 k3 (st1.trans st2) (hL x3) hφ
   have hp : p a2 w2 (μ x3) := ⟨x3, φ3, i3, rfl, r3, st3⟩
   refine ⟨⟨_, hp⟩, ?_⟩
   have := (leastOf_spec ⟨_, hp⟩).2 _ hp
   omega
 | _ => exact ⟨nx, s2, φ2, q, r2, st1.trans st2⟩
theorem q_loopV_normal {α : Type} (LL : α → List Nat) (F : α → St) (I : α → Prop) (μ : α → Nat) (n) : qX .normal nx s (Q := ⟨loopV LL F I μ n Q⟩) = ∃ x, Kept (LL x) s (F x) ∧ I x ∧ μ x < n := rfl
theorem q_loopV_exit {α : Type} (LL : α → List Nat) (F : α → St) (I : α → Prop) (μ : α → Nat) (n i) : qX (.exit i) nx s (Q := ⟨loopV LL F I μ n Q⟩) = qX (.exit i) nx s (Q := ⟨Q⟩) := rfl
theorem q_loopV_ret {α : Type} (LL : α → List Nat) (F : α → St) (I : α → Prop) (μ : α → Nat) (n) : qX .ret nx s (Q := ⟨loopV LL F I μ n Q⟩) = qX .ret nx s (Q := ⟨Q⟩) := rfl
theorem trX_loopV {α : Type} {c : Code} (HE : EnvOk P E) (hmix : P.follows .mixedOrders = true) (LL : α → List Nat) (F : α → St) (I : α → Prop) (μ : α → Nat) (x0 : α) (nx0 : α → Nat) (hL : ∀ x r, s.m r ≠ .unused → (LL x).contains r = true) (h0 : Kept (LL x0) s (F x0)) (i0 : I x0) (N : Nat) (hN : regsOk N c = true)
 (hr : ∀ x, I x → vcX (Tri P) (ICall P) E N c (nx0 x) (F x) (Q := ⟨loopV LL F I μ (μ x) Q⟩)) : trX (Tri P) (.loop c) s (Q := ⟨Q⟩) :=
 Tri_loopV LL F I μ x0 hL h0 i0 fun x ix => vc_sound HE hmix N c _ (nx0 x) _ hN (hr x ix)
def CvM (m m' : Nat → AObj) : Prop := ∀ r, m' r = m r ∨ ∃ cs cs', m r = .live cs ∧ m' r = .live cs' ∧ CvL cs cs' ∧ cs'.length = cs.length ∧ cs'.all AV.ck = true
theorem CvM.refl (m) : CvM m m := fun _ => .inl rfl
theorem CvM.upd {m m' : Nat → AObj} (h : CvM m m') {r : Nat} {cs cs' : List AV} (hc : CvL cs cs') (hl : cs'.length = cs.length) (hk : cs'.all AV.ck = true) : CvM (AM.upd m r (.live cs)) (AM.upd m' r (.live cs')) := fun q => by
 unfold AM.upd; split
 · exact .inr ⟨cs, cs', rfl, rfl, hc, hl, hk⟩
 · exact h q
theorem CvM.same {m m' : Nat → AObj} (h : CvM m m') (r : Nat) (o : AObj) : CvM (AM.upd m r o) (AM.upd m' r o) := fun q => by
 unfold AM.upd; split
 · exact .inl rfl
 · exact h q
theorem CvM.wr {m m' : Nat → AObj} (h : CvM m m') (X φ) : Wr X φ m' = Wr X φ m := by
 funext b
 simp only [Wr, eq_iff_iff]
 refine or_congr Iff.rfl ⟨?_, ?_⟩
 · rintro ⟨r, cs, h1, h2⟩
   rcases h r with h3 | ⟨c1, c2, h3, _⟩
   · exact ⟨r, cs, h1, by rw [← h3]; exact h2⟩
   · exact ⟨r, c1, h1, h3⟩
 · rintro ⟨r, cs, h1, h2⟩
   rcases h r with h3 | ⟨c1, c2, _, h3, _⟩
   · exact ⟨r, cs, h1, by rw [h3]; exact h2⟩
   · exact ⟨r, c2, h1, h3⟩
theorem CvM.rel {m m' : Nat → AObj} (h : CvM m m') {X φ t n a w} (R : Rel X φ ⟨t, m, n⟩ a w) : Rel X φ ⟨t, m', n⟩ a w := by
 have hW := h.wr X φ
 refine ⟨fun i hi => ?_, R.df, R.n, ⟨fun r => ?_, R.mem.inj, R.mem.ext, R.mem.xlt⟩⟩
 · rw [hW]; exact R.tm i hi
 · have := R.mem.obj r
   simp only [] at this ⊢
   rw [hW]
   rcases h r with h3 | ⟨cs, cs', h1, h2, h3, h4, h5⟩
   · rw [h3]; exact this
   · rw [h1] at this; rw [h2]
     obtain ⟨b, hb, c, e, k1, k2, k3, k4⟩ := this
     exact ⟨b, hb, c, e, k1, by rw [h4]; exact k2, by rw [h4]; exact h3 _ _ _ _ k3, h5⟩
theorem Tri_cv {c : Code} {t : Nat → AV} {m m' : Nat → AObj} {n : Nat} (h : CvM m m') (k : Tri P c Q ⟨t, m', n⟩) : Tri P c Q ⟨t, m, n⟩ := by
 intro X φ a w R
 refine Code.wp_mono ?_ (k X φ a w (h.rel R))
 rintro e a2 w2 ⟨nx, s2, φ2, q, r2, st2⟩
 have hW := h.wr X φ
 refine ⟨nx, s2, φ2, q, r2, ?_⟩
 obtain ⟨e1, f1⟩ := st2
 simp only [] at e1
 rw [hW] at e1
 exact ⟨e1, f1⟩
theorem Tri_vcX {c : Code} (HE : EnvOk P E) (hmix : P.follows .mixedOrders = true) (N nx : Nat) (hN : regsOk N c = true) (h : vcX (Tri P) (ICall P) E N c nx s (Q := ⟨Q⟩)) : Tri P c Q s := vc_sound HE hmix N c _ nx _ hN h
theorem trX_loopT {α : Type} {c : Code} (L : List Nat) (F : α → St) (I : α → Prop) (μ : α → Nat) (x0 : α) (hL : ∀ r, s.m r ≠ .unused → L.contains r = true) (h0 : Kept L s (F x0)) (i0 : I x0)
 (hr : ∀ x, I x → Tri P c (loopR L F I μ (μ x) Q) (F x)) : trX (Tri P) (.loop c) s (Q := ⟨Q⟩) := Tri_loopR L F I μ x0 hL h0 i0 hr
end
attribute [go_sem] q_loopV_normal q_loopV_exit q_loopV_ret
end Go.Proofs.YtbfapomdnocbaaaGreatDoor.AM
/- Package nat: the greatest divisor. -/
namespace Go.Proofs.YtbfapomdnocbaaaGreatDoor.AM
set_option linter.all false
set_option autoImplicit true
set_option relaxedAutoImplicit true
open Go Go.Proofs
set_option maxRecDepth 100000
set_option maxHeartbeats 8000000
set_option linter.unusedSimpArgs false
variable {P : Program}
noncomputable def Sf : Nat → List AV → Option (Prop × AV) := addS (addS Se 79 DivS) 137 SubS
theorem Sf_ok (hP : PrgOk P) : EnvOk P ⟨T0, Sf⟩ := (((Se_ok hP).add (DivS_ok hP)).add (SubS_ok hP))
theorem Sf_at (f a) : Sf f a = (addS (addS Se 79 DivS) 137 SubS) f a := rfl
attribute [go_sem] Sf_at
theorem gcd_step (a b : Nat) : Nat.gcd a b = Nat.gcd b (a % b) := by rw [Nat.gcd_comm a b, Nat.gcd_rec b a, Nat.gcd_comm]
theorem natC_ck (a : Nat) : (natC a).all AV.ck = true := by
 by_cases h : a < 18446744073709551616
 · rw [natC_small h]; rfl
 · rw [natC_great h]; rfl
theorem natC_len (a : Nat) : (natC a).length = 2 := by
 by_cases h : a < 18446744073709551616
 · rw [natC_small h]; rfl
 · rw [natC_great h]; rfl
theorem natC_only (a : Nat) {f} : onlyL f (natC a) = true := by
 by_cases h : a < 18446744073709551616
 · rw [natC_small h]; rfl
 · rw [natC_great h]; simp only [onlyL, AV.only, Bool.true_and, Bool.and_true]; exact only_U
theorem CvL.un (a : Nat) : CvL [.opq (.nat a), .pad] (natC a) := by have := CvL.unnat a []; simpa using this
def cel : Bool → Nat → List AV
 | true, x => natC x
 | false, x => [.opq (.nat x), .pad]
theorem CvL.cel (f : Bool) (a : Nat) : CvL (cel f a) (natC a) := by
 cases f
 · exact CvL.un a
 · exact CvL.refl _
theorem CvL.lec (f : Bool) (a : Nat) : CvL (AM.cel f a) [.opq (.nat a), .pad] := by
 cases f
 · exact CvL.refl _
 · have := CvL.nat a [] rfl; simpa [AM.cel] using this
theorem cel_len (f : Bool) (a : Nat) : (cel f a).length = 2 := by
 cases f
 · rfl
 · exact natC_len a
theorem Gcd_spec (hP : PrgOk P) (a b : Nat) (ha : blen a ≤ 68719476736) (hb : blen b ≤ 68719476736) : CSpec P 80 [(.agg [.opq (.nat (a)), .pad]), (.agg [.opq (.nat (b)), .pad])] (.agg [.opq (.nat (Nat.gcd a b)), .pad]) := by
 have HE := Sf_ok hP
 refine CSpec_go (E := ⟨T0, Sf⟩) (fn80 hP) HE hP.mix ?_
 simp only [go_sem]
 refine trX_loopT [2, 1, 0] (fun q : Nat × Nat × Bool => ⟨upd (upd (upd (fun _ => .junk) 2 (.ref 0 0)) 3 (.ref 1 0)) 4 (.ref 2 0), upd (upd (upd (fun _ => .unused) 0 (.live (cel q.2.2 q.1))) 1 (.live [.opq (.nat q.2.1), .pad])) 2 (.live [.int .u64 0, .nils]), 43⟩)
  (fun q => blen q.1 ≤ 68719476736 ∧ blen q.2.1 ≤ 68719476736 ∧ Nat.gcd q.1 q.2.1 = Nat.gcd a b) (fun q => q.2.1) (a, b, false)
  Has.z (Kept.of rfl KT.z KM.z) ⟨ha, hb, rfl⟩ ?_
 rintro ⟨x, y, f⟩ ⟨h1, h2, h3⟩
 simp only [] at h1 h2 h3
 by_cases hy : y = 0
 · subst hy
   refine Tri_cv (m' := upd (upd (upd (fun _ => .unused) 0 (.live [.opq (.nat x), .pad])) 1 (.live [.opq (.nat 0), .pad])) 2 (.live [.int .u64 0, .nils])) ((((CvM.refl _).upd (CvL.lec f x) (cel_len f x).symm rfl).same _ _).same _ _) ?_
   refine Tri_vcX HE hP.mix 43 10 (by kernel_rfl) ?_
   have hb0 : blen 0 = 0 := by decide
   have hb1 : blen 0 ≤ 68719476736 := by decide
   simp only [go_sem, hb0, hb1]
   rw [Nat.gcd_zero_right] at h3
   rw [h3]; exact .refl _
 · have hyp : 0 < y := by omega
   have hbp : 0 < blen y := by
    have : blen y ≠ 0 := by rw [Ne, blen_zero_iff]; exact hy
    omega
   have hyz : (y = 0) = False := eq_false hy
   refine Tri_cv (m' := upd (upd (upd (fun _ => .unused) 0 (.live (natC x))) 1 (.live (natC y))) 2 (.live [.int .u64 0, .nils])) (((CvM.refl _).upd (CvL.cel f x) ((natC_len x).trans (cel_len f x).symm) (natC_ck x)).upd (CvL.un y) (natC_len y) (natC_ck y) |>.same _ _) ?_
   refine Tri_vcX HE hP.mix 43 10 (by kernel_rfl) ?_
   by_cases hxs : x < 18446744073709551616
   · by_cases hys : y < 18446744073709551616
     · rw [natC_small hxs, natC_small hys]
       simp only [go_sem, h2, hys, hbp]
       refine trX_loop HE hP.mix [2, 1, 0] (fun q : Nat × Nat => ⟨upd (upd (upd (fun _ => .junk) 4 (.ref 2 0)) 5 (.int .u64 (q.1 : Int))) 6 (.int .u64 (q.2 : Int)), upd (upd (upd (fun _ => .unused) 0 (.live [.int .u64 (x : Int), .nils])) 1 (.live [.int .u64 (y : Int), .nils])) 2 (.live [.int .u64 0, .nils]), 43⟩)
        (fun q => q.1 < 18446744073709551616 ∧ q.2 < 18446744073709551616 ∧ Nat.gcd q.1 q.2 = Nat.gcd a b) (fun q => q.2) (x, y) 10
        Has.z (Kept.of rfl KT.z KM.z) ⟨hxs, hys, h3⟩ 43 (by kernel_rfl) ?_
       rintro ⟨u, v⟩ ⟨k1, k2, k3⟩
       simp only [] at k1 k2 k3
       by_cases hv : 0 < v
       · have hm := u_mod u v
         have hml := Nat.mod_lt u hv
         simp only [go_sem, hv, hm]
         exact ⟨by omega, (v, u % v), Kept.of rfl KT.z KM.z, ⟨k2, by simp only []; omega, by simp only []; rw [← gcd_step]; exact k3⟩, by simp only []; omega⟩
       · have hv0 : v = 0 := by omega
         subst hv0
         simp only [go_sem, hv]
         rw [Nat.gcd_zero_right] at k3
         rw [← k3]
         exact Conv.nat1 k1
     · have hm2 := digs_length_gt 18446744073709551616 y 1 (by decide) (by omega)
       have hm2 : 2 ≤ (digs 18446744073709551616 y).length := by omega
       have hm3 : ((digs 18446744073709551616 y).length ≠ 0) = True := eq_true (by omega)
       rw [natC_small hxs, natC_great hys]
       simp only [go_sem, h1, h2, hm2, hm3, hxs, hbp, hyz]
       rw [← natC_great hys]
       have hml := Nat.mod_lt x hyp
       have hcl : objOnly [2, 1, 0] (.live (natC y)) = true := by simp only [objOnly]; exact natC_only y
       refine ⟨(y, x % y, true), Kept.of rfl KT.z (KM.p (by repeat (first | exact KMp.nil | refine KMp.upd rfl (by first | rfl | exact hcl) ?_))), ⟨h2, blen_le_of (Nat.le_of_lt hml) h2, by simp only []; rw [← gcd_step]; exact h3⟩, by simp only []; exact hml⟩
   · have hl2 := digs_length_gt 18446744073709551616 x 1 (by decide) (by omega)
     have hl2 : 2 ≤ (digs 18446744073709551616 x).length := by omega
     have hl3 : ((digs 18446744073709551616 x).length ≠ 0) = True := eq_true (by omega)
     by_cases hys : y < 18446744073709551616
     · rw [natC_great hxs, natC_small hys]
       simp only [go_sem, h1, h2, hl2, hl3, hys, hbp, hyz]
       rw [← natC_small hys]
       have hml := Nat.mod_lt x hyp
       have hcl : objOnly [2, 1, 0] (.live (natC y)) = true := by simp only [objOnly]; exact natC_only y
       refine ⟨(y, x % y, true), Kept.of rfl KT.z (KM.p (by repeat (first | exact KMp.nil | refine KMp.upd rfl (by first | rfl | exact hcl) ?_))), ⟨h2, blen_le_of (Nat.le_of_lt hml) h2, by simp only []; rw [← gcd_step]; exact h3⟩, by simp only []; exact hml⟩
     · have hm2 := digs_length_gt 18446744073709551616 y 1 (by decide) (by omega)
       have hm2 : 2 ≤ (digs 18446744073709551616 y).length := by omega
       have hm3 : ((digs 18446744073709551616 y).length ≠ 0) = True := eq_true (by omega)
       rw [natC_great hxs, natC_great hys]
       simp only [go_sem, h1, h2, hl2, hl3, hm2, hm3, hbp, hyz]
       rw [← natC_great hys]
       have hml := Nat.mod_lt x hyp
       have hcl : objOnly [2, 1, 0] (.live (natC y)) = true := by simp only [objOnly]; exact natC_only y
       refine ⟨(y, x % y, true), Kept.of rfl KT.z (KM.p (by repeat (first | exact KMp.nil | refine KMp.upd rfl (by first | rfl | exact hcl) ?_))), ⟨h2, blen_le_of (Nat.le_of_lt hml) h2, by simp only []; rw [← gcd_step]; exact h3⟩, by simp only []; exact hml⟩
def GcdS : List AV → Option (Prop × AV) := on2 fun a b => (blen a ≤ 68719476736 ∧ blen b ≤ 68719476736, (.agg [.opq (.nat (Nat.gcd a b)), .pad]))
theorem GcdS_ok (hP : PrgOk P) (args p r) : GcdS args = some (p, r) → p → CSpec P 80 args r := on2_ok (fun a b h => by exact Gcd_spec hP a b h.1 h.2) args p r
attribute [go_sem] GcdS
end Go.Proofs.YtbfapomdnocbaaaGreatDoor.AM
/- Package nat: the text of a number. -/
namespace Go.Proofs.YtbfapomdnocbaaaGreatDoor.AM
set_option linter.all false
set_option autoImplicit true
set_option relaxedAutoImplicit true
open Go Go.Proofs
set_option maxRecDepth 100000
set_option maxHeartbeats 8000000
set_option linter.unusedSimpArgs false
variable {P : Program}
theorem strM_sl2 (T : Nat → Option TyD) (m : Nat → AObj) (e b b' z z' sz sz' r off n k) : strM T m ⟨.slice e, sz, b, z⟩ ⟨.string, sz', b', z'⟩ (.sl r off n k) = if isU8 (T e) = true then (objCells (m r)).map fun cs => (Cut cs off n ∧ k = 1 ∧ ((cs.drop off).take n).all isB = true, .str (bytesS ((cs.drop off).take n))) else none := rfl
attribute [go_sem] strM_sl2
abbrev OD := Option (Bool × Bool)
def oNum : Bool × Bool → Nat
 | (false, false) => 110
 | (false, true) => 120
 | (true, false) => 130
 | (true, true) => 140
def oV : OD → Nat → AV
 | none, _ => .nils
 | some p, n => .sl (oNum p) 0 n 1
def oM (k : IntKind) (m : Nat → AObj) : OD → List Nat → (Nat → AObj)
 | none, _ => m
 | some p, l => upd m (oNum p) (.live (l.map fun d : Nat => AV.int k (d : Int)))
def oL (L : List Nat) : OD → List Nat
 | none => L
 | some p => oNum p :: L
def iP : OD → Bool → Bool × Bool
 | none, b => (false, b)
 | some (false, _), b => (true, b)
 | some (true, _), b => (false, b)
def gM (m : Nat → AObj) : OD → (Nat → AObj)
 | none => m
 | some p => upd m (oNum p) .gone
def iV (D : OD) : Option Bool → Nat → AV
 | none, n => oV D n
 | some b, n => .sl (oNum (iP D b)) 0 n 1
def iM (k : IntKind) (m : Nat → AObj) (D : OD) : Option Bool → List Nat → List Nat → (Nat → AObj)
 | none, l0, _ => oM k m D l0
 | some b, _, l => upd (gM m D) (oNum (iP D b)) (.live (l.map fun d : Nat => AV.int k (d : Int)))
def iL (L : List Nat) (D : OD) : Option Bool → List Nat
 | none => oL L D
 | some b => oNum (iP D b) :: oL L D
def iX (D : OD) (c : Nat) : Option Bool → Nat
 | some false => oNum (iP D true) - c
 | _ => oNum (iP D false) - c
theorem oL_has {L : List Nat} {m : Nat → AObj} (h : Has L m) (D : OD) (q : Nat) (hq : m q ≠ .unused) : (oL L D).contains q = true := by
 have := h q hq
 rcases D with _ | p <;> simp only [oL, List.contains_cons, this, Bool.or_true]
theorem iL_has {L : List Nat} {m : Nat → AObj} {k l} (h : Has L m) (D : OD) (I : Option Bool) (q : Nat) (hq : oM k m D l q ≠ .unused) : (iL L D I).contains q = true := by
 have h1 : (oL L D).contains q = true := by
  rcases D with _ | p
  · exact h q hq
  · simp only [oM, AM.upd] at hq
    by_cases e : q = oNum p
    · simp [oL, e]
    · rw [if_neg e] at hq
      simp only [oL, List.contains_cons, h q hq, Bool.or_true]
 rcases I with _ | b <;> simp only [iL, List.contains_cons, h1, Bool.or_true]
def dec10 (a : Nat) : List Nat := (digs 10 a).map (48 + ·)
def decL (a : Nat) : List Nat := if a = 0 then [48] else (dec10 a).reverse
def decS (a : Nat) : ByteArray := bytesS ((decL a).map fun d : Nat => AV.int .u8 (d : Int))
structure TS where
 n : Nat
 w : List Nat
 tl : List Nat
 D : OD
 k : Nat
 o : List Nat
structure T3 where
 j : Option Bool
 i : Nat
 r : Nat
 k : Nat
 o : List Nat
def dv (o : List Nat) : Nat := dOf 10 (o.map (· - 48))
def byt (o : List Nat) : Prop := ∀ c ∈ o, 48 ≤ c ∧ c < 58
theorem dv_snoc (o : List Nat) (d : Nat) : dv (o ++ [48 + d]) = dv o + 10 ^ o.length * d := by
 unfold dv; rw [List.map_append, dOf_append]
 simp [dOf]
theorem byt_snoc {o : List Nat} (h : byt o) (r : Nat) : byt (o ++ [48 + r % 10]) := fun c hc => by
 rcases List.mem_append.1 hc with hc | hc
 · exact h c hc
 · rw [List.mem_singleton.1 hc]; omega
theorem snoc_canon (o : List Nat) (d : Nat) (h : d ≠ 0) : Canon ((o ++ [48 + d]).map (· - 48)) := fun _ => by
 simp; exact h
theorem u8_dig (r : Nat) : IntKind.u8.wrap (IntKind.u64.wrap (48 + ((r % 10 : Nat) : Int))) = ((48 + r % 10 : Nat) : Int) := by
 rw [IntKind.wrap_u64, IntKind.wrap_u8]; omega
theorem map_snoc {l : List Nat} {k : IntKind} {c : Nat} : (l.map fun d : Nat => AV.int k (d : Int)) ++ [.int k (c : Int)] = (l ++ [c]).map fun d : Nat => AV.int k (d : Int) := by simp
theorem dig_step {A p r W q : Nat} (h : A = p + q * (r + 10 * W)) : A = (p + q * (r % 10)) + q * 10 * (r / 10 + W) := by
 rw [h, Nat.add_assoc, Nat.mul_assoc, ← Nat.mul_add]; congr 2; omega
theorem canon_take {w : List Nat} {n : Nat} (h : n + 1 ≤ w.length) (hz : w.getD n 0 ≠ 0) : Canon (w.take (n + 1)) := fun hne => by
 have e := take_snoc (l := w) (k := n) (by omega)
 simp only [e, List.getLast_append, List.getLast_singleton]
 simpa using hz
theorem dOf_trim {w : List Nat} {n : Nat} (h : ∀ i, n ≤ i → w.getD i 0 = 0) : dOf 18446744073709551616 (w.take n) = dOf 18446744073709551616 w := by
 conv => rhs; rw [← List.take_append_drop n w]
 rw [dOf_append, dOf_zero (l := w.drop n), Nat.mul_zero, Nat.add_zero]
 intro d hd
 obtain ⟨i, hi, rfl⟩ := List.getElem_of_mem hd
 have := h (n + i) (by omega)
 rw [List.length_drop] at hi
 rw [List.getElem_drop, ← getD_get (by omega), this]
theorem canon_pos {w : List Nat} (hc : Canon w) (hne : w ≠ []) : 0 < dOf 18446744073709551616 w := by
 have h1 : 0 < w.length := List.length_pos_iff.2 hne
 have h2 := canon_last hc h1
 rw [dOf_last 18446744073709551616 w h1]
 have : 0 < 18446744073709551616 ^ (w.length - 1) * w.getD (w.length - 1) 0 := Nat.mul_pos (Nat.pow_pos (by decide)) (by omega)
 omega
theorem text_end {a : Nat} {o : List Nat} (ho : byt o) (h : a = dv o) (hc : Canon (o.map (· - 48))) (ha : 0 < a) : decL a = o.reverse := by
 unfold decL dec10
 rw [if_neg (by omega), h]
 unfold dv
 rw [digs_dOf 10 (by decide) _ (fun d hd => ?_) hc, List.map_map]
 · congr 1
   conv => rhs; rw [← List.map_id o]
   refine List.map_congr_left fun c hc => ?_
   have := ho c hc
   simp only [Function.comp, id]; omega
 · obtain ⟨c, hc, rfl⟩ := List.mem_map.1 hd
   have := ho c hc
   omega
theorem getD_left {l r : List Nat} {q : Nat} (h : q < l.length) : (l ++ r).getD q 0 = l.getD q 0 := by
 simp only [List.getD_eq_getElem?_getD]; rw [List.getElem?_append_left h]
theorem dOf_pos {l : List Nat} {q : Nat} (h : q < l.length) (hz : l.getD q 0 ≠ 0) : 0 < dOf 18446744073709551616 l := by
 rw [dOf_split 18446744073709551616 l q h]
 have : 0 < 18446744073709551616 ^ q * (l.getD q 0 + 18446744073709551616 * dOf 18446744073709551616 (l.drop (q + 1))) := Nat.mul_pos (Nat.pow_pos (by decide)) (by omega)
 omega
theorem Text_spec (hP : PrgOk P) (a : Nat) (ha : blen a ≤ 68719476736) : CSpec P 52 [(.agg [.opq (.nat (a)), .pad])] (.str (decS a)) := by
 have HE := Sf_ok hP
 rcases Nat.eq_zero_or_pos a with rfl | h0
 · have e : digs 18446744073709551616 0 = [] := digs_zero _
   have e2 : ([] : List Nat).isEmpty = true := rfl
   refine CSpec_go (E := ⟨T0, Sf⟩) (fn52 hP) HE hP.mix ?_
   simp only [go_sem, e, e2]
   exact .refl _
 · have hxd : ∀ d ∈ digs 18446744073709551616 a, d < 18446744073709551616 := digs_lt 18446744073709551616 a (by decide)
   have hx := dOf_digs 18446744073709551616 a (by decide)
   have hlx := digs_len_blen a
   have hcan := digs_canon 18446744073709551616 a (by decide)
   have hne : digs 18446744073709551616 a ≠ [] := by intro e; rw [e] at hx; simp [dOf] at hx; omega
   refine CSpec_go (E := ⟨T0, Sf⟩) (fn52 hP) HE hP.mix ?_
   simp only [go_sem]
   generalize digs 18446744073709551616 a = x at *
   have hie : x.isEmpty = false := by cases x <;> simp_all
   have hxl : (x.length == 0) = false := by
    have := List.length_pos_iff.2 hne
    simp; omega
   have hxp : 0 < x.length := List.length_pos_iff.2 hne
   simp only [go_sem, hie, hxl]
   refine ⟨⟨fun _ => hxp, by omega⟩, ?_⟩
   refine trX_loopV HE hP.mix (fun q : TS => oL [4, 0] q.D) (fun q => ⟨upd (upd (upd (fun _ => .junk) 2 (.str ⟨#[]⟩)) 3 (.sl 4 0 q.n 1)) 4 (oV q.D q.k), oM .u8 (upd (upd (fun _ => .unused) 0 (.live [.opq (.nat a), .pad])) 4 (.live (List.map (fun d : Nat => AV.int .u64 (d : Int)) (q.w ++ q.tl)))) q.D q.o, 85⟩)
    (fun q => q.w.length = q.n ∧ q.o.length = q.k ∧ (∀ d ∈ q.w, d < 18446744073709551616) ∧ Canon q.w ∧ q.n + q.tl.length = x.length ∧ byt q.o ∧ a = dv q.o + 10 ^ q.k * dOf 18446744073709551616 q.w ∧ (q.w = [] → Canon (q.o.map (· - 48))) ∧ (q.D = none → q.o = [] ∧ q.k = 0)) (fun q => dOf 18446744073709551616 q.w) ⟨x.length, x, [], none, 0, []⟩ (fun _ => 20)
    (fun x r hr => oL_has Has.z x.D r hr) (Kept.of rfl KT.z (by have e : x ++ [] = x := List.append_nil x; simp only [oM]; rw [e]; exact KM.z)) ⟨rfl, rfl, hxd, hcan, by simp, by simp [byt], by simp [dv, dOf, hx], fun e => absurd e hne, fun _ => ⟨rfl, rfl⟩⟩ 85 (by kernel_rfl) ?_
   rintro ⟨n, w, tl, D, k, o⟩ ⟨h1, h2, h3, h4, h5, h6, h7, h8, h9⟩
   simp only [] at h1 h2 h3 h4 h5 h6 h7 h8 h9
   by_cases hn : 0 < n
   · have hW := canon_pos h4 (by intro e; rw [e] at h1; simp at h1; omega)
     rcases D with _ | ⟨_ | _, _ | _⟩
     ·
      simp only [oV, oM, oNum]
      simp only [go_sem, hn]
      refine short_ic hP (L := [4, 0]) (y := 10000000000000000000) (by repeat (first | exact GenM.nil | refine GenM.upd ?_ rfl (by first | rfl | exact objOnly_U))) rfl rfl h1 (by omega) h3 (by decide) (by decide) ?_
      intro nx w' c t1 t2 t3 t4
      simp only [go_sem]
      refine trX_loop HE hP.mix [4, 0] (fun q : Nat => ⟨upd (upd (upd (upd (fun _ => .junk) 2 (.str ⟨#[]⟩)) 3 (.sl 4 0 q 1)) 4 (oV none k)) 5 (.int .u64 (c : Int)), oM .u8 (upd (upd (fun _ => .unused) 0 (.live [.opq (.nat a), .pad])) 4 (.live (List.map (fun d : Nat => AV.int .u64 (d : Int)) (w' ++ tl)))) none o, 85⟩)
       (fun q => q ≤ n ∧ ∀ i, q ≤ i → w'.getD i 0 = 0) (fun q => q) n 20 Has.z (Kept.of rfl KT.z KM.z) ⟨Nat.le_refl _, fun i hi => getD_ge (by omega)⟩ 85 (by kernel_rfl) ?_
      rintro q ⟨q1, q2⟩
      obtain ⟨W2, hW2⟩ : ∃ W, dOf 18446744073709551616 w' = W := ⟨_, rfl⟩
      have hA : a = dv o + 10 ^ k * (c + 10 ^ (19 - 0) * W2) := by rw [h7, ← t4, hW2, Nat.mul_comm W2, Nat.add_comm c]
      have hWc : 0 < W2 ∨ 0 < c := by
       rw [← t4, hW2] at hW; omega
      obtain ⟨q9, hq9⟩ : ∃ q9, q9 + 1 = q + 1 := ⟨q, rfl⟩
      cases q with
      | zero =>
        have hW0 : W2 = 0 := by rw [← hW2, ← dOf_trim q2]; rfl
        simp only [oV, oM, oNum]
        simp only [go_sem, Nat.succ_pos, Nat.lt_irrefl]
        refine trX_loopV HE hP.mix (fun y : T3 => iL [4, 0] none y.j) (fun y => ⟨upd (upd (upd (upd (upd (fun _ => .junk) 2 (.str ⟨#[]⟩)) 3 (.sl 4 0 (0) 1)) 4 (iV none y.j y.k)) 5 (.int .u64 (y.r : Int))) 6 (.int .i64 (y.i : Int)), iM .u8 (upd (upd (fun _ => .unused) 0 (.live [.opq (.nat a), .pad])) 4 (.live (List.map (fun d : Nat => AV.int .u64 (d : Int)) (w' ++ tl)))) none y.j o y.o, 85⟩)
         (fun y => y.i ≤ 19 ∧ y.o.length = y.k ∧ byt y.o ∧ y.r < 10 ^ (19 - y.i) ∧ a = dv y.o + 10 ^ y.k * (y.r + 10 ^ (19 - y.i) * W2) ∧ (W2 = 0 → y.r = 0 → Canon (y.o.map (· - 48))) ∧ (y.j = none → y.o = o ∧ y.k = k ∧ y.i = 0 ∧ (0 < W2 ∨ 0 < y.r))) (fun y => 20 - y.i) ⟨none, 0, c, k, o⟩ (fun y => iX none 17 y.j)
         (fun x r hr => iL_has (k := .u8) (l := o) Has.z none x.j r hr) (Kept.of rfl KT.z KM.z) ⟨by simp, h2, h6, t3, hA, fun e1 e2 => absurd hWc (by have e1 : W2 = 0 := e1; have e2 : c = 0 := e2; omega), fun _ => ⟨rfl, rfl, rfl, hWc⟩⟩ 85 (by kernel_rfl) ?_
        rintro ⟨j, i, r, k', o'⟩ ⟨s1, s2, s3, s4, s5, s6, s7⟩
        simp only [] at s1 s2 s3 s4 s5 s6 s7
        have hpw : i < 19 → 10 ^ (19 - i) = 10 * 10 ^ (19 - (i + 1)) := fun h => by rw [show 19 - i = 19 - (i + 1) + 1 by omega, Nat.pow_succ, Nat.mul_comm]
        have hm : (r : Int).tmod 10 = ((r % 10 : Nat) : Int) := rfl
        have hrb : r < 18446744073709551616 := Nat.lt_of_lt_of_le s4 (Nat.le_trans (Nat.pow_le_pow_right (by decide) (show 19 - i ≤ 19 by omega)) (by decide))
        have hdv : IntKind.u64.wrap ((r : Int).tdiv 10) = ((r / 10 : Nat) : Int) := wu_div r 10 hrb
        have hu8 := u8_dig r
        have hwi := wi_add1 i (by omega)
        have hq0' : 0 < q9 + 1 := Nat.succ_pos q9
        by_cases hi : i < 19
        · by_cases hr : 0 < r
          · have hgo : 1 ≤ r + 10 ^ (19 - i) * W2 := by omega
            have hkb : k' + 1 ≤ 1099511627776 := by
             have h1 : 10 ^ k' * 1 ≤ 10 ^ k' * (r + 10 ^ (19 - i) * W2) := Nat.mul_le_mul_left _ hgo
             have h2 : 2 ^ k' ≤ 10 ^ k' := Nat.pow_le_pow_left (by decide) _
             have h3 := blen_lt a
             have h4 : k' < blen a := (Nat.pow_lt_pow_iff_right (a := 2) (by decide)).1 (by omega)
             omega
            have hst : ∀ o'' : List Nat, o'' = o' ++ [48 + r % 10] → o''.length = k' + 1 ∧ byt o'' ∧ r / 10 < 10 ^ (19 - (i + 1)) ∧ a = dv o'' + 10 ^ (k' + 1) * (r / 10 + 10 ^ (19 - (i + 1)) * W2) ∧ (W2 = 0 → r / 10 = 0 → Canon (o''.map (· - 48))) := fun o'' ho => by
             subst ho
             refine ⟨by simp [s2], byt_snoc s3 r, by have := hpw hi; omega, ?_, fun e1 e2 => snoc_canon _ _ ?_⟩
             · rw [dv_snoc, s2, Nat.pow_succ]
               rw [hpw hi, Nat.mul_assoc] at s5
               exact dig_step s5
             · rw [e1, Nat.mul_zero, Nat.add_zero] at hgo
               omega
            rcases j with _ | _ | _
            · obtain ⟨e1, e2, _, _⟩ := s7 rfl
              subst e1
              subst e2
              simp only [iV, iM, oV, oM, oNum, iX, iP, gM]
              simp only [go_sem, hi, hr, hm, hdv, hu8, hwi, hkb, map_snoc, hq0']
              first
               | (have h9' := h9 rfl
                  obtain ⟨ho, hk⟩ := h9'
                  subst ho
                  subst hk
                  obtain ⟨z1, z2, z3, z4, z5⟩ := hst [48 + r % 10] rfl
                  exact ⟨by decide, ⟨by simp, fun _ => trivial⟩, by decide, ⟨some false, i + 1, r / 10, 1, [48 + r % 10]⟩, Kept.of rfl KT.z KM.z, ⟨by simp only []; omega, z1, z2, z3, z4, z5, fun e => by simp at e⟩, by simp only []; omega⟩)
               | (obtain ⟨z1, z2, z3, z4, z5⟩ := hst (o' ++ [48 + r % 10]) rfl
                  exact ⟨by decide, ⟨s2, by simp, fun _ => trivial⟩, by decide, ⟨some false, i + 1, r / 10, k' + 1, o' ++ [48 + r % 10]⟩, Kept.of rfl KT.z KM.z, ⟨by simp only []; omega, z1, z2, z3, z4, z5, fun e => by simp at e⟩, by simp only []; omega⟩)
            · simp only [iV, iM, oV, oM, oNum, iX, iP, gM]
              simp only [go_sem, hi, hr, hm, hdv, hu8, hwi, hkb, map_snoc, hq0']
              obtain ⟨z1, z2, z3, z4, z5⟩ := hst (o' ++ [48 + r % 10]) rfl
              exact ⟨by decide, ⟨s2, by simp, fun _ => trivial⟩, by decide, ⟨some true, i + 1, r / 10, k' + 1, o' ++ [48 + r % 10]⟩, Kept.of rfl KT.z KM.z, ⟨by simp only []; omega, z1, z2, z3, z4, z5, fun e => by simp at e⟩, by simp only []; omega⟩
            · simp only [iV, iM, oV, oM, oNum, iX, iP, gM]
              simp only [go_sem, hi, hr, hm, hdv, hu8, hwi, hkb, map_snoc, hq0']
              obtain ⟨z1, z2, z3, z4, z5⟩ := hst (o' ++ [48 + r % 10]) rfl
              exact ⟨by decide, ⟨s2, by simp, fun _ => trivial⟩, by decide, ⟨some false, i + 1, r / 10, k' + 1, o' ++ [48 + r % 10]⟩, Kept.of rfl KT.z KM.z, ⟨by simp only []; omega, z1, z2, z3, z4, z5, fun e => by simp at e⟩, by simp only []; omega⟩
          · have hr0 : r = 0 := by omega
            have hsp : w' ++ tl = w'.take (0) ++ (w'.drop (0) ++ tl) := by rw [← List.append_assoc, List.take_append_drop]
            have hdt : dOf 18446744073709551616 (w'.take (0)) = W2 := (dOf_trim q2).trans hW2
            have hW2lt : W2 < dOf 18446744073709551616 w := by rw [hW2] at t4; omega
            have hend : a = dv o' + 10 ^ k' * dOf 18446744073709551616 (w'.take (0)) := by
             rw [hdt, s5, hr0, Nat.zero_add]
             first
              | (rw [show 19 - i = 0 by omega, Nat.pow_zero, Nat.one_mul])
              | (rw [hW0, Nat.mul_zero])
            have hcn : w'.take (0) = [] → Canon (o'.map (· - 48)) := fun e => s6 (by rw [← hdt, e]; rfl) hr0
            have htl : (0) + (w'.drop (0) ++ tl).length = x.length := by rw [List.length_append, List.length_drop]; omega
            have hct : Canon (w'.take (0)) := by
             first
              | (exact canon_take (by omega) hzn)
              | (intro h; exact absurd rfl h)
            have hlt : (w'.take (0)).length = 0 := by rw [List.length_take]; omega
            rcases j with _ | _ | _
            · obtain ⟨_, _, e3, e4⟩ := s7 rfl
              first
               | omega
               | (exfalso; omega)
            · simp only [iV, iM, oV, oM, oNum, iP, gM]
              simp only [go_sem, hi, hr, Nat.lt_irrefl]
              rw [hsp]
              exact ⟨⟨0, w'.take (0), w'.drop (0) ++ tl, some (iP none false), k', o'⟩, Kept.of rfl KT.z KM.z, ⟨hlt, s2, fun d hd => t2 d (List.mem_of_mem_take hd), hct, htl, s3, hend, hcn, fun e => by simp at e⟩, by simp only []; rw [hdt]; exact hW2lt⟩
            · simp only [iV, iM, oV, oM, oNum, iP, gM]
              simp only [go_sem, hi, hr, Nat.lt_irrefl]
              rw [hsp]
              exact ⟨⟨0, w'.take (0), w'.drop (0) ++ tl, some (iP none true), k', o'⟩, Kept.of rfl KT.z KM.z, ⟨hlt, s2, fun d hd => t2 d (List.mem_of_mem_take hd), hct, htl, s3, hend, hcn, fun e => by simp at e⟩, by simp only []; rw [hdt]; exact hW2lt⟩
        · have hr0 : r = 0 := by
           rw [show 19 - i = 0 by omega] at s4; omega
          have hsp : w' ++ tl = w'.take (0) ++ (w'.drop (0) ++ tl) := by rw [← List.append_assoc, List.take_append_drop]
          have hdt : dOf 18446744073709551616 (w'.take (0)) = W2 := (dOf_trim q2).trans hW2
          have hW2lt : W2 < dOf 18446744073709551616 w := by rw [hW2] at t4; omega
          have hend : a = dv o' + 10 ^ k' * dOf 18446744073709551616 (w'.take (0)) := by
           rw [hdt, s5, hr0, Nat.zero_add]
           first
            | (rw [show 19 - i = 0 by omega, Nat.pow_zero, Nat.one_mul])
            | (rw [hW0, Nat.mul_zero])
          have hcn : w'.take (0) = [] → Canon (o'.map (· - 48)) := fun e => s6 (by rw [← hdt, e]; rfl) hr0
          have htl : (0) + (w'.drop (0) ++ tl).length = x.length := by rw [List.length_append, List.length_drop]; omega
          have hct : Canon (w'.take (0)) := by
           first
            | (exact canon_take (by omega) hzn)
            | (intro h; exact absurd rfl h)
          have hlt : (w'.take (0)).length = 0 := by rw [List.length_take]; omega
          rcases j with _ | _ | _
          · obtain ⟨_, _, e3, e4⟩ := s7 rfl
            first
             | omega
             | (exfalso; omega)
          · simp only [iV, iM, oV, oM, oNum, iP, gM]
            simp only [go_sem, hi]
            rw [hsp]
            exact ⟨⟨0, w'.take (0), w'.drop (0) ++ tl, some (iP none false), k', o'⟩, Kept.of rfl KT.z KM.z, ⟨hlt, s2, fun d hd => t2 d (List.mem_of_mem_take hd), hct, htl, s3, hend, hcn, fun e => by simp at e⟩, by simp only []; rw [hdt]; exact hW2lt⟩
          · simp only [iV, iM, oV, oM, oNum, iP, gM]
            simp only [go_sem, hi]
            rw [hsp]
            exact ⟨⟨0, w'.take (0), w'.drop (0) ++ tl, some (iP none true), k', o'⟩, Kept.of rfl KT.z KM.z, ⟨hlt, s2, fun d hd => t2 d (List.mem_of_mem_take hd), hct, htl, s3, hend, hcn, fun e => by simp at e⟩, by simp only []; rw [hdt]; exact hW2lt⟩
      | succ q =>
        have hql : q < w'.length := by omega
        have hqg : q < (w' ++ tl).length := by rw [List.length_append]; omega
        have hqn : q < w'.length + tl.length := by omega
        have hgt : (w' ++ tl).getD q 0 = w'.getD q 0 := getD_left hql
        have hqi := wi_nat q (by omega)
        have hq1 : q < q + 1 := by omega
        have hq2 : q ≤ q + 1 := by omega
        have hq3 : q ≤ w'.length + tl.length := by omega
        rcases (by cases (w'.getD q 0 == 0) <;> simp : (w'.getD q 0 == 0) = true ∨ (w'.getD q 0 == 0) = false) with hz | hz
        · simp only [oV, oM, oNum]
          simp only [go_sem, Nat.succ_pos, hqi, hq1, hqg, hqn, gU hqg, hgt, hz, hq2, hq3]
          exact ⟨by simp, q, Kept.of rfl KT.z KM.z, ⟨by omega, fun i hi => by
           rcases Nat.eq_or_lt_of_le hi with rfl | hi
           · simpa using hz
           · exact q2 i hi⟩, by omega⟩
        · have hzn : w'.getD q 0 ≠ 0 := by simpa using hz
          have hW0 : 0 < W2 := by
           rw [← hW2]; exact dOf_pos hql hzn
          simp only [oV, oM, oNum]
          simp only [go_sem, Nat.succ_pos, hqi, hq1, hqg, hqn, gU hqg, hgt, hz]
          refine trX_loopV HE hP.mix (fun y : T3 => iL [4, 0] none y.j) (fun y => ⟨upd (upd (upd (upd (upd (fun _ => .junk) 2 (.str ⟨#[]⟩)) 3 (.sl 4 0 (q + 1) 1)) 4 (iV none y.j y.k)) 5 (.int .u64 (y.r : Int))) 6 (.int .i64 (y.i : Int)), iM .u8 (upd (upd (fun _ => .unused) 0 (.live [.opq (.nat a), .pad])) 4 (.live (List.map (fun d : Nat => AV.int .u64 (d : Int)) (w' ++ tl)))) none y.j o y.o, 85⟩)
           (fun y => y.i ≤ 19 ∧ y.o.length = y.k ∧ byt y.o ∧ y.r < 10 ^ (19 - y.i) ∧ a = dv y.o + 10 ^ y.k * (y.r + 10 ^ (19 - y.i) * W2) ∧ (W2 = 0 → y.r = 0 → Canon (y.o.map (· - 48))) ∧ (y.j = none → y.o = o ∧ y.k = k ∧ y.i = 0 ∧ (0 < W2 ∨ 0 < y.r))) (fun y => 20 - y.i) ⟨none, 0, c, k, o⟩ (fun y => iX none 15 y.j)
           (fun x r hr => iL_has (k := .u8) (l := o) Has.z none x.j r hr) (Kept.of rfl KT.z KM.z) ⟨by simp, h2, h6, t3, hA, fun e1 e2 => absurd hWc (by have e1 : W2 = 0 := e1; have e2 : c = 0 := e2; omega), fun _ => ⟨rfl, rfl, rfl, hWc⟩⟩ 85 (by kernel_rfl) ?_
          rintro ⟨j, i, r, k', o'⟩ ⟨s1, s2, s3, s4, s5, s6, s7⟩
          simp only [] at s1 s2 s3 s4 s5 s6 s7
          have hpw : i < 19 → 10 ^ (19 - i) = 10 * 10 ^ (19 - (i + 1)) := fun h => by rw [show 19 - i = 19 - (i + 1) + 1 by omega, Nat.pow_succ, Nat.mul_comm]
          have hm : (r : Int).tmod 10 = ((r % 10 : Nat) : Int) := rfl
          have hrb : r < 18446744073709551616 := Nat.lt_of_lt_of_le s4 (Nat.le_trans (Nat.pow_le_pow_right (by decide) (show 19 - i ≤ 19 by omega)) (by decide))
          have hdv : IntKind.u64.wrap ((r : Int).tdiv 10) = ((r / 10 : Nat) : Int) := wu_div r 10 hrb
          have hu8 := u8_dig r
          have hwi := wi_add1 i (by omega)
          have hq0' : 0 < q9 + 1 := Nat.succ_pos q9
          have hq0 : 0 < q + 1 := Nat.succ_pos q
          by_cases hi : i < 19
          · have hgo : 1 ≤ r + 10 ^ (19 - i) * W2 := by
             have := Nat.mul_pos (Nat.pow_pos (show 0 < 10 by decide) (n := 19 - i)) hW0
             omega
            have hr := hq0
            have hkb : k' + 1 ≤ 1099511627776 := by
             have h1 : 10 ^ k' * 1 ≤ 10 ^ k' * (r + 10 ^ (19 - i) * W2) := Nat.mul_le_mul_left _ hgo
             have h2 : 2 ^ k' ≤ 10 ^ k' := Nat.pow_le_pow_left (by decide) _
             have h3 := blen_lt a
             have h4 : k' < blen a := (Nat.pow_lt_pow_iff_right (a := 2) (by decide)).1 (by omega)
             omega
            have hst : ∀ o'' : List Nat, o'' = o' ++ [48 + r % 10] → o''.length = k' + 1 ∧ byt o'' ∧ r / 10 < 10 ^ (19 - (i + 1)) ∧ a = dv o'' + 10 ^ (k' + 1) * (r / 10 + 10 ^ (19 - (i + 1)) * W2) ∧ (W2 = 0 → r / 10 = 0 → Canon (o''.map (· - 48))) := fun o'' ho => by
             subst ho
             refine ⟨by simp [s2], byt_snoc s3 r, by have := hpw hi; omega, ?_, fun e1 e2 => snoc_canon _ _ ?_⟩
             · rw [dv_snoc, s2, Nat.pow_succ]
               rw [hpw hi, Nat.mul_assoc] at s5
               exact dig_step s5
             · rw [e1, Nat.mul_zero, Nat.add_zero] at hgo
               omega
            rcases j with _ | _ | _
            · obtain ⟨e1, e2, _, _⟩ := s7 rfl
              subst e1
              subst e2
              simp only [iV, iM, oV, oM, oNum, iX, iP, gM]
              simp only [go_sem, hi, hr, hm, hdv, hu8, hwi, hkb, map_snoc, hq0']
              first
               | (have h9' := h9 rfl
                  obtain ⟨ho, hk⟩ := h9'
                  subst ho
                  subst hk
                  obtain ⟨z1, z2, z3, z4, z5⟩ := hst [48 + r % 10] rfl
                  exact ⟨by decide, ⟨by simp, fun _ => trivial⟩, by decide, ⟨some false, i + 1, r / 10, 1, [48 + r % 10]⟩, Kept.of rfl KT.z KM.z, ⟨by simp only []; omega, z1, z2, z3, z4, z5, fun e => by simp at e⟩, by simp only []; omega⟩)
               | (obtain ⟨z1, z2, z3, z4, z5⟩ := hst (o' ++ [48 + r % 10]) rfl
                  exact ⟨by decide, ⟨s2, by simp, fun _ => trivial⟩, by decide, ⟨some false, i + 1, r / 10, k' + 1, o' ++ [48 + r % 10]⟩, Kept.of rfl KT.z KM.z, ⟨by simp only []; omega, z1, z2, z3, z4, z5, fun e => by simp at e⟩, by simp only []; omega⟩)
            · simp only [iV, iM, oV, oM, oNum, iX, iP, gM]
              simp only [go_sem, hi, hr, hm, hdv, hu8, hwi, hkb, map_snoc, hq0']
              obtain ⟨z1, z2, z3, z4, z5⟩ := hst (o' ++ [48 + r % 10]) rfl
              exact ⟨by decide, ⟨s2, by simp, fun _ => trivial⟩, by decide, ⟨some true, i + 1, r / 10, k' + 1, o' ++ [48 + r % 10]⟩, Kept.of rfl KT.z KM.z, ⟨by simp only []; omega, z1, z2, z3, z4, z5, fun e => by simp at e⟩, by simp only []; omega⟩
            · simp only [iV, iM, oV, oM, oNum, iX, iP, gM]
              simp only [go_sem, hi, hr, hm, hdv, hu8, hwi, hkb, map_snoc, hq0']
              obtain ⟨z1, z2, z3, z4, z5⟩ := hst (o' ++ [48 + r % 10]) rfl
              exact ⟨by decide, ⟨s2, by simp, fun _ => trivial⟩, by decide, ⟨some false, i + 1, r / 10, k' + 1, o' ++ [48 + r % 10]⟩, Kept.of rfl KT.z KM.z, ⟨by simp only []; omega, z1, z2, z3, z4, z5, fun e => by simp at e⟩, by simp only []; omega⟩
          · have hr0 : r = 0 := by
             rw [show 19 - i = 0 by omega] at s4; omega
            have hsp : w' ++ tl = w'.take (q + 1) ++ (w'.drop (q + 1) ++ tl) := by rw [← List.append_assoc, List.take_append_drop]
            have hdt : dOf 18446744073709551616 (w'.take (q + 1)) = W2 := (dOf_trim q2).trans hW2
            have hW2lt : W2 < dOf 18446744073709551616 w := by rw [hW2] at t4; omega
            have hend : a = dv o' + 10 ^ k' * dOf 18446744073709551616 (w'.take (q + 1)) := by
             rw [hdt, s5, hr0, Nat.zero_add]
             first
              | (rw [show 19 - i = 0 by omega, Nat.pow_zero, Nat.one_mul])
              | (rw [hW0, Nat.mul_zero])
            have hcn : w'.take (q + 1) = [] → Canon (o'.map (· - 48)) := fun e => s6 (by rw [← hdt, e]; rfl) hr0
            have htl : (q + 1) + (w'.drop (q + 1) ++ tl).length = x.length := by rw [List.length_append, List.length_drop]; omega
            have hct : Canon (w'.take (q + 1)) := by
             first
              | (exact canon_take (by omega) hzn)
              | (intro h; exact absurd rfl h)
            have hlt : (w'.take (q + 1)).length = q + 1 := by rw [List.length_take]; omega
            rcases j with _ | _ | _
            · obtain ⟨_, _, e3, e4⟩ := s7 rfl
              first
               | omega
               | (exfalso; omega)
            · simp only [iV, iM, oV, oM, oNum, iP, gM]
              simp only [go_sem, hi]
              rw [hsp]
              exact ⟨⟨q + 1, w'.take (q + 1), w'.drop (q + 1) ++ tl, some (iP none false), k', o'⟩, Kept.of rfl KT.z KM.z, ⟨hlt, s2, fun d hd => t2 d (List.mem_of_mem_take hd), hct, htl, s3, hend, hcn, fun e => by simp at e⟩, by simp only []; rw [hdt]; exact hW2lt⟩
            · simp only [iV, iM, oV, oM, oNum, iP, gM]
              simp only [go_sem, hi]
              rw [hsp]
              exact ⟨⟨q + 1, w'.take (q + 1), w'.drop (q + 1) ++ tl, some (iP none true), k', o'⟩, Kept.of rfl KT.z KM.z, ⟨hlt, s2, fun d hd => t2 d (List.mem_of_mem_take hd), hct, htl, s3, hend, hcn, fun e => by simp at e⟩, by simp only []; rw [hdt]; exact hW2lt⟩
     ·
      simp only [oV, oM, oNum]
      simp only [go_sem, hn]
      refine short_ic hP (L := [110, 4, 0]) (y := 10000000000000000000) (by repeat (first | exact GenM.nil | refine GenM.upd ?_ rfl (by first | rfl | exact objOnly_U))) rfl rfl h1 (by omega) h3 (by decide) (by decide) ?_
      intro nx w' c t1 t2 t3 t4
      simp only [go_sem]
      refine trX_loop HE hP.mix [110, 4, 0] (fun q : Nat => ⟨upd (upd (upd (upd (fun _ => .junk) 2 (.str ⟨#[]⟩)) 3 (.sl 4 0 q 1)) 4 (oV (some (false, false)) k)) 5 (.int .u64 (c : Int)), oM .u8 (upd (upd (fun _ => .unused) 0 (.live [.opq (.nat a), .pad])) 4 (.live (List.map (fun d : Nat => AV.int .u64 (d : Int)) (w' ++ tl)))) (some (false, false)) o, 85⟩)
       (fun q => q ≤ n ∧ ∀ i, q ≤ i → w'.getD i 0 = 0) (fun q => q) n 20 Has.z (Kept.of rfl KT.z KM.z) ⟨Nat.le_refl _, fun i hi => getD_ge (by omega)⟩ 85 (by kernel_rfl) ?_
      rintro q ⟨q1, q2⟩
      obtain ⟨W2, hW2⟩ : ∃ W, dOf 18446744073709551616 w' = W := ⟨_, rfl⟩
      have hA : a = dv o + 10 ^ k * (c + 10 ^ (19 - 0) * W2) := by rw [h7, ← t4, hW2, Nat.mul_comm W2, Nat.add_comm c]
      have hWc : 0 < W2 ∨ 0 < c := by
       rw [← t4, hW2] at hW; omega
      obtain ⟨q9, hq9⟩ : ∃ q9, q9 + 1 = q + 1 := ⟨q, rfl⟩
      cases q with
      | zero =>
        have hW0 : W2 = 0 := by rw [← hW2, ← dOf_trim q2]; rfl
        simp only [oV, oM, oNum]
        simp only [go_sem, Nat.succ_pos, Nat.lt_irrefl]
        refine trX_loopV HE hP.mix (fun y : T3 => iL [4, 0] (some (false, false)) y.j) (fun y => ⟨upd (upd (upd (upd (upd (fun _ => .junk) 2 (.str ⟨#[]⟩)) 3 (.sl 4 0 (0) 1)) 4 (iV (some (false, false)) y.j y.k)) 5 (.int .u64 (y.r : Int))) 6 (.int .i64 (y.i : Int)), iM .u8 (upd (upd (fun _ => .unused) 0 (.live [.opq (.nat a), .pad])) 4 (.live (List.map (fun d : Nat => AV.int .u64 (d : Int)) (w' ++ tl)))) (some (false, false)) y.j o y.o, 85⟩)
         (fun y => y.i ≤ 19 ∧ y.o.length = y.k ∧ byt y.o ∧ y.r < 10 ^ (19 - y.i) ∧ a = dv y.o + 10 ^ y.k * (y.r + 10 ^ (19 - y.i) * W2) ∧ (W2 = 0 → y.r = 0 → Canon (y.o.map (· - 48))) ∧ (y.j = none → y.o = o ∧ y.k = k ∧ y.i = 0 ∧ (0 < W2 ∨ 0 < y.r))) (fun y => 20 - y.i) ⟨none, 0, c, k, o⟩ (fun y => iX (some (false, false)) 17 y.j)
         (fun x r hr => iL_has (k := .u8) (l := o) Has.z (some (false, false)) x.j r hr) (Kept.of rfl KT.z KM.z) ⟨by simp, h2, h6, t3, hA, fun e1 e2 => absurd hWc (by have e1 : W2 = 0 := e1; have e2 : c = 0 := e2; omega), fun _ => ⟨rfl, rfl, rfl, hWc⟩⟩ 85 (by kernel_rfl) ?_
        rintro ⟨j, i, r, k', o'⟩ ⟨s1, s2, s3, s4, s5, s6, s7⟩
        simp only [] at s1 s2 s3 s4 s5 s6 s7
        have hpw : i < 19 → 10 ^ (19 - i) = 10 * 10 ^ (19 - (i + 1)) := fun h => by rw [show 19 - i = 19 - (i + 1) + 1 by omega, Nat.pow_succ, Nat.mul_comm]
        have hm : (r : Int).tmod 10 = ((r % 10 : Nat) : Int) := rfl
        have hrb : r < 18446744073709551616 := Nat.lt_of_lt_of_le s4 (Nat.le_trans (Nat.pow_le_pow_right (by decide) (show 19 - i ≤ 19 by omega)) (by decide))
        have hdv : IntKind.u64.wrap ((r : Int).tdiv 10) = ((r / 10 : Nat) : Int) := wu_div r 10 hrb
        have hu8 := u8_dig r
        have hwi := wi_add1 i (by omega)
        have hq0' : 0 < q9 + 1 := Nat.succ_pos q9
        by_cases hi : i < 19
        · by_cases hr : 0 < r
          · have hgo : 1 ≤ r + 10 ^ (19 - i) * W2 := by omega
            have hkb : k' + 1 ≤ 1099511627776 := by
             have h1 : 10 ^ k' * 1 ≤ 10 ^ k' * (r + 10 ^ (19 - i) * W2) := Nat.mul_le_mul_left _ hgo
             have h2 : 2 ^ k' ≤ 10 ^ k' := Nat.pow_le_pow_left (by decide) _
             have h3 := blen_lt a
             have h4 : k' < blen a := (Nat.pow_lt_pow_iff_right (a := 2) (by decide)).1 (by omega)
             omega
            have hst : ∀ o'' : List Nat, o'' = o' ++ [48 + r % 10] → o''.length = k' + 1 ∧ byt o'' ∧ r / 10 < 10 ^ (19 - (i + 1)) ∧ a = dv o'' + 10 ^ (k' + 1) * (r / 10 + 10 ^ (19 - (i + 1)) * W2) ∧ (W2 = 0 → r / 10 = 0 → Canon (o''.map (· - 48))) := fun o'' ho => by
             subst ho
             refine ⟨by simp [s2], byt_snoc s3 r, by have := hpw hi; omega, ?_, fun e1 e2 => snoc_canon _ _ ?_⟩
             · rw [dv_snoc, s2, Nat.pow_succ]
               rw [hpw hi, Nat.mul_assoc] at s5
               exact dig_step s5
             · rw [e1, Nat.mul_zero, Nat.add_zero] at hgo
               omega
            rcases j with _ | _ | _
            · obtain ⟨e1, e2, _, _⟩ := s7 rfl
              subst e1
              subst e2
              simp only [iV, iM, oV, oM, oNum, iX, iP, gM]
              simp only [go_sem, hi, hr, hm, hdv, hu8, hwi, hkb, map_snoc, hq0']
              first
               | (have h9' := h9 rfl
                  obtain ⟨ho, hk⟩ := h9'
                  subst ho
                  subst hk
                  obtain ⟨z1, z2, z3, z4, z5⟩ := hst [48 + r % 10] rfl
                  exact ⟨by decide, ⟨by simp, fun _ => trivial⟩, by decide, ⟨some false, i + 1, r / 10, 1, [48 + r % 10]⟩, Kept.of rfl KT.z KM.z, ⟨by simp only []; omega, z1, z2, z3, z4, z5, fun e => by simp at e⟩, by simp only []; omega⟩)
               | (obtain ⟨z1, z2, z3, z4, z5⟩ := hst (o' ++ [48 + r % 10]) rfl
                  exact ⟨by decide, ⟨s2, by simp, fun _ => trivial⟩, by decide, ⟨some false, i + 1, r / 10, k' + 1, o' ++ [48 + r % 10]⟩, Kept.of rfl KT.z KM.z, ⟨by simp only []; omega, z1, z2, z3, z4, z5, fun e => by simp at e⟩, by simp only []; omega⟩)
            · simp only [iV, iM, oV, oM, oNum, iX, iP, gM]
              simp only [go_sem, hi, hr, hm, hdv, hu8, hwi, hkb, map_snoc, hq0']
              obtain ⟨z1, z2, z3, z4, z5⟩ := hst (o' ++ [48 + r % 10]) rfl
              exact ⟨by decide, ⟨s2, by simp, fun _ => trivial⟩, by decide, ⟨some true, i + 1, r / 10, k' + 1, o' ++ [48 + r % 10]⟩, Kept.of rfl KT.z KM.z, ⟨by simp only []; omega, z1, z2, z3, z4, z5, fun e => by simp at e⟩, by simp only []; omega⟩
            · simp only [iV, iM, oV, oM, oNum, iX, iP, gM]
              simp only [go_sem, hi, hr, hm, hdv, hu8, hwi, hkb, map_snoc, hq0']
              obtain ⟨z1, z2, z3, z4, z5⟩ := hst (o' ++ [48 + r % 10]) rfl
              exact ⟨by decide, ⟨s2, by simp, fun _ => trivial⟩, by decide, ⟨some false, i + 1, r / 10, k' + 1, o' ++ [48 + r % 10]⟩, Kept.of rfl KT.z KM.z, ⟨by simp only []; omega, z1, z2, z3, z4, z5, fun e => by simp at e⟩, by simp only []; omega⟩
          · have hr0 : r = 0 := by omega
            have hsp : w' ++ tl = w'.take (0) ++ (w'.drop (0) ++ tl) := by rw [← List.append_assoc, List.take_append_drop]
            have hdt : dOf 18446744073709551616 (w'.take (0)) = W2 := (dOf_trim q2).trans hW2
            have hW2lt : W2 < dOf 18446744073709551616 w := by rw [hW2] at t4; omega
            have hend : a = dv o' + 10 ^ k' * dOf 18446744073709551616 (w'.take (0)) := by
             rw [hdt, s5, hr0, Nat.zero_add]
             first
              | (rw [show 19 - i = 0 by omega, Nat.pow_zero, Nat.one_mul])
              | (rw [hW0, Nat.mul_zero])
            have hcn : w'.take (0) = [] → Canon (o'.map (· - 48)) := fun e => s6 (by rw [← hdt, e]; rfl) hr0
            have htl : (0) + (w'.drop (0) ++ tl).length = x.length := by rw [List.length_append, List.length_drop]; omega
            have hct : Canon (w'.take (0)) := by
             first
              | (exact canon_take (by omega) hzn)
              | (intro h; exact absurd rfl h)
            have hlt : (w'.take (0)).length = 0 := by rw [List.length_take]; omega
            rcases j with _ | _ | _
            · obtain ⟨_, _, e3, e4⟩ := s7 rfl
              first
               | omega
               | (exfalso; omega)
            · simp only [iV, iM, oV, oM, oNum, iP, gM]
              simp only [go_sem, hi, hr, Nat.lt_irrefl]
              rw [hsp]
              exact ⟨⟨0, w'.take (0), w'.drop (0) ++ tl, some (iP (some (false, false)) false), k', o'⟩, Kept.of rfl KT.z KM.z, ⟨hlt, s2, fun d hd => t2 d (List.mem_of_mem_take hd), hct, htl, s3, hend, hcn, fun e => by simp at e⟩, by simp only []; rw [hdt]; exact hW2lt⟩
            · simp only [iV, iM, oV, oM, oNum, iP, gM]
              simp only [go_sem, hi, hr, Nat.lt_irrefl]
              rw [hsp]
              exact ⟨⟨0, w'.take (0), w'.drop (0) ++ tl, some (iP (some (false, false)) true), k', o'⟩, Kept.of rfl KT.z KM.z, ⟨hlt, s2, fun d hd => t2 d (List.mem_of_mem_take hd), hct, htl, s3, hend, hcn, fun e => by simp at e⟩, by simp only []; rw [hdt]; exact hW2lt⟩
        · have hr0 : r = 0 := by
           rw [show 19 - i = 0 by omega] at s4; omega
          have hsp : w' ++ tl = w'.take (0) ++ (w'.drop (0) ++ tl) := by rw [← List.append_assoc, List.take_append_drop]
          have hdt : dOf 18446744073709551616 (w'.take (0)) = W2 := (dOf_trim q2).trans hW2
          have hW2lt : W2 < dOf 18446744073709551616 w := by rw [hW2] at t4; omega
          have hend : a = dv o' + 10 ^ k' * dOf 18446744073709551616 (w'.take (0)) := by
           rw [hdt, s5, hr0, Nat.zero_add]
           first
            | (rw [show 19 - i = 0 by omega, Nat.pow_zero, Nat.one_mul])
            | (rw [hW0, Nat.mul_zero])
          have hcn : w'.take (0) = [] → Canon (o'.map (· - 48)) := fun e => s6 (by rw [← hdt, e]; rfl) hr0
          have htl : (0) + (w'.drop (0) ++ tl).length = x.length := by rw [List.length_append, List.length_drop]; omega
          have hct : Canon (w'.take (0)) := by
           first
            | (exact canon_take (by omega) hzn)
            | (intro h; exact absurd rfl h)
          have hlt : (w'.take (0)).length = 0 := by rw [List.length_take]; omega
          rcases j with _ | _ | _
          · obtain ⟨_, _, e3, e4⟩ := s7 rfl
            first
             | omega
             | (exfalso; omega)
          · simp only [iV, iM, oV, oM, oNum, iP, gM]
            simp only [go_sem, hi]
            rw [hsp]
            exact ⟨⟨0, w'.take (0), w'.drop (0) ++ tl, some (iP (some (false, false)) false), k', o'⟩, Kept.of rfl KT.z KM.z, ⟨hlt, s2, fun d hd => t2 d (List.mem_of_mem_take hd), hct, htl, s3, hend, hcn, fun e => by simp at e⟩, by simp only []; rw [hdt]; exact hW2lt⟩
          · simp only [iV, iM, oV, oM, oNum, iP, gM]
            simp only [go_sem, hi]
            rw [hsp]
            exact ⟨⟨0, w'.take (0), w'.drop (0) ++ tl, some (iP (some (false, false)) true), k', o'⟩, Kept.of rfl KT.z KM.z, ⟨hlt, s2, fun d hd => t2 d (List.mem_of_mem_take hd), hct, htl, s3, hend, hcn, fun e => by simp at e⟩, by simp only []; rw [hdt]; exact hW2lt⟩
      | succ q =>
        have hql : q < w'.length := by omega
        have hqg : q < (w' ++ tl).length := by rw [List.length_append]; omega
        have hqn : q < w'.length + tl.length := by omega
        have hgt : (w' ++ tl).getD q 0 = w'.getD q 0 := getD_left hql
        have hqi := wi_nat q (by omega)
        have hq1 : q < q + 1 := by omega
        have hq2 : q ≤ q + 1 := by omega
        have hq3 : q ≤ w'.length + tl.length := by omega
        rcases (by cases (w'.getD q 0 == 0) <;> simp : (w'.getD q 0 == 0) = true ∨ (w'.getD q 0 == 0) = false) with hz | hz
        · simp only [oV, oM, oNum]
          simp only [go_sem, Nat.succ_pos, hqi, hq1, hqg, hqn, gU hqg, hgt, hz, hq2, hq3]
          exact ⟨by simp, q, Kept.of rfl KT.z KM.z, ⟨by omega, fun i hi => by
           rcases Nat.eq_or_lt_of_le hi with rfl | hi
           · simpa using hz
           · exact q2 i hi⟩, by omega⟩
        · have hzn : w'.getD q 0 ≠ 0 := by simpa using hz
          have hW0 : 0 < W2 := by
           rw [← hW2]; exact dOf_pos hql hzn
          simp only [oV, oM, oNum]
          simp only [go_sem, Nat.succ_pos, hqi, hq1, hqg, hqn, gU hqg, hgt, hz]
          refine trX_loopV HE hP.mix (fun y : T3 => iL [4, 0] (some (false, false)) y.j) (fun y => ⟨upd (upd (upd (upd (upd (fun _ => .junk) 2 (.str ⟨#[]⟩)) 3 (.sl 4 0 (q + 1) 1)) 4 (iV (some (false, false)) y.j y.k)) 5 (.int .u64 (y.r : Int))) 6 (.int .i64 (y.i : Int)), iM .u8 (upd (upd (fun _ => .unused) 0 (.live [.opq (.nat a), .pad])) 4 (.live (List.map (fun d : Nat => AV.int .u64 (d : Int)) (w' ++ tl)))) (some (false, false)) y.j o y.o, 85⟩)
           (fun y => y.i ≤ 19 ∧ y.o.length = y.k ∧ byt y.o ∧ y.r < 10 ^ (19 - y.i) ∧ a = dv y.o + 10 ^ y.k * (y.r + 10 ^ (19 - y.i) * W2) ∧ (W2 = 0 → y.r = 0 → Canon (y.o.map (· - 48))) ∧ (y.j = none → y.o = o ∧ y.k = k ∧ y.i = 0 ∧ (0 < W2 ∨ 0 < y.r))) (fun y => 20 - y.i) ⟨none, 0, c, k, o⟩ (fun y => iX (some (false, false)) 15 y.j)
           (fun x r hr => iL_has (k := .u8) (l := o) Has.z (some (false, false)) x.j r hr) (Kept.of rfl KT.z KM.z) ⟨by simp, h2, h6, t3, hA, fun e1 e2 => absurd hWc (by have e1 : W2 = 0 := e1; have e2 : c = 0 := e2; omega), fun _ => ⟨rfl, rfl, rfl, hWc⟩⟩ 85 (by kernel_rfl) ?_
          rintro ⟨j, i, r, k', o'⟩ ⟨s1, s2, s3, s4, s5, s6, s7⟩
          simp only [] at s1 s2 s3 s4 s5 s6 s7
          have hpw : i < 19 → 10 ^ (19 - i) = 10 * 10 ^ (19 - (i + 1)) := fun h => by rw [show 19 - i = 19 - (i + 1) + 1 by omega, Nat.pow_succ, Nat.mul_comm]
          have hm : (r : Int).tmod 10 = ((r % 10 : Nat) : Int) := rfl
          have hrb : r < 18446744073709551616 := Nat.lt_of_lt_of_le s4 (Nat.le_trans (Nat.pow_le_pow_right (by decide) (show 19 - i ≤ 19 by omega)) (by decide))
          have hdv : IntKind.u64.wrap ((r : Int).tdiv 10) = ((r / 10 : Nat) : Int) := wu_div r 10 hrb
          have hu8 := u8_dig r
          have hwi := wi_add1 i (by omega)
          have hq0' : 0 < q9 + 1 := Nat.succ_pos q9
          have hq0 : 0 < q + 1 := Nat.succ_pos q
          by_cases hi : i < 19
          · have hgo : 1 ≤ r + 10 ^ (19 - i) * W2 := by
             have := Nat.mul_pos (Nat.pow_pos (show 0 < 10 by decide) (n := 19 - i)) hW0
             omega
            have hr := hq0
            have hkb : k' + 1 ≤ 1099511627776 := by
             have h1 : 10 ^ k' * 1 ≤ 10 ^ k' * (r + 10 ^ (19 - i) * W2) := Nat.mul_le_mul_left _ hgo
             have h2 : 2 ^ k' ≤ 10 ^ k' := Nat.pow_le_pow_left (by decide) _
             have h3 := blen_lt a
             have h4 : k' < blen a := (Nat.pow_lt_pow_iff_right (a := 2) (by decide)).1 (by omega)
             omega
            have hst : ∀ o'' : List Nat, o'' = o' ++ [48 + r % 10] → o''.length = k' + 1 ∧ byt o'' ∧ r / 10 < 10 ^ (19 - (i + 1)) ∧ a = dv o'' + 10 ^ (k' + 1) * (r / 10 + 10 ^ (19 - (i + 1)) * W2) ∧ (W2 = 0 → r / 10 = 0 → Canon (o''.map (· - 48))) := fun o'' ho => by
             subst ho
             refine ⟨by simp [s2], byt_snoc s3 r, by have := hpw hi; omega, ?_, fun e1 e2 => snoc_canon _ _ ?_⟩
             · rw [dv_snoc, s2, Nat.pow_succ]
               rw [hpw hi, Nat.mul_assoc] at s5
               exact dig_step s5
             · rw [e1, Nat.mul_zero, Nat.add_zero] at hgo
               omega
            rcases j with _ | _ | _
            · obtain ⟨e1, e2, _, _⟩ := s7 rfl
              subst e1
              subst e2
              simp only [iV, iM, oV, oM, oNum, iX, iP, gM]
              simp only [go_sem, hi, hr, hm, hdv, hu8, hwi, hkb, map_snoc, hq0']
              first
               | (have h9' := h9 rfl
                  obtain ⟨ho, hk⟩ := h9'
                  subst ho
                  subst hk
                  obtain ⟨z1, z2, z3, z4, z5⟩ := hst [48 + r % 10] rfl
                  exact ⟨by decide, ⟨by simp, fun _ => trivial⟩, by decide, ⟨some false, i + 1, r / 10, 1, [48 + r % 10]⟩, Kept.of rfl KT.z KM.z, ⟨by simp only []; omega, z1, z2, z3, z4, z5, fun e => by simp at e⟩, by simp only []; omega⟩)
               | (obtain ⟨z1, z2, z3, z4, z5⟩ := hst (o' ++ [48 + r % 10]) rfl
                  exact ⟨by decide, ⟨s2, by simp, fun _ => trivial⟩, by decide, ⟨some false, i + 1, r / 10, k' + 1, o' ++ [48 + r % 10]⟩, Kept.of rfl KT.z KM.z, ⟨by simp only []; omega, z1, z2, z3, z4, z5, fun e => by simp at e⟩, by simp only []; omega⟩)
            · simp only [iV, iM, oV, oM, oNum, iX, iP, gM]
              simp only [go_sem, hi, hr, hm, hdv, hu8, hwi, hkb, map_snoc, hq0']
              obtain ⟨z1, z2, z3, z4, z5⟩ := hst (o' ++ [48 + r % 10]) rfl
              exact ⟨by decide, ⟨s2, by simp, fun _ => trivial⟩, by decide, ⟨some true, i + 1, r / 10, k' + 1, o' ++ [48 + r % 10]⟩, Kept.of rfl KT.z KM.z, ⟨by simp only []; omega, z1, z2, z3, z4, z5, fun e => by simp at e⟩, by simp only []; omega⟩
            · simp only [iV, iM, oV, oM, oNum, iX, iP, gM]
              simp only [go_sem, hi, hr, hm, hdv, hu8, hwi, hkb, map_snoc, hq0']
              obtain ⟨z1, z2, z3, z4, z5⟩ := hst (o' ++ [48 + r % 10]) rfl
              exact ⟨by decide, ⟨s2, by simp, fun _ => trivial⟩, by decide, ⟨some false, i + 1, r / 10, k' + 1, o' ++ [48 + r % 10]⟩, Kept.of rfl KT.z KM.z, ⟨by simp only []; omega, z1, z2, z3, z4, z5, fun e => by simp at e⟩, by simp only []; omega⟩
          · have hr0 : r = 0 := by
             rw [show 19 - i = 0 by omega] at s4; omega
            have hsp : w' ++ tl = w'.take (q + 1) ++ (w'.drop (q + 1) ++ tl) := by rw [← List.append_assoc, List.take_append_drop]
            have hdt : dOf 18446744073709551616 (w'.take (q + 1)) = W2 := (dOf_trim q2).trans hW2
            have hW2lt : W2 < dOf 18446744073709551616 w := by rw [hW2] at t4; omega
            have hend : a = dv o' + 10 ^ k' * dOf 18446744073709551616 (w'.take (q + 1)) := by
             rw [hdt, s5, hr0, Nat.zero_add]
             first
              | (rw [show 19 - i = 0 by omega, Nat.pow_zero, Nat.one_mul])
              | (rw [hW0, Nat.mul_zero])
            have hcn : w'.take (q + 1) = [] → Canon (o'.map (· - 48)) := fun e => s6 (by rw [← hdt, e]; rfl) hr0
            have htl : (q + 1) + (w'.drop (q + 1) ++ tl).length = x.length := by rw [List.length_append, List.length_drop]; omega
            have hct : Canon (w'.take (q + 1)) := by
             first
              | (exact canon_take (by omega) hzn)
              | (intro h; exact absurd rfl h)
            have hlt : (w'.take (q + 1)).length = q + 1 := by rw [List.length_take]; omega
            rcases j with _ | _ | _
            · obtain ⟨_, _, e3, e4⟩ := s7 rfl
              first
               | omega
               | (exfalso; omega)
            · simp only [iV, iM, oV, oM, oNum, iP, gM]
              simp only [go_sem, hi]
              rw [hsp]
              exact ⟨⟨q + 1, w'.take (q + 1), w'.drop (q + 1) ++ tl, some (iP (some (false, false)) false), k', o'⟩, Kept.of rfl KT.z KM.z, ⟨hlt, s2, fun d hd => t2 d (List.mem_of_mem_take hd), hct, htl, s3, hend, hcn, fun e => by simp at e⟩, by simp only []; rw [hdt]; exact hW2lt⟩
            · simp only [iV, iM, oV, oM, oNum, iP, gM]
              simp only [go_sem, hi]
              rw [hsp]
              exact ⟨⟨q + 1, w'.take (q + 1), w'.drop (q + 1) ++ tl, some (iP (some (false, false)) true), k', o'⟩, Kept.of rfl KT.z KM.z, ⟨hlt, s2, fun d hd => t2 d (List.mem_of_mem_take hd), hct, htl, s3, hend, hcn, fun e => by simp at e⟩, by simp only []; rw [hdt]; exact hW2lt⟩
     ·
      simp only [oV, oM, oNum]
      simp only [go_sem, hn]
      refine short_ic hP (L := [120, 4, 0]) (y := 10000000000000000000) (by repeat (first | exact GenM.nil | refine GenM.upd ?_ rfl (by first | rfl | exact objOnly_U))) rfl rfl h1 (by omega) h3 (by decide) (by decide) ?_
      intro nx w' c t1 t2 t3 t4
      simp only [go_sem]
      refine trX_loop HE hP.mix [120, 4, 0] (fun q : Nat => ⟨upd (upd (upd (upd (fun _ => .junk) 2 (.str ⟨#[]⟩)) 3 (.sl 4 0 q 1)) 4 (oV (some (false, true)) k)) 5 (.int .u64 (c : Int)), oM .u8 (upd (upd (fun _ => .unused) 0 (.live [.opq (.nat a), .pad])) 4 (.live (List.map (fun d : Nat => AV.int .u64 (d : Int)) (w' ++ tl)))) (some (false, true)) o, 85⟩)
       (fun q => q ≤ n ∧ ∀ i, q ≤ i → w'.getD i 0 = 0) (fun q => q) n 20 Has.z (Kept.of rfl KT.z KM.z) ⟨Nat.le_refl _, fun i hi => getD_ge (by omega)⟩ 85 (by kernel_rfl) ?_
      rintro q ⟨q1, q2⟩
      obtain ⟨W2, hW2⟩ : ∃ W, dOf 18446744073709551616 w' = W := ⟨_, rfl⟩
      have hA : a = dv o + 10 ^ k * (c + 10 ^ (19 - 0) * W2) := by rw [h7, ← t4, hW2, Nat.mul_comm W2, Nat.add_comm c]
      have hWc : 0 < W2 ∨ 0 < c := by
       rw [← t4, hW2] at hW; omega
      obtain ⟨q9, hq9⟩ : ∃ q9, q9 + 1 = q + 1 := ⟨q, rfl⟩
      cases q with
      | zero =>
        have hW0 : W2 = 0 := by rw [← hW2, ← dOf_trim q2]; rfl
        simp only [oV, oM, oNum]
        simp only [go_sem, Nat.succ_pos, Nat.lt_irrefl]
        refine trX_loopV HE hP.mix (fun y : T3 => iL [4, 0] (some (false, true)) y.j) (fun y => ⟨upd (upd (upd (upd (upd (fun _ => .junk) 2 (.str ⟨#[]⟩)) 3 (.sl 4 0 (0) 1)) 4 (iV (some (false, true)) y.j y.k)) 5 (.int .u64 (y.r : Int))) 6 (.int .i64 (y.i : Int)), iM .u8 (upd (upd (fun _ => .unused) 0 (.live [.opq (.nat a), .pad])) 4 (.live (List.map (fun d : Nat => AV.int .u64 (d : Int)) (w' ++ tl)))) (some (false, true)) y.j o y.o, 85⟩)
         (fun y => y.i ≤ 19 ∧ y.o.length = y.k ∧ byt y.o ∧ y.r < 10 ^ (19 - y.i) ∧ a = dv y.o + 10 ^ y.k * (y.r + 10 ^ (19 - y.i) * W2) ∧ (W2 = 0 → y.r = 0 → Canon (y.o.map (· - 48))) ∧ (y.j = none → y.o = o ∧ y.k = k ∧ y.i = 0 ∧ (0 < W2 ∨ 0 < y.r))) (fun y => 20 - y.i) ⟨none, 0, c, k, o⟩ (fun y => iX (some (false, true)) 17 y.j)
         (fun x r hr => iL_has (k := .u8) (l := o) Has.z (some (false, true)) x.j r hr) (Kept.of rfl KT.z KM.z) ⟨by simp, h2, h6, t3, hA, fun e1 e2 => absurd hWc (by have e1 : W2 = 0 := e1; have e2 : c = 0 := e2; omega), fun _ => ⟨rfl, rfl, rfl, hWc⟩⟩ 85 (by kernel_rfl) ?_
        rintro ⟨j, i, r, k', o'⟩ ⟨s1, s2, s3, s4, s5, s6, s7⟩
        simp only [] at s1 s2 s3 s4 s5 s6 s7
        have hpw : i < 19 → 10 ^ (19 - i) = 10 * 10 ^ (19 - (i + 1)) := fun h => by rw [show 19 - i = 19 - (i + 1) + 1 by omega, Nat.pow_succ, Nat.mul_comm]
        have hm : (r : Int).tmod 10 = ((r % 10 : Nat) : Int) := rfl
        have hrb : r < 18446744073709551616 := Nat.lt_of_lt_of_le s4 (Nat.le_trans (Nat.pow_le_pow_right (by decide) (show 19 - i ≤ 19 by omega)) (by decide))
        have hdv : IntKind.u64.wrap ((r : Int).tdiv 10) = ((r / 10 : Nat) : Int) := wu_div r 10 hrb
        have hu8 := u8_dig r
        have hwi := wi_add1 i (by omega)
        have hq0' : 0 < q9 + 1 := Nat.succ_pos q9
        by_cases hi : i < 19
        · by_cases hr : 0 < r
          · have hgo : 1 ≤ r + 10 ^ (19 - i) * W2 := by omega
            have hkb : k' + 1 ≤ 1099511627776 := by
             have h1 : 10 ^ k' * 1 ≤ 10 ^ k' * (r + 10 ^ (19 - i) * W2) := Nat.mul_le_mul_left _ hgo
             have h2 : 2 ^ k' ≤ 10 ^ k' := Nat.pow_le_pow_left (by decide) _
             have h3 := blen_lt a
             have h4 : k' < blen a := (Nat.pow_lt_pow_iff_right (a := 2) (by decide)).1 (by omega)
             omega
            have hst : ∀ o'' : List Nat, o'' = o' ++ [48 + r % 10] → o''.length = k' + 1 ∧ byt o'' ∧ r / 10 < 10 ^ (19 - (i + 1)) ∧ a = dv o'' + 10 ^ (k' + 1) * (r / 10 + 10 ^ (19 - (i + 1)) * W2) ∧ (W2 = 0 → r / 10 = 0 → Canon (o''.map (· - 48))) := fun o'' ho => by
             subst ho
             refine ⟨by simp [s2], byt_snoc s3 r, by have := hpw hi; omega, ?_, fun e1 e2 => snoc_canon _ _ ?_⟩
             · rw [dv_snoc, s2, Nat.pow_succ]
               rw [hpw hi, Nat.mul_assoc] at s5
               exact dig_step s5
             · rw [e1, Nat.mul_zero, Nat.add_zero] at hgo
               omega
            rcases j with _ | _ | _
            · obtain ⟨e1, e2, _, _⟩ := s7 rfl
              subst e1
              subst e2
              simp only [iV, iM, oV, oM, oNum, iX, iP, gM]
              simp only [go_sem, hi, hr, hm, hdv, hu8, hwi, hkb, map_snoc, hq0']
              first
               | (have h9' := h9 rfl
                  obtain ⟨ho, hk⟩ := h9'
                  subst ho
                  subst hk
                  obtain ⟨z1, z2, z3, z4, z5⟩ := hst [48 + r % 10] rfl
                  exact ⟨by decide, ⟨by simp, fun _ => trivial⟩, by decide, ⟨some false, i + 1, r / 10, 1, [48 + r % 10]⟩, Kept.of rfl KT.z KM.z, ⟨by simp only []; omega, z1, z2, z3, z4, z5, fun e => by simp at e⟩, by simp only []; omega⟩)
               | (obtain ⟨z1, z2, z3, z4, z5⟩ := hst (o' ++ [48 + r % 10]) rfl
                  exact ⟨by decide, ⟨s2, by simp, fun _ => trivial⟩, by decide, ⟨some false, i + 1, r / 10, k' + 1, o' ++ [48 + r % 10]⟩, Kept.of rfl KT.z KM.z, ⟨by simp only []; omega, z1, z2, z3, z4, z5, fun e => by simp at e⟩, by simp only []; omega⟩)
            · simp only [iV, iM, oV, oM, oNum, iX, iP, gM]
              simp only [go_sem, hi, hr, hm, hdv, hu8, hwi, hkb, map_snoc, hq0']
              obtain ⟨z1, z2, z3, z4, z5⟩ := hst (o' ++ [48 + r % 10]) rfl
              exact ⟨by decide, ⟨s2, by simp, fun _ => trivial⟩, by decide, ⟨some true, i + 1, r / 10, k' + 1, o' ++ [48 + r % 10]⟩, Kept.of rfl KT.z KM.z, ⟨by simp only []; omega, z1, z2, z3, z4, z5, fun e => by simp at e⟩, by simp only []; omega⟩
            · simp only [iV, iM, oV, oM, oNum, iX, iP, gM]
              simp only [go_sem, hi, hr, hm, hdv, hu8, hwi, hkb, map_snoc, hq0']
              obtain ⟨z1, z2, z3, z4, z5⟩ := hst (o' ++ [48 + r % 10]) rfl
              exact ⟨by decide, ⟨s2, by simp, fun _ => trivial⟩, by decide, ⟨some false, i + 1, r / 10, k' + 1, o' ++ [48 + r % 10]⟩, Kept.of rfl KT.z KM.z, ⟨by simp only []; omega, z1, z2, z3, z4, z5, fun e => by simp at e⟩, by simp only []; omega⟩
          · have hr0 : r = 0 := by omega
            have hsp : w' ++ tl = w'.take (0) ++ (w'.drop (0) ++ tl) := by rw [← List.append_assoc, List.take_append_drop]
            have hdt : dOf 18446744073709551616 (w'.take (0)) = W2 := (dOf_trim q2).trans hW2
            have hW2lt : W2 < dOf 18446744073709551616 w := by rw [hW2] at t4; omega
            have hend : a = dv o' + 10 ^ k' * dOf 18446744073709551616 (w'.take (0)) := by
             rw [hdt, s5, hr0, Nat.zero_add]
             first
              | (rw [show 19 - i = 0 by omega, Nat.pow_zero, Nat.one_mul])
              | (rw [hW0, Nat.mul_zero])
            have hcn : w'.take (0) = [] → Canon (o'.map (· - 48)) := fun e => s6 (by rw [← hdt, e]; rfl) hr0
            have htl : (0) + (w'.drop (0) ++ tl).length = x.length := by rw [List.length_append, List.length_drop]; omega
            have hct : Canon (w'.take (0)) := by
             first
              | (exact canon_take (by omega) hzn)
              | (intro h; exact absurd rfl h)
            have hlt : (w'.take (0)).length = 0 := by rw [List.length_take]; omega
            rcases j with _ | _ | _
            · obtain ⟨_, _, e3, e4⟩ := s7 rfl
              first
               | omega
               | (exfalso; omega)
            · simp only [iV, iM, oV, oM, oNum, iP, gM]
              simp only [go_sem, hi, hr, Nat.lt_irrefl]
              rw [hsp]
              exact ⟨⟨0, w'.take (0), w'.drop (0) ++ tl, some (iP (some (false, true)) false), k', o'⟩, Kept.of rfl KT.z KM.z, ⟨hlt, s2, fun d hd => t2 d (List.mem_of_mem_take hd), hct, htl, s3, hend, hcn, fun e => by simp at e⟩, by simp only []; rw [hdt]; exact hW2lt⟩
            · simp only [iV, iM, oV, oM, oNum, iP, gM]
              simp only [go_sem, hi, hr, Nat.lt_irrefl]
              rw [hsp]
              exact ⟨⟨0, w'.take (0), w'.drop (0) ++ tl, some (iP (some (false, true)) true), k', o'⟩, Kept.of rfl KT.z KM.z, ⟨hlt, s2, fun d hd => t2 d (List.mem_of_mem_take hd), hct, htl, s3, hend, hcn, fun e => by simp at e⟩, by simp only []; rw [hdt]; exact hW2lt⟩
        · have hr0 : r = 0 := by
           rw [show 19 - i = 0 by omega] at s4; omega
          have hsp : w' ++ tl = w'.take (0) ++ (w'.drop (0) ++ tl) := by rw [← List.append_assoc, List.take_append_drop]
          have hdt : dOf 18446744073709551616 (w'.take (0)) = W2 := (dOf_trim q2).trans hW2
          have hW2lt : W2 < dOf 18446744073709551616 w := by rw [hW2] at t4; omega
          have hend : a = dv o' + 10 ^ k' * dOf 18446744073709551616 (w'.take (0)) := by
           rw [hdt, s5, hr0, Nat.zero_add]
           first
            | (rw [show 19 - i = 0 by omega, Nat.pow_zero, Nat.one_mul])
            | (rw [hW0, Nat.mul_zero])
          have hcn : w'.take (0) = [] → Canon (o'.map (· - 48)) := fun e => s6 (by rw [← hdt, e]; rfl) hr0
          have htl : (0) + (w'.drop (0) ++ tl).length = x.length := by rw [List.length_append, List.length_drop]; omega
          have hct : Canon (w'.take (0)) := by
           first
            | (exact canon_take (by omega) hzn)
            | (intro h; exact absurd rfl h)
          have hlt : (w'.take (0)).length = 0 := by rw [List.length_take]; omega
          rcases j with _ | _ | _
          · obtain ⟨_, _, e3, e4⟩ := s7 rfl
            first
             | omega
             | (exfalso; omega)
          · simp only [iV, iM, oV, oM, oNum, iP, gM]
            simp only [go_sem, hi]
            rw [hsp]
            exact ⟨⟨0, w'.take (0), w'.drop (0) ++ tl, some (iP (some (false, true)) false), k', o'⟩, Kept.of rfl KT.z KM.z, ⟨hlt, s2, fun d hd => t2 d (List.mem_of_mem_take hd), hct, htl, s3, hend, hcn, fun e => by simp at e⟩, by simp only []; rw [hdt]; exact hW2lt⟩
          · simp only [iV, iM, oV, oM, oNum, iP, gM]
            simp only [go_sem, hi]
            rw [hsp]
            exact ⟨⟨0, w'.take (0), w'.drop (0) ++ tl, some (iP (some (false, true)) true), k', o'⟩, Kept.of rfl KT.z KM.z, ⟨hlt, s2, fun d hd => t2 d (List.mem_of_mem_take hd), hct, htl, s3, hend, hcn, fun e => by simp at e⟩, by simp only []; rw [hdt]; exact hW2lt⟩
      | succ q =>
        have hql : q < w'.length := by omega
        have hqg : q < (w' ++ tl).length := by rw [List.length_append]; omega
        have hqn : q < w'.length + tl.length := by omega
        have hgt : (w' ++ tl).getD q 0 = w'.getD q 0 := getD_left hql
        have hqi := wi_nat q (by omega)
        have hq1 : q < q + 1 := by omega
        have hq2 : q ≤ q + 1 := by omega
        have hq3 : q ≤ w'.length + tl.length := by omega
        rcases (by cases (w'.getD q 0 == 0) <;> simp : (w'.getD q 0 == 0) = true ∨ (w'.getD q 0 == 0) = false) with hz | hz
        · simp only [oV, oM, oNum]
          simp only [go_sem, Nat.succ_pos, hqi, hq1, hqg, hqn, gU hqg, hgt, hz, hq2, hq3]
          exact ⟨by simp, q, Kept.of rfl KT.z KM.z, ⟨by omega, fun i hi => by
           rcases Nat.eq_or_lt_of_le hi with rfl | hi
           · simpa using hz
           · exact q2 i hi⟩, by omega⟩
        · have hzn : w'.getD q 0 ≠ 0 := by simpa using hz
          have hW0 : 0 < W2 := by
           rw [← hW2]; exact dOf_pos hql hzn
          simp only [oV, oM, oNum]
          simp only [go_sem, Nat.succ_pos, hqi, hq1, hqg, hqn, gU hqg, hgt, hz]
          refine trX_loopV HE hP.mix (fun y : T3 => iL [4, 0] (some (false, true)) y.j) (fun y => ⟨upd (upd (upd (upd (upd (fun _ => .junk) 2 (.str ⟨#[]⟩)) 3 (.sl 4 0 (q + 1) 1)) 4 (iV (some (false, true)) y.j y.k)) 5 (.int .u64 (y.r : Int))) 6 (.int .i64 (y.i : Int)), iM .u8 (upd (upd (fun _ => .unused) 0 (.live [.opq (.nat a), .pad])) 4 (.live (List.map (fun d : Nat => AV.int .u64 (d : Int)) (w' ++ tl)))) (some (false, true)) y.j o y.o, 85⟩)
           (fun y => y.i ≤ 19 ∧ y.o.length = y.k ∧ byt y.o ∧ y.r < 10 ^ (19 - y.i) ∧ a = dv y.o + 10 ^ y.k * (y.r + 10 ^ (19 - y.i) * W2) ∧ (W2 = 0 → y.r = 0 → Canon (y.o.map (· - 48))) ∧ (y.j = none → y.o = o ∧ y.k = k ∧ y.i = 0 ∧ (0 < W2 ∨ 0 < y.r))) (fun y => 20 - y.i) ⟨none, 0, c, k, o⟩ (fun y => iX (some (false, true)) 15 y.j)
           (fun x r hr => iL_has (k := .u8) (l := o) Has.z (some (false, true)) x.j r hr) (Kept.of rfl KT.z KM.z) ⟨by simp, h2, h6, t3, hA, fun e1 e2 => absurd hWc (by have e1 : W2 = 0 := e1; have e2 : c = 0 := e2; omega), fun _ => ⟨rfl, rfl, rfl, hWc⟩⟩ 85 (by kernel_rfl) ?_
          rintro ⟨j, i, r, k', o'⟩ ⟨s1, s2, s3, s4, s5, s6, s7⟩
          simp only [] at s1 s2 s3 s4 s5 s6 s7
          have hpw : i < 19 → 10 ^ (19 - i) = 10 * 10 ^ (19 - (i + 1)) := fun h => by rw [show 19 - i = 19 - (i + 1) + 1 by omega, Nat.pow_succ, Nat.mul_comm]
          have hm : (r : Int).tmod 10 = ((r % 10 : Nat) : Int) := rfl
          have hrb : r < 18446744073709551616 := Nat.lt_of_lt_of_le s4 (Nat.le_trans (Nat.pow_le_pow_right (by decide) (show 19 - i ≤ 19 by omega)) (by decide))
          have hdv : IntKind.u64.wrap ((r : Int).tdiv 10) = ((r / 10 : Nat) : Int) := wu_div r 10 hrb
          have hu8 := u8_dig r
          have hwi := wi_add1 i (by omega)
          have hq0' : 0 < q9 + 1 := Nat.succ_pos q9
          have hq0 : 0 < q + 1 := Nat.succ_pos q
          by_cases hi : i < 19
          · have hgo : 1 ≤ r + 10 ^ (19 - i) * W2 := by
             have := Nat.mul_pos (Nat.pow_pos (show 0 < 10 by decide) (n := 19 - i)) hW0
             omega
            have hr := hq0
            have hkb : k' + 1 ≤ 1099511627776 := by
             have h1 : 10 ^ k' * 1 ≤ 10 ^ k' * (r + 10 ^ (19 - i) * W2) := Nat.mul_le_mul_left _ hgo
             have h2 : 2 ^ k' ≤ 10 ^ k' := Nat.pow_le_pow_left (by decide) _
             have h3 := blen_lt a
             have h4 : k' < blen a := (Nat.pow_lt_pow_iff_right (a := 2) (by decide)).1 (by omega)
             omega
            have hst : ∀ o'' : List Nat, o'' = o' ++ [48 + r % 10] → o''.length = k' + 1 ∧ byt o'' ∧ r / 10 < 10 ^ (19 - (i + 1)) ∧ a = dv o'' + 10 ^ (k' + 1) * (r / 10 + 10 ^ (19 - (i + 1)) * W2) ∧ (W2 = 0 → r / 10 = 0 → Canon (o''.map (· - 48))) := fun o'' ho => by
             subst ho
             refine ⟨by simp [s2], byt_snoc s3 r, by have := hpw hi; omega, ?_, fun e1 e2 => snoc_canon _ _ ?_⟩
             · rw [dv_snoc, s2, Nat.pow_succ]
               rw [hpw hi, Nat.mul_assoc] at s5
               exact dig_step s5
             · rw [e1, Nat.mul_zero, Nat.add_zero] at hgo
               omega
            rcases j with _ | _ | _
            · obtain ⟨e1, e2, _, _⟩ := s7 rfl
              subst e1
              subst e2
              simp only [iV, iM, oV, oM, oNum, iX, iP, gM]
              simp only [go_sem, hi, hr, hm, hdv, hu8, hwi, hkb, map_snoc, hq0']
              first
               | (have h9' := h9 rfl
                  obtain ⟨ho, hk⟩ := h9'
                  subst ho
                  subst hk
                  obtain ⟨z1, z2, z3, z4, z5⟩ := hst [48 + r % 10] rfl
                  exact ⟨by decide, ⟨by simp, fun _ => trivial⟩, by decide, ⟨some false, i + 1, r / 10, 1, [48 + r % 10]⟩, Kept.of rfl KT.z KM.z, ⟨by simp only []; omega, z1, z2, z3, z4, z5, fun e => by simp at e⟩, by simp only []; omega⟩)
               | (obtain ⟨z1, z2, z3, z4, z5⟩ := hst (o' ++ [48 + r % 10]) rfl
                  exact ⟨by decide, ⟨s2, by simp, fun _ => trivial⟩, by decide, ⟨some false, i + 1, r / 10, k' + 1, o' ++ [48 + r % 10]⟩, Kept.of rfl KT.z KM.z, ⟨by simp only []; omega, z1, z2, z3, z4, z5, fun e => by simp at e⟩, by simp only []; omega⟩)
            · simp only [iV, iM, oV, oM, oNum, iX, iP, gM]
              simp only [go_sem, hi, hr, hm, hdv, hu8, hwi, hkb, map_snoc, hq0']
              obtain ⟨z1, z2, z3, z4, z5⟩ := hst (o' ++ [48 + r % 10]) rfl
              exact ⟨by decide, ⟨s2, by simp, fun _ => trivial⟩, by decide, ⟨some true, i + 1, r / 10, k' + 1, o' ++ [48 + r % 10]⟩, Kept.of rfl KT.z KM.z, ⟨by simp only []; omega, z1, z2, z3, z4, z5, fun e => by simp at e⟩, by simp only []; omega⟩
            · simp only [iV, iM, oV, oM, oNum, iX, iP, gM]
              simp only [go_sem, hi, hr, hm, hdv, hu8, hwi, hkb, map_snoc, hq0']
              obtain ⟨z1, z2, z3, z4, z5⟩ := hst (o' ++ [48 + r % 10]) rfl
              exact ⟨by decide, ⟨s2, by simp, fun _ => trivial⟩, by decide, ⟨some false, i + 1, r / 10, k' + 1, o' ++ [48 + r % 10]⟩, Kept.of rfl KT.z KM.z, ⟨by simp only []; omega, z1, z2, z3, z4, z5, fun e => by simp at e⟩, by simp only []; omega⟩
          · have hr0 : r = 0 := by
             rw [show 19 - i = 0 by omega] at s4; omega
            have hsp : w' ++ tl = w'.take (q + 1) ++ (w'.drop (q + 1) ++ tl) := by rw [← List.append_assoc, List.take_append_drop]
            have hdt : dOf 18446744073709551616 (w'.take (q + 1)) = W2 := (dOf_trim q2).trans hW2
            have hW2lt : W2 < dOf 18446744073709551616 w := by rw [hW2] at t4; omega
            have hend : a = dv o' + 10 ^ k' * dOf 18446744073709551616 (w'.take (q + 1)) := by
             rw [hdt, s5, hr0, Nat.zero_add]
             first
              | (rw [show 19 - i = 0 by omega, Nat.pow_zero, Nat.one_mul])
              | (rw [hW0, Nat.mul_zero])
            have hcn : w'.take (q + 1) = [] → Canon (o'.map (· - 48)) := fun e => s6 (by rw [← hdt, e]; rfl) hr0
            have htl : (q + 1) + (w'.drop (q + 1) ++ tl).length = x.length := by rw [List.length_append, List.length_drop]; omega
            have hct : Canon (w'.take (q + 1)) := by
             first
              | (exact canon_take (by omega) hzn)
              | (intro h; exact absurd rfl h)
            have hlt : (w'.take (q + 1)).length = q + 1 := by rw [List.length_take]; omega
            rcases j with _ | _ | _
            · obtain ⟨_, _, e3, e4⟩ := s7 rfl
              first
               | omega
               | (exfalso; omega)
            · simp only [iV, iM, oV, oM, oNum, iP, gM]
              simp only [go_sem, hi]
              rw [hsp]
              exact ⟨⟨q + 1, w'.take (q + 1), w'.drop (q + 1) ++ tl, some (iP (some (false, true)) false), k', o'⟩, Kept.of rfl KT.z KM.z, ⟨hlt, s2, fun d hd => t2 d (List.mem_of_mem_take hd), hct, htl, s3, hend, hcn, fun e => by simp at e⟩, by simp only []; rw [hdt]; exact hW2lt⟩
            · simp only [iV, iM, oV, oM, oNum, iP, gM]
              simp only [go_sem, hi]
              rw [hsp]
              exact ⟨⟨q + 1, w'.take (q + 1), w'.drop (q + 1) ++ tl, some (iP (some (false, true)) true), k', o'⟩, Kept.of rfl KT.z KM.z, ⟨hlt, s2, fun d hd => t2 d (List.mem_of_mem_take hd), hct, htl, s3, hend, hcn, fun e => by simp at e⟩, by simp only []; rw [hdt]; exact hW2lt⟩
     ·
      simp only [oV, oM, oNum]
      simp only [go_sem, hn]
      refine short_ic hP (L := [130, 4, 0]) (y := 10000000000000000000) (by repeat (first | exact GenM.nil | refine GenM.upd ?_ rfl (by first | rfl | exact objOnly_U))) rfl rfl h1 (by omega) h3 (by decide) (by decide) ?_
      intro nx w' c t1 t2 t3 t4
      simp only [go_sem]
      refine trX_loop HE hP.mix [130, 4, 0] (fun q : Nat => ⟨upd (upd (upd (upd (fun _ => .junk) 2 (.str ⟨#[]⟩)) 3 (.sl 4 0 q 1)) 4 (oV (some (true, false)) k)) 5 (.int .u64 (c : Int)), oM .u8 (upd (upd (fun _ => .unused) 0 (.live [.opq (.nat a), .pad])) 4 (.live (List.map (fun d : Nat => AV.int .u64 (d : Int)) (w' ++ tl)))) (some (true, false)) o, 85⟩)
       (fun q => q ≤ n ∧ ∀ i, q ≤ i → w'.getD i 0 = 0) (fun q => q) n 20 Has.z (Kept.of rfl KT.z KM.z) ⟨Nat.le_refl _, fun i hi => getD_ge (by omega)⟩ 85 (by kernel_rfl) ?_
      rintro q ⟨q1, q2⟩
      obtain ⟨W2, hW2⟩ : ∃ W, dOf 18446744073709551616 w' = W := ⟨_, rfl⟩
      have hA : a = dv o + 10 ^ k * (c + 10 ^ (19 - 0) * W2) := by rw [h7, ← t4, hW2, Nat.mul_comm W2, Nat.add_comm c]
      have hWc : 0 < W2 ∨ 0 < c := by
       rw [← t4, hW2] at hW; omega
      obtain ⟨q9, hq9⟩ : ∃ q9, q9 + 1 = q + 1 := ⟨q, rfl⟩
      cases q with
      | zero =>
        have hW0 : W2 = 0 := by rw [← hW2, ← dOf_trim q2]; rfl
        simp only [oV, oM, oNum]
        simp only [go_sem, Nat.succ_pos, Nat.lt_irrefl]
        refine trX_loopV HE hP.mix (fun y : T3 => iL [4, 0] (some (true, false)) y.j) (fun y => ⟨upd (upd (upd (upd (upd (fun _ => .junk) 2 (.str ⟨#[]⟩)) 3 (.sl 4 0 (0) 1)) 4 (iV (some (true, false)) y.j y.k)) 5 (.int .u64 (y.r : Int))) 6 (.int .i64 (y.i : Int)), iM .u8 (upd (upd (fun _ => .unused) 0 (.live [.opq (.nat a), .pad])) 4 (.live (List.map (fun d : Nat => AV.int .u64 (d : Int)) (w' ++ tl)))) (some (true, false)) y.j o y.o, 85⟩)
         (fun y => y.i ≤ 19 ∧ y.o.length = y.k ∧ byt y.o ∧ y.r < 10 ^ (19 - y.i) ∧ a = dv y.o + 10 ^ y.k * (y.r + 10 ^ (19 - y.i) * W2) ∧ (W2 = 0 → y.r = 0 → Canon (y.o.map (· - 48))) ∧ (y.j = none → y.o = o ∧ y.k = k ∧ y.i = 0 ∧ (0 < W2 ∨ 0 < y.r))) (fun y => 20 - y.i) ⟨none, 0, c, k, o⟩ (fun y => iX (some (true, false)) 17 y.j)
         (fun x r hr => iL_has (k := .u8) (l := o) Has.z (some (true, false)) x.j r hr) (Kept.of rfl KT.z KM.z) ⟨by simp, h2, h6, t3, hA, fun e1 e2 => absurd hWc (by have e1 : W2 = 0 := e1; have e2 : c = 0 := e2; omega), fun _ => ⟨rfl, rfl, rfl, hWc⟩⟩ 85 (by kernel_rfl) ?_
        rintro ⟨j, i, r, k', o'⟩ ⟨s1, s2, s3, s4, s5, s6, s7⟩
        simp only [] at s1 s2 s3 s4 s5 s6 s7
        have hpw : i < 19 → 10 ^ (19 - i) = 10 * 10 ^ (19 - (i + 1)) := fun h => by rw [show 19 - i = 19 - (i + 1) + 1 by omega, Nat.pow_succ, Nat.mul_comm]
        have hm : (r : Int).tmod 10 = ((r % 10 : Nat) : Int) := rfl
        have hrb : r < 18446744073709551616 := Nat.lt_of_lt_of_le s4 (Nat.le_trans (Nat.pow_le_pow_right (by decide) (show 19 - i ≤ 19 by omega)) (by decide))
        have hdv : IntKind.u64.wrap ((r : Int).tdiv 10) = ((r / 10 : Nat) : Int) := wu_div r 10 hrb
        have hu8 := u8_dig r
        have hwi := wi_add1 i (by omega)
        have hq0' : 0 < q9 + 1 := Nat.succ_pos q9
        by_cases hi : i < 19
        · by_cases hr : 0 < r
          · have hgo : 1 ≤ r + 10 ^ (19 - i) * W2 := by omega
            have hkb : k' + 1 ≤ 1099511627776 := by
             have h1 : 10 ^ k' * 1 ≤ 10 ^ k' * (r + 10 ^ (19 - i) * W2) := Nat.mul_le_mul_left _ hgo
             have h2 : 2 ^ k' ≤ 10 ^ k' := Nat.pow_le_pow_left (by decide) _
             have h3 := blen_lt a
             have h4 : k' < blen a := (Nat.pow_lt_pow_iff_right (a := 2) (by decide)).1 (by omega)
             omega
            have hst : ∀ o'' : List Nat, o'' = o' ++ [48 + r % 10] → o''.length = k' + 1 ∧ byt o'' ∧ r / 10 < 10 ^ (19 - (i + 1)) ∧ a = dv o'' + 10 ^ (k' + 1) * (r / 10 + 10 ^ (19 - (i + 1)) * W2) ∧ (W2 = 0 → r / 10 = 0 → Canon (o''.map (· - 48))) := fun o'' ho => by
             subst ho
             refine ⟨by simp [s2], byt_snoc s3 r, by have := hpw hi; omega, ?_, fun e1 e2 => snoc_canon _ _ ?_⟩
             · rw [dv_snoc, s2, Nat.pow_succ]
               rw [hpw hi, Nat.mul_assoc] at s5
               exact dig_step s5
             · rw [e1, Nat.mul_zero, Nat.add_zero] at hgo
               omega
            rcases j with _ | _ | _
            · obtain ⟨e1, e2, _, _⟩ := s7 rfl
              subst e1
              subst e2
              simp only [iV, iM, oV, oM, oNum, iX, iP, gM]
              simp only [go_sem, hi, hr, hm, hdv, hu8, hwi, hkb, map_snoc, hq0']
              first
               | (have h9' := h9 rfl
                  obtain ⟨ho, hk⟩ := h9'
                  subst ho
                  subst hk
                  obtain ⟨z1, z2, z3, z4, z5⟩ := hst [48 + r % 10] rfl
                  exact ⟨by decide, ⟨by simp, fun _ => trivial⟩, by decide, ⟨some false, i + 1, r / 10, 1, [48 + r % 10]⟩, Kept.of rfl KT.z KM.z, ⟨by simp only []; omega, z1, z2, z3, z4, z5, fun e => by simp at e⟩, by simp only []; omega⟩)
               | (obtain ⟨z1, z2, z3, z4, z5⟩ := hst (o' ++ [48 + r % 10]) rfl
                  exact ⟨by decide, ⟨s2, by simp, fun _ => trivial⟩, by decide, ⟨some false, i + 1, r / 10, k' + 1, o' ++ [48 + r % 10]⟩, Kept.of rfl KT.z KM.z, ⟨by simp only []; omega, z1, z2, z3, z4, z5, fun e => by simp at e⟩, by simp only []; omega⟩)
            · simp only [iV, iM, oV, oM, oNum, iX, iP, gM]
              simp only [go_sem, hi, hr, hm, hdv, hu8, hwi, hkb, map_snoc, hq0']
              obtain ⟨z1, z2, z3, z4, z5⟩ := hst (o' ++ [48 + r % 10]) rfl
              exact ⟨by decide, ⟨s2, by simp, fun _ => trivial⟩, by decide, ⟨some true, i + 1, r / 10, k' + 1, o' ++ [48 + r % 10]⟩, Kept.of rfl KT.z KM.z, ⟨by simp only []; omega, z1, z2, z3, z4, z5, fun e => by simp at e⟩, by simp only []; omega⟩
            · simp only [iV, iM, oV, oM, oNum, iX, iP, gM]
              simp only [go_sem, hi, hr, hm, hdv, hu8, hwi, hkb, map_snoc, hq0']
              obtain ⟨z1, z2, z3, z4, z5⟩ := hst (o' ++ [48 + r % 10]) rfl
              exact ⟨by decide, ⟨s2, by simp, fun _ => trivial⟩, by decide, ⟨some false, i + 1, r / 10, k' + 1, o' ++ [48 + r % 10]⟩, Kept.of rfl KT.z KM.z, ⟨by simp only []; omega, z1, z2, z3, z4, z5, fun e => by simp at e⟩, by simp only []; omega⟩
          · have hr0 : r = 0 := by omega
            have hsp : w' ++ tl = w'.take (0) ++ (w'.drop (0) ++ tl) := by rw [← List.append_assoc, List.take_append_drop]
            have hdt : dOf 18446744073709551616 (w'.take (0)) = W2 := (dOf_trim q2).trans hW2
            have hW2lt : W2 < dOf 18446744073709551616 w := by rw [hW2] at t4; omega
            have hend : a = dv o' + 10 ^ k' * dOf 18446744073709551616 (w'.take (0)) := by
             rw [hdt, s5, hr0, Nat.zero_add]
             first
              | (rw [show 19 - i = 0 by omega, Nat.pow_zero, Nat.one_mul])
              | (rw [hW0, Nat.mul_zero])
            have hcn : w'.take (0) = [] → Canon (o'.map (· - 48)) := fun e => s6 (by rw [← hdt, e]; rfl) hr0
            have htl : (0) + (w'.drop (0) ++ tl).length = x.length := by rw [List.length_append, List.length_drop]; omega
            have hct : Canon (w'.take (0)) := by
             first
              | (exact canon_take (by omega) hzn)
              | (intro h; exact absurd rfl h)
            have hlt : (w'.take (0)).length = 0 := by rw [List.length_take]; omega
            rcases j with _ | _ | _
            · obtain ⟨_, _, e3, e4⟩ := s7 rfl
              first
               | omega
               | (exfalso; omega)
            · simp only [iV, iM, oV, oM, oNum, iP, gM]
              simp only [go_sem, hi, hr, Nat.lt_irrefl]
              rw [hsp]
              exact ⟨⟨0, w'.take (0), w'.drop (0) ++ tl, some (iP (some (true, false)) false), k', o'⟩, Kept.of rfl KT.z KM.z, ⟨hlt, s2, fun d hd => t2 d (List.mem_of_mem_take hd), hct, htl, s3, hend, hcn, fun e => by simp at e⟩, by simp only []; rw [hdt]; exact hW2lt⟩
            · simp only [iV, iM, oV, oM, oNum, iP, gM]
              simp only [go_sem, hi, hr, Nat.lt_irrefl]
              rw [hsp]
              exact ⟨⟨0, w'.take (0), w'.drop (0) ++ tl, some (iP (some (true, false)) true), k', o'⟩, Kept.of rfl KT.z KM.z, ⟨hlt, s2, fun d hd => t2 d (List.mem_of_mem_take hd), hct, htl, s3, hend, hcn, fun e => by simp at e⟩, by simp only []; rw [hdt]; exact hW2lt⟩
        · have hr0 : r = 0 := by
           rw [show 19 - i = 0 by omega] at s4; omega
          have hsp : w' ++ tl = w'.take (0) ++ (w'.drop (0) ++ tl) := by rw [← List.append_assoc, List.take_append_drop]
          have hdt : dOf 18446744073709551616 (w'.take (0)) = W2 := (dOf_trim q2).trans hW2
          have hW2lt : W2 < dOf 18446744073709551616 w := by rw [hW2] at t4; omega
          have hend : a = dv o' + 10 ^ k' * dOf 18446744073709551616 (w'.take (0)) := by
           rw [hdt, s5, hr0, Nat.zero_add]
           first
            | (rw [show 19 - i = 0 by omega, Nat.pow_zero, Nat.one_mul])
            | (rw [hW0, Nat.mul_zero])
          have hcn : w'.take (0) = [] → Canon (o'.map (· - 48)) := fun e => s6 (by rw [← hdt, e]; rfl) hr0
          have htl : (0) + (w'.drop (0) ++ tl).length = x.length := by rw [List.length_append, List.length_drop]; omega
          have hct : Canon (w'.take (0)) := by
           first
            | (exact canon_take (by omega) hzn)
            | (intro h; exact absurd rfl h)
          have hlt : (w'.take (0)).length = 0 := by rw [List.length_take]; omega
          rcases j with _ | _ | _
          · obtain ⟨_, _, e3, e4⟩ := s7 rfl
            first
             | omega
             | (exfalso; omega)
          · simp only [iV, iM, oV, oM, oNum, iP, gM]
            simp only [go_sem, hi]
            rw [hsp]
            exact ⟨⟨0, w'.take (0), w'.drop (0) ++ tl, some (iP (some (true, false)) false), k', o'⟩, Kept.of rfl KT.z KM.z, ⟨hlt, s2, fun d hd => t2 d (List.mem_of_mem_take hd), hct, htl, s3, hend, hcn, fun e => by simp at e⟩, by simp only []; rw [hdt]; exact hW2lt⟩
          · simp only [iV, iM, oV, oM, oNum, iP, gM]
            simp only [go_sem, hi]
            rw [hsp]
            exact ⟨⟨0, w'.take (0), w'.drop (0) ++ tl, some (iP (some (true, false)) true), k', o'⟩, Kept.of rfl KT.z KM.z, ⟨hlt, s2, fun d hd => t2 d (List.mem_of_mem_take hd), hct, htl, s3, hend, hcn, fun e => by simp at e⟩, by simp only []; rw [hdt]; exact hW2lt⟩
      | succ q =>
        have hql : q < w'.length := by omega
        have hqg : q < (w' ++ tl).length := by rw [List.length_append]; omega
        have hqn : q < w'.length + tl.length := by omega
        have hgt : (w' ++ tl).getD q 0 = w'.getD q 0 := getD_left hql
        have hqi := wi_nat q (by omega)
        have hq1 : q < q + 1 := by omega
        have hq2 : q ≤ q + 1 := by omega
        have hq3 : q ≤ w'.length + tl.length := by omega
        rcases (by cases (w'.getD q 0 == 0) <;> simp : (w'.getD q 0 == 0) = true ∨ (w'.getD q 0 == 0) = false) with hz | hz
        · simp only [oV, oM, oNum]
          simp only [go_sem, Nat.succ_pos, hqi, hq1, hqg, hqn, gU hqg, hgt, hz, hq2, hq3]
          exact ⟨by simp, q, Kept.of rfl KT.z KM.z, ⟨by omega, fun i hi => by
           rcases Nat.eq_or_lt_of_le hi with rfl | hi
           · simpa using hz
           · exact q2 i hi⟩, by omega⟩
        · have hzn : w'.getD q 0 ≠ 0 := by simpa using hz
          have hW0 : 0 < W2 := by
           rw [← hW2]; exact dOf_pos hql hzn
          simp only [oV, oM, oNum]
          simp only [go_sem, Nat.succ_pos, hqi, hq1, hqg, hqn, gU hqg, hgt, hz]
          refine trX_loopV HE hP.mix (fun y : T3 => iL [4, 0] (some (true, false)) y.j) (fun y => ⟨upd (upd (upd (upd (upd (fun _ => .junk) 2 (.str ⟨#[]⟩)) 3 (.sl 4 0 (q + 1) 1)) 4 (iV (some (true, false)) y.j y.k)) 5 (.int .u64 (y.r : Int))) 6 (.int .i64 (y.i : Int)), iM .u8 (upd (upd (fun _ => .unused) 0 (.live [.opq (.nat a), .pad])) 4 (.live (List.map (fun d : Nat => AV.int .u64 (d : Int)) (w' ++ tl)))) (some (true, false)) y.j o y.o, 85⟩)
           (fun y => y.i ≤ 19 ∧ y.o.length = y.k ∧ byt y.o ∧ y.r < 10 ^ (19 - y.i) ∧ a = dv y.o + 10 ^ y.k * (y.r + 10 ^ (19 - y.i) * W2) ∧ (W2 = 0 → y.r = 0 → Canon (y.o.map (· - 48))) ∧ (y.j = none → y.o = o ∧ y.k = k ∧ y.i = 0 ∧ (0 < W2 ∨ 0 < y.r))) (fun y => 20 - y.i) ⟨none, 0, c, k, o⟩ (fun y => iX (some (true, false)) 15 y.j)
           (fun x r hr => iL_has (k := .u8) (l := o) Has.z (some (true, false)) x.j r hr) (Kept.of rfl KT.z KM.z) ⟨by simp, h2, h6, t3, hA, fun e1 e2 => absurd hWc (by have e1 : W2 = 0 := e1; have e2 : c = 0 := e2; omega), fun _ => ⟨rfl, rfl, rfl, hWc⟩⟩ 85 (by kernel_rfl) ?_
          rintro ⟨j, i, r, k', o'⟩ ⟨s1, s2, s3, s4, s5, s6, s7⟩
          simp only [] at s1 s2 s3 s4 s5 s6 s7
          have hpw : i < 19 → 10 ^ (19 - i) = 10 * 10 ^ (19 - (i + 1)) := fun h => by rw [show 19 - i = 19 - (i + 1) + 1 by omega, Nat.pow_succ, Nat.mul_comm]
          have hm : (r : Int).tmod 10 = ((r % 10 : Nat) : Int) := rfl
          have hrb : r < 18446744073709551616 := Nat.lt_of_lt_of_le s4 (Nat.le_trans (Nat.pow_le_pow_right (by decide) (show 19 - i ≤ 19 by omega)) (by decide))
          have hdv : IntKind.u64.wrap ((r : Int).tdiv 10) = ((r / 10 : Nat) : Int) := wu_div r 10 hrb
          have hu8 := u8_dig r
          have hwi := wi_add1 i (by omega)
          have hq0' : 0 < q9 + 1 := Nat.succ_pos q9
          have hq0 : 0 < q + 1 := Nat.succ_pos q
          by_cases hi : i < 19
          · have hgo : 1 ≤ r + 10 ^ (19 - i) * W2 := by
             have := Nat.mul_pos (Nat.pow_pos (show 0 < 10 by decide) (n := 19 - i)) hW0
             omega
            have hr := hq0
            have hkb : k' + 1 ≤ 1099511627776 := by
             have h1 : 10 ^ k' * 1 ≤ 10 ^ k' * (r + 10 ^ (19 - i) * W2) := Nat.mul_le_mul_left _ hgo
             have h2 : 2 ^ k' ≤ 10 ^ k' := Nat.pow_le_pow_left (by decide) _
             have h3 := blen_lt a
             have h4 : k' < blen a := (Nat.pow_lt_pow_iff_right (a := 2) (by decide)).1 (by omega)
             omega
            have hst : ∀ o'' : List Nat, o'' = o' ++ [48 + r % 10] → o''.length = k' + 1 ∧ byt o'' ∧ r / 10 < 10 ^ (19 - (i + 1)) ∧ a = dv o'' + 10 ^ (k' + 1) * (r / 10 + 10 ^ (19 - (i + 1)) * W2) ∧ (W2 = 0 → r / 10 = 0 → Canon (o''.map (· - 48))) := fun o'' ho => by
             subst ho
             refine ⟨by simp [s2], byt_snoc s3 r, by have := hpw hi; omega, ?_, fun e1 e2 => snoc_canon _ _ ?_⟩
             · rw [dv_snoc, s2, Nat.pow_succ]
               rw [hpw hi, Nat.mul_assoc] at s5
               exact dig_step s5
             · rw [e1, Nat.mul_zero, Nat.add_zero] at hgo
               omega
            rcases j with _ | _ | _
            · obtain ⟨e1, e2, _, _⟩ := s7 rfl
              subst e1
              subst e2
              simp only [iV, iM, oV, oM, oNum, iX, iP, gM]
              simp only [go_sem, hi, hr, hm, hdv, hu8, hwi, hkb, map_snoc, hq0']
              first
               | (have h9' := h9 rfl
                  obtain ⟨ho, hk⟩ := h9'
                  subst ho
                  subst hk
                  obtain ⟨z1, z2, z3, z4, z5⟩ := hst [48 + r % 10] rfl
                  exact ⟨by decide, ⟨by simp, fun _ => trivial⟩, by decide, ⟨some false, i + 1, r / 10, 1, [48 + r % 10]⟩, Kept.of rfl KT.z KM.z, ⟨by simp only []; omega, z1, z2, z3, z4, z5, fun e => by simp at e⟩, by simp only []; omega⟩)
               | (obtain ⟨z1, z2, z3, z4, z5⟩ := hst (o' ++ [48 + r % 10]) rfl
                  exact ⟨by decide, ⟨s2, by simp, fun _ => trivial⟩, by decide, ⟨some false, i + 1, r / 10, k' + 1, o' ++ [48 + r % 10]⟩, Kept.of rfl KT.z KM.z, ⟨by simp only []; omega, z1, z2, z3, z4, z5, fun e => by simp at e⟩, by simp only []; omega⟩)
            · simp only [iV, iM, oV, oM, oNum, iX, iP, gM]
              simp only [go_sem, hi, hr, hm, hdv, hu8, hwi, hkb, map_snoc, hq0']
              obtain ⟨z1, z2, z3, z4, z5⟩ := hst (o' ++ [48 + r % 10]) rfl
              exact ⟨by decide, ⟨s2, by simp, fun _ => trivial⟩, by decide, ⟨some true, i + 1, r / 10, k' + 1, o' ++ [48 + r % 10]⟩, Kept.of rfl KT.z KM.z, ⟨by simp only []; omega, z1, z2, z3, z4, z5, fun e => by simp at e⟩, by simp only []; omega⟩
            · simp only [iV, iM, oV, oM, oNum, iX, iP, gM]
              simp only [go_sem, hi, hr, hm, hdv, hu8, hwi, hkb, map_snoc, hq0']
              obtain ⟨z1, z2, z3, z4, z5⟩ := hst (o' ++ [48 + r % 10]) rfl
              exact ⟨by decide, ⟨s2, by simp, fun _ => trivial⟩, by decide, ⟨some false, i + 1, r / 10, k' + 1, o' ++ [48 + r % 10]⟩, Kept.of rfl KT.z KM.z, ⟨by simp only []; omega, z1, z2, z3, z4, z5, fun e => by simp at e⟩, by simp only []; omega⟩
          · have hr0 : r = 0 := by
             rw [show 19 - i = 0 by omega] at s4; omega
            have hsp : w' ++ tl = w'.take (q + 1) ++ (w'.drop (q + 1) ++ tl) := by rw [← List.append_assoc, List.take_append_drop]
            have hdt : dOf 18446744073709551616 (w'.take (q + 1)) = W2 := (dOf_trim q2).trans hW2
            have hW2lt : W2 < dOf 18446744073709551616 w := by rw [hW2] at t4; omega
            have hend : a = dv o' + 10 ^ k' * dOf 18446744073709551616 (w'.take (q + 1)) := by
             rw [hdt, s5, hr0, Nat.zero_add]
             first
              | (rw [show 19 - i = 0 by omega, Nat.pow_zero, Nat.one_mul])
              | (rw [hW0, Nat.mul_zero])
            have hcn : w'.take (q + 1) = [] → Canon (o'.map (· - 48)) := fun e => s6 (by rw [← hdt, e]; rfl) hr0
            have htl : (q + 1) + (w'.drop (q + 1) ++ tl).length = x.length := by rw [List.length_append, List.length_drop]; omega
            have hct : Canon (w'.take (q + 1)) := by
             first
              | (exact canon_take (by omega) hzn)
              | (intro h; exact absurd rfl h)
            have hlt : (w'.take (q + 1)).length = q + 1 := by rw [List.length_take]; omega
            rcases j with _ | _ | _
            · obtain ⟨_, _, e3, e4⟩ := s7 rfl
              first
               | omega
               | (exfalso; omega)
            · simp only [iV, iM, oV, oM, oNum, iP, gM]
              simp only [go_sem, hi]
              rw [hsp]
              exact ⟨⟨q + 1, w'.take (q + 1), w'.drop (q + 1) ++ tl, some (iP (some (true, false)) false), k', o'⟩, Kept.of rfl KT.z KM.z, ⟨hlt, s2, fun d hd => t2 d (List.mem_of_mem_take hd), hct, htl, s3, hend, hcn, fun e => by simp at e⟩, by simp only []; rw [hdt]; exact hW2lt⟩
            · simp only [iV, iM, oV, oM, oNum, iP, gM]
              simp only [go_sem, hi]
              rw [hsp]
              exact ⟨⟨q + 1, w'.take (q + 1), w'.drop (q + 1) ++ tl, some (iP (some (true, false)) true), k', o'⟩, Kept.of rfl KT.z KM.z, ⟨hlt, s2, fun d hd => t2 d (List.mem_of_mem_take hd), hct, htl, s3, hend, hcn, fun e => by simp at e⟩, by simp only []; rw [hdt]; exact hW2lt⟩
     ·
      simp only [oV, oM, oNum]
      simp only [go_sem, hn]
      refine short_ic hP (L := [140, 4, 0]) (y := 10000000000000000000) (by repeat (first | exact GenM.nil | refine GenM.upd ?_ rfl (by first | rfl | exact objOnly_U))) rfl rfl h1 (by omega) h3 (by decide) (by decide) ?_
      intro nx w' c t1 t2 t3 t4
      simp only [go_sem]
      refine trX_loop HE hP.mix [140, 4, 0] (fun q : Nat => ⟨upd (upd (upd (upd (fun _ => .junk) 2 (.str ⟨#[]⟩)) 3 (.sl 4 0 q 1)) 4 (oV (some (true, true)) k)) 5 (.int .u64 (c : Int)), oM .u8 (upd (upd (fun _ => .unused) 0 (.live [.opq (.nat a), .pad])) 4 (.live (List.map (fun d : Nat => AV.int .u64 (d : Int)) (w' ++ tl)))) (some (true, true)) o, 85⟩)
       (fun q => q ≤ n ∧ ∀ i, q ≤ i → w'.getD i 0 = 0) (fun q => q) n 20 Has.z (Kept.of rfl KT.z KM.z) ⟨Nat.le_refl _, fun i hi => getD_ge (by omega)⟩ 85 (by kernel_rfl) ?_
      rintro q ⟨q1, q2⟩
      obtain ⟨W2, hW2⟩ : ∃ W, dOf 18446744073709551616 w' = W := ⟨_, rfl⟩
      have hA : a = dv o + 10 ^ k * (c + 10 ^ (19 - 0) * W2) := by rw [h7, ← t4, hW2, Nat.mul_comm W2, Nat.add_comm c]
      have hWc : 0 < W2 ∨ 0 < c := by
       rw [← t4, hW2] at hW; omega
      obtain ⟨q9, hq9⟩ : ∃ q9, q9 + 1 = q + 1 := ⟨q, rfl⟩
      cases q with
      | zero =>
        have hW0 : W2 = 0 := by rw [← hW2, ← dOf_trim q2]; rfl
        simp only [oV, oM, oNum]
        simp only [go_sem, Nat.succ_pos, Nat.lt_irrefl]
        refine trX_loopV HE hP.mix (fun y : T3 => iL [4, 0] (some (true, true)) y.j) (fun y => ⟨upd (upd (upd (upd (upd (fun _ => .junk) 2 (.str ⟨#[]⟩)) 3 (.sl 4 0 (0) 1)) 4 (iV (some (true, true)) y.j y.k)) 5 (.int .u64 (y.r : Int))) 6 (.int .i64 (y.i : Int)), iM .u8 (upd (upd (fun _ => .unused) 0 (.live [.opq (.nat a), .pad])) 4 (.live (List.map (fun d : Nat => AV.int .u64 (d : Int)) (w' ++ tl)))) (some (true, true)) y.j o y.o, 85⟩)
         (fun y => y.i ≤ 19 ∧ y.o.length = y.k ∧ byt y.o ∧ y.r < 10 ^ (19 - y.i) ∧ a = dv y.o + 10 ^ y.k * (y.r + 10 ^ (19 - y.i) * W2) ∧ (W2 = 0 → y.r = 0 → Canon (y.o.map (· - 48))) ∧ (y.j = none → y.o = o ∧ y.k = k ∧ y.i = 0 ∧ (0 < W2 ∨ 0 < y.r))) (fun y => 20 - y.i) ⟨none, 0, c, k, o⟩ (fun y => iX (some (true, true)) 17 y.j)
         (fun x r hr => iL_has (k := .u8) (l := o) Has.z (some (true, true)) x.j r hr) (Kept.of rfl KT.z KM.z) ⟨by simp, h2, h6, t3, hA, fun e1 e2 => absurd hWc (by have e1 : W2 = 0 := e1; have e2 : c = 0 := e2; omega), fun _ => ⟨rfl, rfl, rfl, hWc⟩⟩ 85 (by kernel_rfl) ?_
        rintro ⟨j, i, r, k', o'⟩ ⟨s1, s2, s3, s4, s5, s6, s7⟩
        simp only [] at s1 s2 s3 s4 s5 s6 s7
        have hpw : i < 19 → 10 ^ (19 - i) = 10 * 10 ^ (19 - (i + 1)) := fun h => by rw [show 19 - i = 19 - (i + 1) + 1 by omega, Nat.pow_succ, Nat.mul_comm]
        have hm : (r : Int).tmod 10 = ((r % 10 : Nat) : Int) := rfl
        have hrb : r < 18446744073709551616 := Nat.lt_of_lt_of_le s4 (Nat.le_trans (Nat.pow_le_pow_right (by decide) (show 19 - i ≤ 19 by omega)) (by decide))
        have hdv : IntKind.u64.wrap ((r : Int).tdiv 10) = ((r / 10 : Nat) : Int) := wu_div r 10 hrb
        have hu8 := u8_dig r
        have hwi := wi_add1 i (by omega)
        have hq0' : 0 < q9 + 1 := Nat.succ_pos q9
        by_cases hi : i < 19
        · by_cases hr : 0 < r
          · have hgo : 1 ≤ r + 10 ^ (19 - i) * W2 := by omega
            have hkb : k' + 1 ≤ 1099511627776 := by
             have h1 : 10 ^ k' * 1 ≤ 10 ^ k' * (r + 10 ^ (19 - i) * W2) := Nat.mul_le_mul_left _ hgo
             have h2 : 2 ^ k' ≤ 10 ^ k' := Nat.pow_le_pow_left (by decide) _
             have h3 := blen_lt a
             have h4 : k' < blen a := (Nat.pow_lt_pow_iff_right (a := 2) (by decide)).1 (by omega)
             omega
            have hst : ∀ o'' : List Nat, o'' = o' ++ [48 + r % 10] → o''.length = k' + 1 ∧ byt o'' ∧ r / 10 < 10 ^ (19 - (i + 1)) ∧ a = dv o'' + 10 ^ (k' + 1) * (r / 10 + 10 ^ (19 - (i + 1)) * W2) ∧ (W2 = 0 → r / 10 = 0 → Canon (o''.map (· - 48))) := fun o'' ho => by
             subst ho
             refine ⟨by simp [s2], byt_snoc s3 r, by have := hpw hi; omega, ?_, fun e1 e2 => snoc_canon _ _ ?_⟩
             · rw [dv_snoc, s2, Nat.pow_succ]
               rw [hpw hi, Nat.mul_assoc] at s5
               exact dig_step s5
             · rw [e1, Nat.mul_zero, Nat.add_zero] at hgo
               omega
            rcases j with _ | _ | _
            · obtain ⟨e1, e2, _, _⟩ := s7 rfl
              subst e1
              subst e2
              simp only [iV, iM, oV, oM, oNum, iX, iP, gM]
              simp only [go_sem, hi, hr, hm, hdv, hu8, hwi, hkb, map_snoc, hq0']
              first
               | (have h9' := h9 rfl
                  obtain ⟨ho, hk⟩ := h9'
                  subst ho
                  subst hk
                  obtain ⟨z1, z2, z3, z4, z5⟩ := hst [48 + r % 10] rfl
                  exact ⟨by decide, ⟨by simp, fun _ => trivial⟩, by decide, ⟨some false, i + 1, r / 10, 1, [48 + r % 10]⟩, Kept.of rfl KT.z KM.z, ⟨by simp only []; omega, z1, z2, z3, z4, z5, fun e => by simp at e⟩, by simp only []; omega⟩)
               | (obtain ⟨z1, z2, z3, z4, z5⟩ := hst (o' ++ [48 + r % 10]) rfl
                  exact ⟨by decide, ⟨s2, by simp, fun _ => trivial⟩, by decide, ⟨some false, i + 1, r / 10, k' + 1, o' ++ [48 + r % 10]⟩, Kept.of rfl KT.z KM.z, ⟨by simp only []; omega, z1, z2, z3, z4, z5, fun e => by simp at e⟩, by simp only []; omega⟩)
            · simp only [iV, iM, oV, oM, oNum, iX, iP, gM]
              simp only [go_sem, hi, hr, hm, hdv, hu8, hwi, hkb, map_snoc, hq0']
              obtain ⟨z1, z2, z3, z4, z5⟩ := hst (o' ++ [48 + r % 10]) rfl
              exact ⟨by decide, ⟨s2, by simp, fun _ => trivial⟩, by decide, ⟨some true, i + 1, r / 10, k' + 1, o' ++ [48 + r % 10]⟩, Kept.of rfl KT.z KM.z, ⟨by simp only []; omega, z1, z2, z3, z4, z5, fun e => by simp at e⟩, by simp only []; omega⟩
            · simp only [iV, iM, oV, oM, oNum, iX, iP, gM]
              simp only [go_sem, hi, hr, hm, hdv, hu8, hwi, hkb, map_snoc, hq0']
              obtain ⟨z1, z2, z3, z4, z5⟩ := hst (o' ++ [48 + r % 10]) rfl
              exact ⟨by decide, ⟨s2, by simp, fun _ => trivial⟩, by decide, ⟨some false, i + 1, r / 10, k' + 1, o' ++ [48 + r % 10]⟩, Kept.of rfl KT.z KM.z, ⟨by simp only []; omega, z1, z2, z3, z4, z5, fun e => by simp at e⟩, by simp only []; omega⟩
          · have hr0 : r = 0 := by omega
            have hsp : w' ++ tl = w'.take (0) ++ (w'.drop (0) ++ tl) := by rw [← List.append_assoc, List.take_append_drop]
            have hdt : dOf 18446744073709551616 (w'.take (0)) = W2 := (dOf_trim q2).trans hW2
            have hW2lt : W2 < dOf 18446744073709551616 w := by rw [hW2] at t4; omega
            have hend : a = dv o' + 10 ^ k' * dOf 18446744073709551616 (w'.take (0)) := by
             rw [hdt, s5, hr0, Nat.zero_add]
             first
              | (rw [show 19 - i = 0 by omega, Nat.pow_zero, Nat.one_mul])
              | (rw [hW0, Nat.mul_zero])
            have hcn : w'.take (0) = [] → Canon (o'.map (· - 48)) := fun e => s6 (by rw [← hdt, e]; rfl) hr0
            have htl : (0) + (w'.drop (0) ++ tl).length = x.length := by rw [List.length_append, List.length_drop]; omega
            have hct : Canon (w'.take (0)) := by
             first
              | (exact canon_take (by omega) hzn)
              | (intro h; exact absurd rfl h)
            have hlt : (w'.take (0)).length = 0 := by rw [List.length_take]; omega
            rcases j with _ | _ | _
            · obtain ⟨_, _, e3, e4⟩ := s7 rfl
              first
               | omega
               | (exfalso; omega)
            · simp only [iV, iM, oV, oM, oNum, iP, gM]
              simp only [go_sem, hi, hr, Nat.lt_irrefl]
              rw [hsp]
              exact ⟨⟨0, w'.take (0), w'.drop (0) ++ tl, some (iP (some (true, true)) false), k', o'⟩, Kept.of rfl KT.z KM.z, ⟨hlt, s2, fun d hd => t2 d (List.mem_of_mem_take hd), hct, htl, s3, hend, hcn, fun e => by simp at e⟩, by simp only []; rw [hdt]; exact hW2lt⟩
            · simp only [iV, iM, oV, oM, oNum, iP, gM]
              simp only [go_sem, hi, hr, Nat.lt_irrefl]
              rw [hsp]
              exact ⟨⟨0, w'.take (0), w'.drop (0) ++ tl, some (iP (some (true, true)) true), k', o'⟩, Kept.of rfl KT.z KM.z, ⟨hlt, s2, fun d hd => t2 d (List.mem_of_mem_take hd), hct, htl, s3, hend, hcn, fun e => by simp at e⟩, by simp only []; rw [hdt]; exact hW2lt⟩
        · have hr0 : r = 0 := by
           rw [show 19 - i = 0 by omega] at s4; omega
          have hsp : w' ++ tl = w'.take (0) ++ (w'.drop (0) ++ tl) := by rw [← List.append_assoc, List.take_append_drop]
          have hdt : dOf 18446744073709551616 (w'.take (0)) = W2 := (dOf_trim q2).trans hW2
          have hW2lt : W2 < dOf 18446744073709551616 w := by rw [hW2] at t4; omega
          have hend : a = dv o' + 10 ^ k' * dOf 18446744073709551616 (w'.take (0)) := by
           rw [hdt, s5, hr0, Nat.zero_add]
           first
            | (rw [show 19 - i = 0 by omega, Nat.pow_zero, Nat.one_mul])
            | (rw [hW0, Nat.mul_zero])
          have hcn : w'.take (0) = [] → Canon (o'.map (· - 48)) := fun e => s6 (by rw [← hdt, e]; rfl) hr0
          have htl : (0) + (w'.drop (0) ++ tl).length = x.length := by rw [List.length_append, List.length_drop]; omega
          have hct : Canon (w'.take (0)) := by
           first
            | (exact canon_take (by omega) hzn)
            | (intro h; exact absurd rfl h)
          have hlt : (w'.take (0)).length = 0 := by rw [List.length_take]; omega
          rcases j with _ | _ | _
          · obtain ⟨_, _, e3, e4⟩ := s7 rfl
            first
             | omega
             | (exfalso; omega)
          · simp only [iV, iM, oV, oM, oNum, iP, gM]
            simp only [go_sem, hi]
            rw [hsp]
            exact ⟨⟨0, w'.take (0), w'.drop (0) ++ tl, some (iP (some (true, true)) false), k', o'⟩, Kept.of rfl KT.z KM.z, ⟨hlt, s2, fun d hd => t2 d (List.mem_of_mem_take hd), hct, htl, s3, hend, hcn, fun e => by simp at e⟩, by simp only []; rw [hdt]; exact hW2lt⟩
          · simp only [iV, iM, oV, oM, oNum, iP, gM]
            simp only [go_sem, hi]
            rw [hsp]
            exact ⟨⟨0, w'.take (0), w'.drop (0) ++ tl, some (iP (some (true, true)) true), k', o'⟩, Kept.of rfl KT.z KM.z, ⟨hlt, s2, fun d hd => t2 d (List.mem_of_mem_take hd), hct, htl, s3, hend, hcn, fun e => by simp at e⟩, by simp only []; rw [hdt]; exact hW2lt⟩
      | succ q =>
        have hql : q < w'.length := by omega
        have hqg : q < (w' ++ tl).length := by rw [List.length_append]; omega
        have hqn : q < w'.length + tl.length := by omega
        have hgt : (w' ++ tl).getD q 0 = w'.getD q 0 := getD_left hql
        have hqi := wi_nat q (by omega)
        have hq1 : q < q + 1 := by omega
        have hq2 : q ≤ q + 1 := by omega
        have hq3 : q ≤ w'.length + tl.length := by omega
        rcases (by cases (w'.getD q 0 == 0) <;> simp : (w'.getD q 0 == 0) = true ∨ (w'.getD q 0 == 0) = false) with hz | hz
        · simp only [oV, oM, oNum]
          simp only [go_sem, Nat.succ_pos, hqi, hq1, hqg, hqn, gU hqg, hgt, hz, hq2, hq3]
          exact ⟨by simp, q, Kept.of rfl KT.z KM.z, ⟨by omega, fun i hi => by
           rcases Nat.eq_or_lt_of_le hi with rfl | hi
           · simpa using hz
           · exact q2 i hi⟩, by omega⟩
        · have hzn : w'.getD q 0 ≠ 0 := by simpa using hz
          have hW0 : 0 < W2 := by
           rw [← hW2]; exact dOf_pos hql hzn
          simp only [oV, oM, oNum]
          simp only [go_sem, Nat.succ_pos, hqi, hq1, hqg, hqn, gU hqg, hgt, hz]
          refine trX_loopV HE hP.mix (fun y : T3 => iL [4, 0] (some (true, true)) y.j) (fun y => ⟨upd (upd (upd (upd (upd (fun _ => .junk) 2 (.str ⟨#[]⟩)) 3 (.sl 4 0 (q + 1) 1)) 4 (iV (some (true, true)) y.j y.k)) 5 (.int .u64 (y.r : Int))) 6 (.int .i64 (y.i : Int)), iM .u8 (upd (upd (fun _ => .unused) 0 (.live [.opq (.nat a), .pad])) 4 (.live (List.map (fun d : Nat => AV.int .u64 (d : Int)) (w' ++ tl)))) (some (true, true)) y.j o y.o, 85⟩)
           (fun y => y.i ≤ 19 ∧ y.o.length = y.k ∧ byt y.o ∧ y.r < 10 ^ (19 - y.i) ∧ a = dv y.o + 10 ^ y.k * (y.r + 10 ^ (19 - y.i) * W2) ∧ (W2 = 0 → y.r = 0 → Canon (y.o.map (· - 48))) ∧ (y.j = none → y.o = o ∧ y.k = k ∧ y.i = 0 ∧ (0 < W2 ∨ 0 < y.r))) (fun y => 20 - y.i) ⟨none, 0, c, k, o⟩ (fun y => iX (some (true, true)) 15 y.j)
           (fun x r hr => iL_has (k := .u8) (l := o) Has.z (some (true, true)) x.j r hr) (Kept.of rfl KT.z KM.z) ⟨by simp, h2, h6, t3, hA, fun e1 e2 => absurd hWc (by have e1 : W2 = 0 := e1; have e2 : c = 0 := e2; omega), fun _ => ⟨rfl, rfl, rfl, hWc⟩⟩ 85 (by kernel_rfl) ?_
          rintro ⟨j, i, r, k', o'⟩ ⟨s1, s2, s3, s4, s5, s6, s7⟩
          simp only [] at s1 s2 s3 s4 s5 s6 s7
          have hpw : i < 19 → 10 ^ (19 - i) = 10 * 10 ^ (19 - (i + 1)) := fun h => by rw [show 19 - i = 19 - (i + 1) + 1 by omega, Nat.pow_succ, Nat.mul_comm]
          have hm : (r : Int).tmod 10 = ((r % 10 : Nat) : Int) := rfl
          have hrb : r < 18446744073709551616 := Nat.lt_of_lt_of_le s4 (Nat.le_trans (Nat.pow_le_pow_right (by decide) (show 19 - i ≤ 19 by omega)) (by decide))
          have hdv : IntKind.u64.wrap ((r : Int).tdiv 10) = ((r / 10 : Nat) : Int) := wu_div r 10 hrb
          have hu8 := u8_dig r
          have hwi := wi_add1 i (by omega)
          have hq0' : 0 < q9 + 1 := Nat.succ_pos q9
          have hq0 : 0 < q + 1 := Nat.succ_pos q
          by_cases hi : i < 19
          · have hgo : 1 ≤ r + 10 ^ (19 - i) * W2 := by
             have := Nat.mul_pos (Nat.pow_pos (show 0 < 10 by decide) (n := 19 - i)) hW0
             omega
            have hr := hq0
            have hkb : k' + 1 ≤ 1099511627776 := by
             have h1 : 10 ^ k' * 1 ≤ 10 ^ k' * (r + 10 ^ (19 - i) * W2) := Nat.mul_le_mul_left _ hgo
             have h2 : 2 ^ k' ≤ 10 ^ k' := Nat.pow_le_pow_left (by decide) _
             have h3 := blen_lt a
             have h4 : k' < blen a := (Nat.pow_lt_pow_iff_right (a := 2) (by decide)).1 (by omega)
             omega
            have hst : ∀ o'' : List Nat, o'' = o' ++ [48 + r % 10] → o''.length = k' + 1 ∧ byt o'' ∧ r / 10 < 10 ^ (19 - (i + 1)) ∧ a = dv o'' + 10 ^ (k' + 1) * (r / 10 + 10 ^ (19 - (i + 1)) * W2) ∧ (W2 = 0 → r / 10 = 0 → Canon (o''.map (· - 48))) := fun o'' ho => by
             subst ho
             refine ⟨by simp [s2], byt_snoc s3 r, by have := hpw hi; omega, ?_, fun e1 e2 => snoc_canon _ _ ?_⟩
             · rw [dv_snoc, s2, Nat.pow_succ]
               rw [hpw hi, Nat.mul_assoc] at s5
               exact dig_step s5
             · rw [e1, Nat.mul_zero, Nat.add_zero] at hgo
               omega
            rcases j with _ | _ | _
            · obtain ⟨e1, e2, _, _⟩ := s7 rfl
              subst e1
              subst e2
              simp only [iV, iM, oV, oM, oNum, iX, iP, gM]
              simp only [go_sem, hi, hr, hm, hdv, hu8, hwi, hkb, map_snoc, hq0']
              first
               | (have h9' := h9 rfl
                  obtain ⟨ho, hk⟩ := h9'
                  subst ho
                  subst hk
                  obtain ⟨z1, z2, z3, z4, z5⟩ := hst [48 + r % 10] rfl
                  exact ⟨by decide, ⟨by simp, fun _ => trivial⟩, by decide, ⟨some false, i + 1, r / 10, 1, [48 + r % 10]⟩, Kept.of rfl KT.z KM.z, ⟨by simp only []; omega, z1, z2, z3, z4, z5, fun e => by simp at e⟩, by simp only []; omega⟩)
               | (obtain ⟨z1, z2, z3, z4, z5⟩ := hst (o' ++ [48 + r % 10]) rfl
                  exact ⟨by decide, ⟨s2, by simp, fun _ => trivial⟩, by decide, ⟨some false, i + 1, r / 10, k' + 1, o' ++ [48 + r % 10]⟩, Kept.of rfl KT.z KM.z, ⟨by simp only []; omega, z1, z2, z3, z4, z5, fun e => by simp at e⟩, by simp only []; omega⟩)
            · simp only [iV, iM, oV, oM, oNum, iX, iP, gM]
              simp only [go_sem, hi, hr, hm, hdv, hu8, hwi, hkb, map_snoc, hq0']
              obtain ⟨z1, z2, z3, z4, z5⟩ := hst (o' ++ [48 + r % 10]) rfl
              exact ⟨by decide, ⟨s2, by simp, fun _ => trivial⟩, by decide, ⟨some true, i + 1, r / 10, k' + 1, o' ++ [48 + r % 10]⟩, Kept.of rfl KT.z KM.z, ⟨by simp only []; omega, z1, z2, z3, z4, z5, fun e => by simp at e⟩, by simp only []; omega⟩
            · simp only [iV, iM, oV, oM, oNum, iX, iP, gM]
              simp only [go_sem, hi, hr, hm, hdv, hu8, hwi, hkb, map_snoc, hq0']
              obtain ⟨z1, z2, z3, z4, z5⟩ := hst (o' ++ [48 + r % 10]) rfl
              exact ⟨by decide, ⟨s2, by simp, fun _ => trivial⟩, by decide, ⟨some false, i + 1, r / 10, k' + 1, o' ++ [48 + r % 10]⟩, Kept.of rfl KT.z KM.z, ⟨by simp only []; omega, z1, z2, z3, z4, z5, fun e => by simp at e⟩, by simp only []; omega⟩
          · have hr0 : r = 0 := by
             rw [show 19 - i = 0 by omega] at s4; omega
            have hsp : w' ++ tl = w'.take (q + 1) ++ (w'.drop (q + 1) ++ tl) := by rw [← List.append_assoc, List.take_append_drop]
            have hdt : dOf 18446744073709551616 (w'.take (q + 1)) = W2 := (dOf_trim q2).trans hW2
            have hW2lt : W2 < dOf 18446744073709551616 w := by rw [hW2] at t4; omega
            have hend : a = dv o' + 10 ^ k' * dOf 18446744073709551616 (w'.take (q + 1)) := by
             rw [hdt, s5, hr0, Nat.zero_add]
             first
              | (rw [show 19 - i = 0 by omega, Nat.pow_zero, Nat.one_mul])
              | (rw [hW0, Nat.mul_zero])
            have hcn : w'.take (q + 1) = [] → Canon (o'.map (· - 48)) := fun e => s6 (by rw [← hdt, e]; rfl) hr0
            have htl : (q + 1) + (w'.drop (q + 1) ++ tl).length = x.length := by rw [List.length_append, List.length_drop]; omega
            have hct : Canon (w'.take (q + 1)) := by
             first
              | (exact canon_take (by omega) hzn)
              | (intro h; exact absurd rfl h)
            have hlt : (w'.take (q + 1)).length = q + 1 := by rw [List.length_take]; omega
            rcases j with _ | _ | _
            · obtain ⟨_, _, e3, e4⟩ := s7 rfl
              first
               | omega
               | (exfalso; omega)
            · simp only [iV, iM, oV, oM, oNum, iP, gM]
              simp only [go_sem, hi]
              rw [hsp]
              exact ⟨⟨q + 1, w'.take (q + 1), w'.drop (q + 1) ++ tl, some (iP (some (true, true)) false), k', o'⟩, Kept.of rfl KT.z KM.z, ⟨hlt, s2, fun d hd => t2 d (List.mem_of_mem_take hd), hct, htl, s3, hend, hcn, fun e => by simp at e⟩, by simp only []; rw [hdt]; exact hW2lt⟩
            · simp only [iV, iM, oV, oM, oNum, iP, gM]
              simp only [go_sem, hi]
              rw [hsp]
              exact ⟨⟨q + 1, w'.take (q + 1), w'.drop (q + 1) ++ tl, some (iP (some (true, true)) true), k', o'⟩, Kept.of rfl KT.z KM.z, ⟨hlt, s2, fun d hd => t2 d (List.mem_of_mem_take hd), hct, htl, s3, hend, hcn, fun e => by simp at e⟩, by simp only []; rw [hdt]; exact hW2lt⟩
   · have hn0 : n = 0 := by omega
     have hw0 : w = [] := List.length_eq_zero_iff.1 (by omega)
     subst hw0
     have hao : a = dv o := by rw [h7]; simp [dOf]
     have hon : 0 < k := by
      rcases Nat.eq_zero_or_pos k with hk | hk
      · have : o = [] := List.length_eq_zero_iff.1 (by omega)
        rw [this] at hao; simp [dv, dOf] at hao; omega
      · exact hk
     have hdl := text_end h6 hao (h8 rfl) h0
     have hkb : k ≤ 1099511627776 := by
      have e := congrArg List.length hdl
      unfold decL dec10 at e
      rw [if_neg (by omega), List.length_reverse, List.length_map, List.length_reverse, h2] at e
      have h1 := digs_length_le 10 a (blen a) (by decide) (Nat.lt_of_lt_of_le (blen_lt a) (Nat.pow_le_pow_left (by decide) _))
      omega
     rcases D with _ | p
     · have := h9 rfl; omega
     ·
      obtain ⟨nm, hnm, hn0', hn4'⟩ : ∃ nm, oNum p = nm ∧ nm ≠ 0 ∧ nm ≠ 4 := ⟨_, rfl, by rcases p with ⟨_ | _, _ | _⟩ <;> simp [oNum], by rcases p with ⟨_ | _, _ | _⟩ <;> simp [oNum]⟩
      have hna : (nm == 0) = false := by simpa using hn0'
      have hnb : (nm == 4) = false := by simpa using hn4'
      have hnc : (0 == nm) = false := by simpa using Ne.symm hn0'
      have hnd : (4 == nm) = false := by simpa using Ne.symm hn4'
      have hr : [nm, 4, 0].contains nm = true := by simp
      have hg : ∀ z : List Nat, GenM [nm, 4, 0] (upd (upd (upd (fun _ => .unused) 0 (.live [.opq (.nat a), .pad])) 4 (.live (List.map (fun d : Nat => AV.int .u64 (d : Int)) (tl)))) nm (.live (z.map fun d : Nat => AV.int .u8 (d : Int)))) := fun z => ((GenM.nil.upd (by simp) rfl).upd (by simp) objOnly_U).upd hr objOnly_U
      simp only [oV, oM, hnm]
      have hk1 : IntKind.i64.wrap ((k : Int) - 1) = ((k - 1 - 0 : Nat) : Int) := by rw [IntKind.wrap_i64]; omega
      simp only [go_sem, hn, hk1, hna, hnb, hnc, hnd]
      refine trX_loop HE hP.mix [nm, 4, 0] (fun q : Nat × List Nat => ⟨upd (upd (upd (upd (fun _ => .junk) 2 (.str ⟨#[]⟩)) 4 (.sl nm 0 k 1)) 7 (.int .i64 (q.1 : Int))) 8 (.int .i64 ((k - 1 - q.1 : Nat) : Int)), upd (upd (upd (fun _ => .unused) 0 (.live [.opq (.nat a), .pad])) 4 (.live (List.map (fun d : Nat => AV.int .u64 (d : Int)) (tl)))) nm (.live (q.2.map fun d : Nat => AV.int .u8 (d : Int))), 85⟩)
       (fun q => q.1 ≤ k - 1 ∧ q.2.length = k ∧ ∀ t, t < k → q.2.getD t 0 = if t < q.1 ∨ k - 1 - q.1 < t then o.getD (k - 1 - t) 0 else o.getD t 0) (fun q => k - q.1) (0, o) 20
       (by exact (hg o).1) (Kept.of rfl KT.z (by exact KM.gen (hg o))) ⟨by simp, h2, fun t ht => by rw [if_neg (by omega)]⟩ 85 (by kernel_rfl) ?_
      rintro ⟨i, z⟩ ⟨q1, q2, q3⟩
      simp only [] at q1 q2 q3
      by_cases hi : i < k - 1 - i
      · have x1 : i < k := by omega
        have x2 : k - 1 - i < k := by omega
        have x3 : i < z.length := by omega
        have x4 : k - 1 - i < z.length := by omega
        have x5 := wi_add1 i (by omega)
        have x6 : IntKind.i64.wrap (((k - 1 - i : Nat) : Int) - 1) = ((k - 1 - (i + 1) : Nat) : Int) := by rw [IntKind.wrap_i64]; omega
        have x7 : i < (z.set (k - 1 - i) (z.getD i 0)).length := by rw [List.length_set]; exact x3
        have x8 : k - 1 - i < (z.set i (z.getD (k - 1 - i) 0)).length := by rw [List.length_set]; exact x4
        simp only [go_sem, hi, x1, x2, x3, x4, x5, x6, x7, x8, gU x3, gU x4, gU x8, upd_upd, hna, hnb, hnc, hnd]
        refine ⟨(i + 1, (z.set i (z.getD (k - 1 - i) 0)).set (k - 1 - i) (z.getD i 0)), Kept.of rfl KT.z (KM.gen (hg _)), ⟨by simp only []; omega, by simp only [List.length_set]; exact q2, fun t ht => ?_⟩, by simp only []; omega⟩
        simp only []
        by_cases e1 : t = k - 1 - i
        · rw [e1, getD_set_eq _ _ _ x8, q3 i x1, if_neg (by omega), if_pos (.inr (by omega))]; congr 1; omega
        · rw [getD_set_ne _ _ _ _ (Ne.symm e1)]
          by_cases e2 : t = i
          · rw [e2, getD_set_eq _ _ _ x3, q3 _ x2, if_neg (by omega), if_pos (.inl (by omega))]
          · rw [getD_set_ne _ _ _ _ (Ne.symm e2), q3 t ht]
            by_cases e3 : t < i ∨ k - 1 - i < t
            · rw [if_pos e3, if_pos (by omega)]
            · rw [if_neg e3, if_neg (by omega)]
      · have hz : z = o.reverse := by
         refine List.ext_getElem? fun t => ?_
         by_cases ht : t < k
         · have := q3 t ht
           rw [List.getElem?_reverse (by omega), h2]
           have e : z.getD t 0 = o.getD (k - 1 - t) 0 := by
            rw [this]; split
            · rfl
            · congr 1; omega
           rw [List.getElem?_eq_getElem (show t < z.length by omega), List.getElem?_eq_getElem (show k - 1 - t < o.length by omega), ← getD_get (by omega), ← getD_get (by omega), e]
         · rw [List.getElem?_eq_none (by omega), List.getElem?_eq_none (by rw [List.length_reverse]; omega)]
        have hzt : z.take k = z := List.take_of_length_le (by omega)
        have hbb : ∀ l : List Nat, (l.map fun d : Nat => AV.int .u8 (d : Int)).all isB = true := fun l => by rw [List.all_map]; simp [isB]
        simp only [go_sem, hi, hzt, q2, hbb, hna, hnb, hnc, hnd]
        rw [hz, ← hdl]
        exact .refl _
def TextS : List AV → Option (Prop × AV) := on1 fun a => (blen a ≤ 68719476736, .str (decS a))
theorem TextS_ok (hP : PrgOk P) (args p r) : TextS args = some (p, r) → p → CSpec P 52 args r := on1_ok (fun a h => by exact Text_spec hP a h) args p r
attribute [go_sem] TextS
end Go.Proofs.YtbfapomdnocbaaaGreatDoor.AM
