/- The laws of vectors: their helpers. -/
import Derived.Test.YtbfapomdnocbaaaGreatDoorB9
namespace Go.Proofs.YtbfapomdnocbaaaGreatDoor.AM
set_option linter.all false
set_option autoImplicit true
set_option relaxedAutoImplicit true
open Go Go.Proofs
set_option maxRecDepth 100000
set_option maxHeartbeats 8000000
set_option linter.unusedSimpArgs false
variable {P : Program}
def unV : List AV → Option (List V3)
 | [] => some []
 | .opq (.frac x) :: .pad :: .pad :: .pad :: .pad :: .opq (.frac y) :: .pad :: .pad :: .pad :: .pad :: .opq (.frac z) :: .pad :: .pad :: .pad :: .pad :: t => (unV t).map fun l => (x, y, z) :: l
 | _ => none
theorem unV_nil : unV [] = some [] := rfl
theorem unV_cons (x y z t) : unV (.opq (.frac x) :: .pad :: .pad :: .pad :: .pad :: .opq (.frac y) :: .pad :: .pad :: .pad :: .pad :: .opq (.frac z) :: .pad :: .pad :: .pad :: .pad :: t) = (unV t).map fun l => (x, y, z) :: l := Eq.trans rfl rfl
theorem unV_inv : ∀ (cs : List AV) (l : List V3), unV cs = some l → cs = cl cV l := by
 intro cs
 induction cs using unV.induct with
 | case1 => intro l h; simp only [unV_nil, Option.some.injEq] at h; subst h; rfl
 | case2 x y z t ih =>
   intro l h
   rw [unV_cons, Option.map_eq_some_iff] at h
   obtain ⟨k, h1, rfl⟩ := h
   rw [ih k h1, cl_cons]; rfl
 | case3 t h1 h2 =>
   intro l h
   unfold unV at h
   split at h
   · exact absurd rfl h1
   · exact absurd rfl (h2 _ _ _ _)
   · simp at h
def unX3 : List AV → Option (List V3)
 | [] => some []
 | .opq (.rfrac x) :: .pad :: .pad :: .opq (.rfrac y) :: .pad :: .pad :: .opq (.rfrac z) :: .pad :: .pad :: t => (unX3 t).map fun l => (x, y, z) :: l
 | _ => none
theorem unX3_nil : unX3 [] = some [] := rfl
theorem unX3_cons (x y z t) : unX3 (.opq (.rfrac x) :: .pad :: .pad :: .opq (.rfrac y) :: .pad :: .pad :: .opq (.rfrac z) :: .pad :: .pad :: t) = (unX3 t).map fun l => (x, y, z) :: l := Eq.trans rfl rfl
theorem unX3_inv : ∀ (cs : List AV) (l : List V3), unX3 cs = some l → cs = cl cW l := by
 intro cs
 induction cs using unX3.induct with
 | case1 => intro l h; simp only [unX3_nil, Option.some.injEq] at h; subst h; rfl
 | case2 x y z t ih =>
   intro l h
   rw [unX3_cons, Option.map_eq_some_iff] at h
   obtain ⟨k, h1, rfl⟩ := h
   rw [ih k h1, cl_cons]; rfl
 | case3 t h1 h2 =>
   intro l h
   unfold unX3 at h
   split at h
   · exact absurd rfl h1
   · exact absurd rfl (h2 _ _ _ _)
   · simp at h
def fVs : List V3 → Prop
 | [] => True
 | a :: l => fV a 65536 ∧ fVs l
theorem fVs_all : ∀ {l : List V3}, fVs l → ∀ a ∈ l, fV a 65536
 | _ :: _, h, _, ha => by
   rcases List.mem_cons.1 ha with rfl | ha
   · exact h.1
   · exact fVs_all h.2 _ ha
theorem fVs_nil : fVs [] = True := rfl
theorem fVs_cons (a l) : fVs (a :: l) = (fV a 65536 ∧ fVs l) := rfl
noncomputable def rankS (un : List AV → Option (List V3)) : List AV → Option (Prop × AV)
 | [.imm n cs] => (un cs).map fun l => (n = l.length ∧ l.length ≤ 1000000 ∧ fVs l, .int .i64 (rkN l : Nat))
 | [.nils] => some (True, .int .i64 (rkN [] : Nat))
 | _ => none
theorem rankS_nil (un) : rankS un [.nils] = some (True, .int .i64 (rkN [] : Nat)) := rfl
theorem rankS_eq (un n cs) : rankS un [.imm n cs] = (un cs).map fun l => (n = l.length ∧ l.length ≤ 1000000 ∧ fVs l, .int .i64 (rkN l : Nat)) := rfl
theorem rankS_ok {f : Nat} {un : List AV → Option (List V3)} {c : V3 → List AV} (hun : ∀ cs l, un cs = some l → cs = cl c l) (h : ∀ l : List V3, l.length ≤ 1000000 → (∀ a ∈ l, fV a 65536) → CSpec P f [.imm l.length (cl c l)] (.int .i64 (rkN l : Nat))) (args p r) (he : rankS un args = some (p, r)) (hp : p) : CSpec P f args r := by
 unfold rankS at he
 split at he
 · simp only [Option.map_eq_some_iff, Prod.mk.injEq] at he
   obtain ⟨l, h1, rfl, rfl⟩ := he
   rw [hun _ _ h1, hp.1]
   exact h l hp.2.1 (fVs_all hp.2.2)
 · simp only [Option.some.injEq, Prod.mk.injEq] at he
   obtain ⟨rfl, rfl⟩ := he
   exact (h [] (by decide) (fun a ha => by simp at ha)).cv (CvL.nilR .nil)
 · simp at he
noncomputable def vRankS : List AV → Option (Prop × AV) := rankS unV
noncomputable def rvRankS : List AV → Option (Prop × AV) := rankS unX3
theorem vRankS_ok (hP : PrgOk P) (args p r) : vRankS args = some (p, r) → p → CSpec P 17 args r := rankS_ok unV_inv (vRank_spec hP) args p r
theorem rvRankS_ok (hP : PrgOk P) (args p r) : rvRankS args = some (p, r) → p → CSpec P 43 args r := rankS_ok unX3_inv (rvRank_spec hP) args p r
attribute [go_sem] vRankS rvRankS rvDirS unV_nil unV_cons unX3_nil unX3_cons fVs_nil fVs_cons rankS_eq rankS_nil
noncomputable def Zt0 : Nat → List AV → Option (Prop × AV) := addS (addS (addS Yt2 17 vRankS) 41 rvDirS) 43 rvRankS
theorem Zt0_all (hP : PrgOk P) (T) (hT : TyOk P T) : EnvOk P ⟨T, Zt0⟩ := ((((Yt2_all hP T hT).add (vRankS_ok hP)).add (rvDirS_ok hP)).add (rvRankS_ok hP))
theorem Zt0_at (f a) : Zt0 f a = (addS (addS (addS Yt2 17 vRankS) 41 rvDirS) 43 rvRankS) f a := rfl
attribute [go_sem] Zt0_at
theorem rvMid_spec (hP : PrgOk P) (a b : V3) (ha : fV a 268435456) (hb : fV b 268435456) : CSpec P 57 [(.agg [.opq (.rfrac (a.1)), .pad, .pad, .opq (.rfrac (a.2.1)), .pad, .pad, .opq (.rfrac (a.2.2)), .pad, .pad]), (.agg [.opq (.rfrac (b.1)), .pad, .pad, .opq (.rfrac (b.2.1)), .pad, .pad, .opq (.rfrac (b.2.2)), .pad, .pad])] (.agg [.opq (.rfrac (qmul qhf (qadd a.1 b.1))), .pad, .pad, .opq (.rfrac (qmul qhf (qadd a.2.1 b.2.1))), .pad, .pad, .opq (.rfrac (qmul qhf (qadd a.2.2 b.2.2))), .pad, .pad]) := by
 have HE := Zt0_all hP TF hP.tF
 obtain ⟨a1, a2, a3⟩ := fV_mono ha (show _ ≤ FB by decide)
 obtain ⟨b1, b2, b3⟩ := fV_mono hb (show _ ≤ FB by decide)
 have q1 := Nat.le_trans (fl_qadd ha.1 hb.1) (show _ ≤ FB by decide)
 have q2 := Nat.le_trans (fl_qadd ha.2.1 hb.2.1) (show _ ≤ FB by decide)
 have q3 := Nat.le_trans (fl_qadd ha.2.2 hb.2.2) (show _ ≤ FB by decide)
 have qh := Nat.le_trans qhf_fl (show _ ≤ FB by decide)
 refine CSpec_go (E := ⟨TF, Zt0⟩) (fn57 hP) HE hP.mix ?_
 simp only [go_sem, a1, a2, a3, b1, b2, b3, q1, q2, q3, qh]
 exact fin_z
noncomputable def rvMidS : List AV → Option (Prop × AV) := onX2 fun a b => (fV a 268435456 ∧ fV b 268435456, (.agg [.opq (.rfrac (qmul qhf (qadd a.1 b.1))), .pad, .pad, .opq (.rfrac (qmul qhf (qadd a.2.1 b.2.1))), .pad, .pad, .opq (.rfrac (qmul qhf (qadd a.2.2 b.2.2))), .pad, .pad]))
theorem rvMidS_ok (hP : PrgOk P) (args p r) : rvMidS args = some (p, r) → p → CSpec P 57 args r := onX2_ok (fun a b h => by exact rvMid_spec hP a b h.1 h.2) args p r
theorem rvDet_spec (hP : PrgOk P) (a b c : V3) (ha : fV a 8388608) (hb : fV b 8388608) (hc : fV c 8388608) : CSpec P 39 [(.agg [.opq (.rfrac (a.1)), .pad, .pad, .opq (.rfrac (a.2.1)), .pad, .pad, .opq (.rfrac (a.2.2)), .pad, .pad]), (.agg [.opq (.rfrac (b.1)), .pad, .pad, .opq (.rfrac (b.2.1)), .pad, .pad, .opq (.rfrac (b.2.2)), .pad, .pad]), (.agg [.opq (.rfrac (c.1)), .pad, .pad, .opq (.rfrac (c.2.1)), .pad, .pad, .opq (.rfrac (c.2.2)), .pad, .pad])] (.agg [.opq (.rfrac (qdt a (vcq b c))), .pad, .pad]) := by
 have HE := Zt0_all hP TF hP.tF
 obtain ⟨a1, a2, a3⟩ := fV_mono ha (show _ ≤ 67108864 by decide)
 obtain ⟨b1, b2, b3⟩ := fV_mono hb (show _ ≤ 268435456 by decide)
 obtain ⟨c1, c2, c3⟩ := fV_mono hc (show _ ≤ 268435456 by decide)
 obtain ⟨d1, d2, d3⟩ := fV_mono (vcq_fl hb hc) (show _ ≤ 67108864 by decide)
 refine CSpec_go (E := ⟨TF, Zt0⟩) (fn39 hP) HE hP.mix ?_
 simp only [go_sem, a1, a2, a3, b1, b2, b3, c1, c2, c3, d1, d2, d3]
 exact fin_z
noncomputable def rvDetS : List AV → Option (Prop × AV)
 | [x, y, z] => (rawX x).bind fun a => (rawX y).bind fun b => (rawX z).map fun c => (fV a 8388608 ∧ fV b 8388608 ∧ fV c 8388608, (.agg [.opq (.rfrac (qdt a (vcq b c))), .pad, .pad]))
 | _ => none
theorem rvDetS_eq (x y z) : rvDetS [x, y, z] = (rawX x).bind fun a => (rawX y).bind fun b => (rawX z).map fun c => (fV a 8388608 ∧ fV b 8388608 ∧ fV c 8388608, (.agg [.opq (.rfrac (qdt a (vcq b c))), .pad, .pad])) := rfl
theorem rvDetS_ok (hP : PrgOk P) (args p r) (he : rvDetS args = some (p, r)) (hp : p) : CSpec P 39 args r := by
 unfold rvDetS at he
 split at he
 · simp only [Option.bind_eq_some_iff, Option.map_eq_some_iff, Prod.mk.injEq] at he
   obtain ⟨a, h1, b, h2, c, h3, rfl, rfl⟩ := he
   rw [rawX_inv h1, rawX_inv h2, rawX_inv h3]
   exact rvDet_spec hP a b c hp.1 hp.2.1 hp.2.2
 · simp at he
attribute [go_sem] rvMidS rvDetS_eq
noncomputable def Zt1 : Nat → List AV → Option (Prop × AV) := addS (addS Zt0 57 rvMidS) 39 rvDetS
theorem Zt1_all (hP : PrgOk P) (T) (hT : TyOk P T) : EnvOk P ⟨T, Zt1⟩ := (((Zt0_all hP T hT).add (rvMidS_ok hP)).add (rvDetS_ok hP))
theorem Zt1_at (f a) : Zt1 f a = (addS (addS Zt0 57 rvMidS) 39 rvDetS) f a := rfl
attribute [go_sem] Zt1_at
theorem eqV (a b : V3) : (decide (a.1 = b.1) && (decide (a.2.1 = b.2.1) && (decide (a.2.2 = b.2.2) && true))) = decide (a = b) := by
 rw [Bool.eq_iff_iff]
 simp only [Bool.and_eq_true, decide_eq_true_eq, and_true]
 exact ⟨fun h => v3_ext h.1 h.2.1 h.2.2, fun h => by rw [h]; exact ⟨rfl, rfl, rfl⟩⟩
theorem eqAgg3 (t1 t2 t3 : Nat × Nat) (sz b : Nat) (z1 z2 z3 a1 a2 a3 b1 b2 b3 : ByteArray) : eqAgg ⟨.struct [t1, t2, t3], sz, b, [.str z1, .str z2, .str z3]⟩ .eql [.str a1, .str a2, .str a3] [.str b1, .str b2, .str b3] = some (True, .bool ((a1.toList == b1.toList) && ((a2.toList == b2.toList) && ((a3.toList == b3.toList) && true)))) := by
 rw [eqAgg_eql _ _ _ _ _ _ rfl rfl]
 have : ([AV.str a1, .str a2, .str a3].length = [AV.str z1, .str z2, .str z3].length) = True := eq_true rfl
 simp only [eqStrs_cons, eqStrs_nil, Option.map_some, this]
theorem eqAgg3n (t1 t2 t3 : Nat × Nat) (sz b : Nat) (z1 z2 z3 a1 a2 a3 b1 b2 b3 : ByteArray) : eqAgg ⟨.struct [t1, t2, t3], sz, b, [.str z1, .str z2, .str z3]⟩ .neq [.str a1, .str a2, .str a3] [.str b1, .str b2, .str b3] = some (True, .bool (!((a1.toList == b1.toList) && ((a2.toList == b2.toList) && ((a3.toList == b3.toList) && true))))) := by
 rw [eqAgg_neq _ _ _ _ _ _ rfl rfl]
 have : ([AV.str a1, .str a2, .str a3].length = [AV.str z1, .str z2, .str z3].length) = True := eq_true rfl
 simp only [eqStrs_cons, eqStrs_nil, Option.map_some, this]
attribute [go_sem] eqAgg3 eqAgg3n
theorem is4_spec (hP : PrgOk P) (a b : V3) (ha : fV a FB) (hb : fV b FB) : CSpec P 12 [(.agg [.opq (.frac (a.1)), .pad, .pad, .pad, .pad, .opq (.frac (a.2.1)), .pad, .pad, .pad, .pad, .opq (.frac (a.2.2)), .pad, .pad, .pad, .pad]), (.agg [.opq (.rfrac (b.1)), .pad, .pad, .opq (.rfrac (b.2.1)), .pad, .pad, .opq (.rfrac (b.2.2)), .pad, .pad])] (.bool (decide (a = b))) := by
 have HE := Zt1_all hP TF hP.tF
 obtain ⟨a1, a2, a3⟩ := ha
 obtain ⟨b1, b2, b3⟩ := hb
 rw [← eqV]
 refine CSpec_go (E := ⟨TF, Zt1⟩) (fn12 hP) HE hP.mix ?_
 simp only [go_sem, a1, a2, a3, b1, b2, b3, qtS_eq]
 exact fin_z
noncomputable def is4S : List AV → Option (Prop × AV)
 | [x, y] => (rawV x).bind fun a => (rawX y).map fun b => (fV a FB ∧ fV b FB, .bool (decide (a = b)))
 | _ => none
theorem is4S_eq (x y) : is4S [x, y] = (rawV x).bind fun a => (rawX y).map fun b => (fV a FB ∧ fV b FB, .bool (decide (a = b))) := rfl
theorem is4S_ok (hP : PrgOk P) (args p r) (he : is4S args = some (p, r)) (hp : p) : CSpec P 12 args r := by
 unfold is4S at he
 split at he
 · simp only [Option.bind_eq_some_iff, Option.map_eq_some_iff, Prod.mk.injEq] at he
   obtain ⟨a, h1, b, h2, rfl, rfl⟩ := he
   rw [rawV_inv h1, rawX_inv h2]
   exact is4_spec hP a b hp.1 hp.2
 · simp at he
theorem isF_spec (hP : PrgOk P) (a b : Rat) (ha : fl a ≤ FB) (hb : fl b ≤ FB) : CSpec P 33 [(.agg [.opq (.frac (a)), .pad, .pad, .pad, .pad]), (.agg [.opq (.rfrac (b)), .pad, .pad])] (.bool (decide (a = b))) := by
 have HE := Zt1_all hP TF hP.tF
 refine CSpec_go (E := ⟨TF, Zt1⟩) (fn33 hP) HE hP.mix ?_
 simp only [go_sem, ha, hb, qtS_eq]
 exact fin_z
noncomputable def isFS : List AV → Option (Prop × AV)
 | [(.agg [.opq (.frac (a)), .pad, .pad, .pad, .pad]), (.agg [.opq (.rfrac (b)), .pad, .pad])] => some (fl a ≤ FB ∧ fl b ≤ FB, .bool (decide (a = b)))
 | _ => none
theorem isFS_ok (hP : PrgOk P) (args p r) (h : isFS args = some (p, r)) (hp : p) : CSpec P 33 args r := by
 unfold isFS at h
 split at h
 · simp only [Option.some.injEq, Prod.mk.injEq] at h
   obtain ⟨rfl, rfl⟩ := h
   exact isF_spec hP _ _ hp.1 hp.2
 · simp at h
def lngP (x y z : ByteArray) : Bool := decide (90 < x.size) || (decide (90 < y.size) || decide (90 < z.size))
theorem long4_spec (hP : PrgOk P) (x y z : ByteArray) : CSpec P 72 [.agg [.str x, .str y, .str z]] (.bool (lngP x y z)) := by
 have HE := Zt1_all hP TF hP.tF
 unfold lngP
 refine CSpec_go (E := ⟨TF, Zt1⟩) (fn72 hP) HE hP.mix ?_
 by_cases h1 : 90 < x.size
 · simp only [go_sem, h1]
   exact fin_z
 · by_cases h2 : 90 < y.size
   · simp only [go_sem, h1, h2]
     exact fin_z
   · simp only [go_sem, h1, h2]
     exact fin_z
def long4S : List AV → Option (Prop × AV)
 | [.agg [.str x, .str y, .str z]] => some (True, .bool (lngP x y z))
 | _ => none
theorem long4S_ok (hP : PrgOk P) (args p r) (h : long4S args = some (p, r)) (hp : p) : CSpec P 72 args r := by
 unfold long4S at h
 split at h
 · simp only [Option.some.injEq, Prod.mk.injEq] at h
   obtain ⟨rfl, rfl⟩ := h
   exact long4_spec hP _ _ _
 · simp at h
attribute [go_sem] is4S_eq isFS long4S
noncomputable def Zt2 : Nat → List AV → Option (Prop × AV) := addS (addS (addS Zt1 12 is4S) 33 isFS) 72 long4S
theorem Zt2_all (hP : PrgOk P) (T) (hT : TyOk P T) : EnvOk P ⟨T, Zt2⟩ := ((((Zt1_all hP T hT).add (is4S_ok hP)).add (isFS_ok hP)).add (long4S_ok hP))
theorem Zt2_at (f a) : Zt2 f a = (addS (addS (addS Zt1 12 is4S) 33 isFS) 72 long4S) f a := rfl
attribute [go_sem] Zt2_at
end Go.Proofs.YtbfapomdnocbaaaGreatDoor.AM
/- The laws of vectors: points, and what small vectors give. -/
namespace Go.Proofs.YtbfapomdnocbaaaGreatDoor.AM
set_option linter.all false
set_option autoImplicit true
set_option relaxedAutoImplicit true
open Go Go.Proofs
set_option maxRecDepth 100000
set_option maxHeartbeats 8000000
set_option linter.unusedSimpArgs false
variable {P : Program}
noncomputable def ptV (x y z : ByteArray) : V3 := (parV (bl x) (bl y) (bl z)).1
noncomputable def okM (x y z : ByteArray) : Bool := decide ((parV (bl x) (bl y) (bl z)).2 = 0) && !lngP x y z
theorem made_spec (hP : PrgOk P) (x y z : ByteArray) (hx : (bl x).length ≤ 140737488355328) (hy : (bl y).length ≤ 140737488355328) (hz : (bl z).length ≤ 140737488355328) : CSpec P 32 [.agg [.str x, .str y, .str z]] (.tup [(.agg [.opq (.frac ((ptV x y z).1)), .pad, .pad, .pad, .pad, .opq (.frac ((ptV x y z).2.1)), .pad, .pad, .pad, .pad, .opq (.frac ((ptV x y z).2.2)), .pad, .pad, .pad, .pad]), (.agg [.opq (.rfrac ((ptV x y z).1)), .pad, .pad, .opq (.rfrac ((ptV x y z).2.1)), .pad, .pad, .opq (.rfrac ((ptV x y z).2.2)), .pad, .pad]), .bool (okM x y z)]) := by
 have HE := Zt2_all hP TF hP.tF
 unfold okM ptV
 obtain ⟨r, hr⟩ : ∃ r, parV (bl x) (bl y) (bl z) = r := ⟨_, rfl⟩
 rw [hr]
 refine CSpec_go (E := ⟨TF, Zt2⟩) (fn32 hP) HE hP.mix ?_
 by_cases h : r.2 = 0
 · have h1 : (r.2 == 0) = true := by rw [h]; rfl
   have h2 := decide_eq_true h
   simp only [go_sem, hx, hy, hz, hr, h1, h2, Bool.true_and]
   exact fin_z
 · have h1 : (r.2 == 0) = false := by simpa using h
   have h2 := decide_eq_false h
   simp only [go_sem, hx, hy, hz, hr, h1, h2, Bool.false_and]
   exact fin_z
noncomputable def madeS : List AV → Option (Prop × AV)
 | [.agg [.str x, .str y, .str z]] => some ((bl x).length ≤ 140737488355328 ∧ (bl y).length ≤ 140737488355328 ∧ (bl z).length ≤ 140737488355328, .tup [(.agg [.opq (.frac ((ptV x y z).1)), .pad, .pad, .pad, .pad, .opq (.frac ((ptV x y z).2.1)), .pad, .pad, .pad, .pad, .opq (.frac ((ptV x y z).2.2)), .pad, .pad, .pad, .pad]), (.agg [.opq (.rfrac ((ptV x y z).1)), .pad, .pad, .opq (.rfrac ((ptV x y z).2.1)), .pad, .pad, .opq (.rfrac ((ptV x y z).2.2)), .pad, .pad]), .bool (okM x y z)])
 | _ => none
theorem madeS_ok (hP : PrgOk P) (args p r) (h : madeS args = some (p, r)) (hp : p) : CSpec P 32 args r := by
 unfold madeS at h
 split at h
 · simp only [Option.some.injEq, Prod.mk.injEq] at h
   obtain ⟨rfl, rfl⟩ := h
   exact made_spec hP _ _ _ hp.1 hp.2.1 hp.2.2
 · simp at h
theorem parF_lit {l : List Nat} {q : Rat} (h : ¬ (¬ okD (szL l) ∨ ¬ okD (denL l) ∨ (mnL l = true ∧ szL l = [48]))) (h2 : ¬ (256 < (szL l).length ∨ 256 < (denL l).length)) (h3 : ¬ (47 ∈ l ∧ (valL (denL l) < 2 ∨ Nat.gcd (valL (szL l)) (valL (denL l)) ≠ 1))) (hq : mkRat (sg (mnL l) (valL (szL l))) (valL (denL l)) = q) : parF l = (q, 0) := by
 rw [parF_4 h h2 h3, qlow_eq, hq]
theorem rkN_is {l : List V3} {n : Nat} (h : Rk l n) : rkN l = n := (rkN_ok l).uniq h
theorem wakes4_spec (hP : PrgOk P) : CSpec P 15 [] (.bool true) := by
 have HE := Zt2_all hP TF hP.tF
 obtain ⟨A1, hA1⟩ : ∃ q : Rat, q = 0 := ⟨_, rfl⟩
 obtain ⟨A3, hA3⟩ : ∃ q : Rat, q = 1 := ⟨_, rfl⟩
 obtain ⟨B1, hB1⟩ : ∃ q : Rat, q = mkRat 1 2 := ⟨_, rfl⟩
 obtain ⟨B3, hB3⟩ : ∃ q : Rat, q = mkRat (-3) 1 := ⟨_, rfl⟩
 have k1 : qsub (qmul ((0 : Int) : Rat) ((0 : Int) : Rat)) (qmul ((0 : Int) : Rat) ((1 : Int) : Rat)) = A1 := by rw [qsub_eq, qmul_eq, qmul_eq, hA1]; decide +kernel
 have k2 : qsub (qmul ((0 : Int) : Rat) ((0 : Int) : Rat)) (qmul ((1 : Int) : Rat) ((0 : Int) : Rat)) = A1 := by rw [qsub_eq, qmul_eq, qmul_eq, hA1]; decide +kernel
 have k3 : qsub (qmul ((1 : Int) : Rat) ((1 : Int) : Rat)) (qmul ((0 : Int) : Rat) ((0 : Int) : Rat)) = A3 := by rw [qsub_eq, qmul_eq, qmul_eq, hA3]; decide +kernel
 have i0 : fl ((0 : Int) : Rat) ≤ 268435456 := Nat.le_trans (fl_i64 (by decide) (by decide)) (by decide)
 have i1 : fl ((1 : Int) : Rat) ≤ 268435456 := Nat.le_trans (fl_i64 (by decide) (by decide)) (by decide)
 have i2 : fl ((0 : Int) : Rat) ≤ FB := Nat.le_trans (fl_i64 (by decide) (by decide)) (by decide)
 have i3 : fl ((1 : Int) : Rat) ≤ FB := Nat.le_trans (fl_i64 (by decide) (by decide)) (by decide)
 have p1 : bl ⟨#[49, 47, 50]⟩ = [49, 47, 50] := rfl
 have p2 : bl ⟨#[48]⟩ = [48] := rfl
 have p3 : bl ⟨#[45, 51]⟩ = [45, 51] := rfl
 have e1 : parF [49, 47, 50] = (B1, 0) := parF_lit (by decide) (by decide) (by decide) (by rw [hB1]; decide +kernel)
 have e2 : parF [48] = (A1, 0) := parF_lit (by decide) (by decide) (by decide) (by rw [hA1]; decide +kernel)
 have e3 : parF [45, 51] = (B3, 0) := parF_lit (by decide) (by decide) (by decide) (by rw [hB3]; decide +kernel)
 have hB : parV [49, 47, 50] [48] [45, 51] = ((B1, A1, B3), 0) := by unfold parV; rw [e1, e2, e3]; rfl
 have hC : cmpV (A1, A1, A3) (((0 : Int) : Rat), ((0 : Int) : Rat), ((1 : Int) : Rat)) = 0 := by rw [hA1, hA3]; decide +kernel
 have hC' : (cmpV (A1, A1, A3) (((0 : Int) : Rat), ((0 : Int) : Rat), ((1 : Int) : Rat)) == 0) = true := by rw [hC]; rfl
 obtain ⟨D1, hD1⟩ : ∃ q : Rat, q = 1 := ⟨_, rfl⟩
 obtain ⟨D3, hD3⟩ : ∃ q : Rat, q = mkRat (-6) 1 := ⟨_, rfl⟩
 have hD : dirA (B1, A1, B3) = (D1, A1, D3) := by rw [hB1, hA1, hB3, hD1, hD3]; decide +kernel
 have t1 : ((qtS D1).toList == (ByteArray.mk #[49]).toList) = true := lit_text [49] rfl (by decide) (by decide) (by decide) (by decide) (by decide) (by rw [hD1]; decide +kernel)
 have t2 : ((qtS A1).toList == (ByteArray.mk #[48]).toList) = true := lit_text [48] rfl (by decide) (by decide) (by decide) (by decide) (by decide) (by rw [hA1]; decide +kernel)
 have t3 : ((qtS D3).toList == (ByteArray.mk #[45, 54]).toList) = true := lit_text [45, 54] rfl (by decide) (by decide) (by decide) (by decide) (by decide) (by rw [hD3]; decide +kernel)
 have t4 : ((qtS B1).toList == (ByteArray.mk #[49, 47, 50]).toList) = true := lit_text [49, 47, 50] rfl (by decide) (by decide) (by decide) (by decide) (by decide) (by rw [hB1]; decide +kernel)
 have hR : rkN [(A1, A1, A3), (B1, A1, B3)] = 2 := rkN_is (by rw [hA1, hA3, hB1, hB3]; unfold Rk; decide +kernel)
 have l1 : ([49, 47, 50] : List Nat).length ≤ 140737488355328 := by decide
 have l2 : ([48] : List Nat).length ≤ 140737488355328 := by decide
 have l3 : ([45, 51] : List Nat).length ≤ 140737488355328 := by decide
 have f1 : ∀ n, 8 ≤ n → (fl A1 ≤ n) = True := fun n h => eq_true (Nat.le_trans (by rw [hA1]; decide +kernel : fl A1 ≤ 8) h)
 have f2 : ∀ n, 8 ≤ n → (fl A3 ≤ n) = True := fun n h => eq_true (Nat.le_trans (by rw [hA3]; decide +kernel : fl A3 ≤ 8) h)
 have f3 : ∀ n, 8 ≤ n → (fl B1 ≤ n) = True := fun n h => eq_true (Nat.le_trans (by rw [hB1]; decide +kernel : fl B1 ≤ 8) h)
 have f4 : ∀ n, 8 ≤ n → (fl B3 ≤ n) = True := fun n h => eq_true (Nat.le_trans (by rw [hB3]; decide +kernel : fl B3 ≤ 8) h)
 have f5 : ∀ n, 8 ≤ n → (fl D1 ≤ n) = True := fun n h => eq_true (Nat.le_trans (by rw [hD1]; decide +kernel : fl D1 ≤ 8) h)
 have f6 : ∀ n, 8 ≤ n → (fl D3 ≤ n) = True := fun n h => eq_true (Nat.le_trans (by rw [hD3]; decide +kernel : fl D3 ≤ 8) h)
 have b1 : ((-9223372036854775808 : Int) ≤ 0 ∧ (0 : Int) ≤ 9223372036854775807) = True := eq_true (by decide)
 have b2 : ((-9223372036854775808 : Int) ≤ 1 ∧ (1 : Int) ≤ 9223372036854775807) = True := eq_true (by decide)
 refine CSpec_go (E := ⟨TF, Zt2⟩) (fn15 hP) HE hP.mix ?_
 simp only [go_sem, b1, b2, i0, i1, i2, i3, k1, k2, k3, f1 268435456 (by decide), f2 268435456 (by decide), f3 268435456 (by decide), f4 268435456 (by decide), f1 FB (by decide), f2 FB (by decide), f3 FB (by decide), f4 FB (by decide), f5 FB (by decide), f6 FB (by decide), f1 65536 (by decide), f2 65536 (by decide), f3 65536 (by decide), f4 65536 (by decide), p1, p2, p3, hB, l1, l2, l3, hC', hD, t1, t2, t3, t4, hR]
 exact .refl _
def wakes4S : List AV → Option (Prop × AV)
 | [] => some (True, .bool true)
 | _ => none
theorem wakes4S_ok (hP : PrgOk P) (args p r) (h : wakes4S args = some (p, r)) (hp : p) : CSpec P 15 args r := by
 unfold wakes4S at h
 split at h
 · simp only [Option.some.injEq, Prod.mk.injEq] at h
   obtain ⟨rfl, rfl⟩ := h
   exact wakes4_spec hP
 · simp at h
theorem sq_spec (hP : PrgOk P) (a : Rat) (ha : fl a ≤ FB) : CSpec P 46 [(.agg [.opq (.frac (a)), .pad, .pad, .pad, .pad])] (.agg [.opq (.frac (qmul a a)), .pad, .pad, .pad, .pad]) := by
 have HE := Zt2_all hP TF hP.tF
 refine CSpec_go (E := ⟨TF, Zt2⟩) (fn46 hP) HE hP.mix ?_
 simp only [go_sem, ha]
 exact fin_z
noncomputable def sqS : List AV → Option (Prop × AV)
 | [(.agg [.opq (.frac (a)), .pad, .pad, .pad, .pad])] => some (fl a ≤ FB, (.agg [.opq (.frac (qmul a a)), .pad, .pad, .pad, .pad]))
 | _ => none
theorem sqS_ok (hP : PrgOk P) (args p r) (h : sqS args = some (p, r)) (hp : p) : CSpec P 46 args r := by
 unfold sqS at h
 split at h
 · simp only [Option.some.injEq, Prod.mk.injEq] at h
   obtain ⟨rfl, rfl⟩ := h
   exact sq_spec hP _ hp
 · simp at h
attribute [go_sem] madeS wakes4S sqS
noncomputable def Zt3 : Nat → List AV → Option (Prop × AV) := addS (addS (addS Zt2 32 madeS) 15 wakes4S) 46 sqS
theorem Zt3_all (hP : PrgOk P) (T) (hT : TyOk P T) : EnvOk P ⟨T, Zt3⟩ := ((((Zt2_all hP T hT).add (madeS_ok hP)).add (wakes4S_ok hP)).add (sqS_ok hP))
theorem Zt3_at (f a) : Zt3 f a = (addS (addS (addS Zt2 32 madeS) 15 wakes4S) 46 sqS) f a := rfl
attribute [go_sem] Zt3_at
theorem three_spec (hP : PrgOk P) (x y z x' y' z' x2 y2 z2 : ByteArray) (hx : (bl x).length ≤ 140737488355328) (hy : (bl y).length ≤ 140737488355328) (hz : (bl z).length ≤ 140737488355328) (hx' : (bl x').length ≤ 140737488355328) (hy' : (bl y').length ≤ 140737488355328) (hz' : (bl z').length ≤ 140737488355328) (hx2 : (bl x2).length ≤ 140737488355328) (hy2 : (bl y2).length ≤ 140737488355328) (hz2 : (bl z2).length ≤ 140737488355328) :
 CSpec P 16 [.agg [.str x, .str y, .str z], .agg [.str x', .str y', .str z'], .agg [.str x2, .str y2, .str z2]] (.tup [(.agg [.opq (.frac ((ptV x y z).1)), .pad, .pad, .pad, .pad, .opq (.frac ((ptV x y z).2.1)), .pad, .pad, .pad, .pad, .opq (.frac ((ptV x y z).2.2)), .pad, .pad, .pad, .pad]), (.agg [.opq (.frac ((ptV x' y' z').1)), .pad, .pad, .pad, .pad, .opq (.frac ((ptV x' y' z').2.1)), .pad, .pad, .pad, .pad, .opq (.frac ((ptV x' y' z').2.2)), .pad, .pad, .pad, .pad]), (.agg [.opq (.frac ((ptV x2 y2 z2).1)), .pad, .pad, .pad, .pad, .opq (.frac ((ptV x2 y2 z2).2.1)), .pad, .pad, .pad, .pad, .opq (.frac ((ptV x2 y2 z2).2.2)), .pad, .pad, .pad, .pad]), .bool (okM x y z && (okM x' y' z' && okM x2 y2 z2))]) := by
 have HE := Zt3_all hP TF hP.tF
 refine CSpec_go (E := ⟨TF, Zt3⟩) (fn16 hP) HE hP.mix ?_
 cases h1 : okM x y z
 · simp only [go_sem, hx, hy, hz, hx', hy', hz', hx2, hy2, hz2, h1, Bool.false_and]
   exact fin_z
 · cases h2 : okM x' y' z'
   · simp only [go_sem, hx, hy, hz, hx', hy', hz', hx2, hy2, hz2, h1, h2, Bool.false_and, Bool.true_and]
     exact fin_z
   · simp only [go_sem, hx, hy, hz, hx', hy', hz', hx2, hy2, hz2, h1, h2, Bool.true_and]
     exact fin_z
noncomputable def threeS : List AV → Option (Prop × AV)
 | [.agg [.str x, .str y, .str z], .agg [.str x', .str y', .str z'], .agg [.str x2, .str y2, .str z2]] => some (((bl x).length ≤ 140737488355328 ∧ (bl y).length ≤ 140737488355328 ∧ (bl z).length ≤ 140737488355328) ∧ ((bl x').length ≤ 140737488355328 ∧ (bl y').length ≤ 140737488355328 ∧ (bl z').length ≤ 140737488355328) ∧ (bl x2).length ≤ 140737488355328 ∧ (bl y2).length ≤ 140737488355328 ∧ (bl z2).length ≤ 140737488355328, .tup [(.agg [.opq (.frac ((ptV x y z).1)), .pad, .pad, .pad, .pad, .opq (.frac ((ptV x y z).2.1)), .pad, .pad, .pad, .pad, .opq (.frac ((ptV x y z).2.2)), .pad, .pad, .pad, .pad]), (.agg [.opq (.frac ((ptV x' y' z').1)), .pad, .pad, .pad, .pad, .opq (.frac ((ptV x' y' z').2.1)), .pad, .pad, .pad, .pad, .opq (.frac ((ptV x' y' z').2.2)), .pad, .pad, .pad, .pad]), (.agg [.opq (.frac ((ptV x2 y2 z2).1)), .pad, .pad, .pad, .pad, .opq (.frac ((ptV x2 y2 z2).2.1)), .pad, .pad, .pad, .pad, .opq (.frac ((ptV x2 y2 z2).2.2)), .pad, .pad, .pad, .pad]), .bool (okM x y z && (okM x' y' z' && okM x2 y2 z2))])
 | _ => none
theorem threeS_ok (hP : PrgOk P) (args p r) (h : threeS args = some (p, r)) (hp : p) : CSpec P 16 args r := by
 unfold threeS at h
 split at h
 · simp only [Option.some.injEq, Prod.mk.injEq] at h
   obtain ⟨rfl, rfl⟩ := h
   exact three_spec hP _ _ _ _ _ _ _ _ _ hp.1.1 hp.1.2.1 hp.1.2.2 hp.2.1.1 hp.2.1.2.1 hp.2.1.2.2 hp.2.2.1 hp.2.2.2.1 hp.2.2.2.2
 · simp at h
attribute [go_sem] threeS
noncomputable def Zt4 : Nat → List AV → Option (Prop × AV) := addS Zt3 16 threeS
theorem Zt4_all (hP : PrgOk P) (T) (hT : TyOk P T) : EnvOk P ⟨T, Zt4⟩ := ((Zt3_all hP T hT).add (threeS_ok hP))
theorem Zt4_at (f a) : Zt4 f a = (addS Zt3 16 threeS) f a := rfl
attribute [go_sem] Zt4_at
theorem ptV_fl (x y z : ByteArray) : fV (ptV x y z) 1024 := parV_fl _ _ _
end Go.Proofs.YtbfapomdnocbaaaGreatDoor.AM
