/- The abstract machine: an operation that changes no memory yields what pev says (2). -/
import Derived.Test.YtlgimmafejbmgaaAm4
import Derived.Laws.BytesString
namespace Go.Proofs.Ytlgimmafejbmgaa.AM
set_option linter.all false
set_option autoImplicit true
set_option relaxedAutoImplicit true
open Go
section
variable {W : Nat → Prop} {X : Nat → Prop} {φ : Nat → Option (Option Nat)} {s : St} {a : Act} {w : World} {P : Program} {T : Nat → Option TyD}

theorem RelM.alive {m} (R : RelM X φ m w) {r} (h : alive m r) : ∃ b cs c e, φ r = some (some b) ∧ objCells (m r) = some cs ∧ w.heap[b]? = some (.cells c e (0, 0)) ∧ cs.length ≤ c.size ∧ RL (Wr X φ m) φ w (c.toList.take cs.length) cs ∧ cs.all AV.ck = true := by
  have ho := R.obj r
  unfold AM.alive at h
  cases hm : m r <;> rw [hm] at h ho <;> simp [objCells] at h
  all_goals
    obtain ⟨b, hb, c, e, h1, h2, h3, h4⟩ := ho
    exact ⟨b, _, c, e, hb, rfl, h1, h2, h3, h4⟩

theorem alive_of {m : Nat → AObj} {r cs} (h : objCells (m r) = some cs) : AM.alive m r := by simp [AM.alive, h]

theorem indexAddr_sound {m t d u i z} (HT : TyOk P T) (h : TyD.ok P t d u i z) (R : RelM X φ m w) {v x j k p r} (hx : indexAddr T m x d j = some (p, r)) (hp : p) (hv : RL (Wr X φ m) φ w [v] [x]) :
    ∃ y, (Instr.indexAt t v (.int k j)).run P w = .ok y w ∧ RL (Wr X φ m) φ w [y] [r] := by
  unfold indexAddr at hx
  split at hx
  · rename_i rr off n e hk
    simp only [Option.map_eq_some_iff, Prod.mk.injEq] at hx
    obtain ⟨ed, h1, rfl, rfl⟩ := hx
    obtain ⟨u', i', z', h4⟩ := HT _ _ h1
    obtain ⟨b, cs, c, e', hb, _⟩ := R.alive hp.2
    rw [hv.ref_inv hb]
    have hu := h.array hk
    subst hu
    have hs : (sizeOf e).run P w = .ok i'.size w := run_sizeOf' h4.info w
    refine ⟨_, ?_, .ref hb .nil⟩
    simp [Instr.indexAt, asIntOf, run_underlying h.un, Instr.sureAddr, hp.1.1, hp.1.2, hs, h4.size, Addr.add_mid]
  · rename_i cs n e hk
    simp only [Option.map_eq_some_iff, Prod.mk.injEq] at hx
    obtain ⟨ed, h1, rfl, rfl⟩ := hx
    obtain ⟨u', i', z', h4⟩ := HT _ _ h1
    obtain ⟨b, o, us, rfl, h5, h6, h7⟩ := hv.fref_inv
    have hu := h.array hk
    subst hu
    have hs : (sizeOf e).run P w = .ok i'.size w := run_sizeOf' h4.info w
    refine ⟨_, ?_, .fref (b := b) (o := o + j.toNat * ed.sz) (us := us.drop (j.toNat * ed.sz)) (fun hne => h5 (by rintro rfl; simp at hne)) (fun q u hq => ?_) (h7.split _ hp.2.1 hp.2.2).2 .nil⟩
    · simp [Instr.indexAt, asIntOf, run_underlying h.un, Instr.sureAddr, hp.1.1, hp.1.2, hs, h4.size, Addr.add_mid]
    · rw [Nat.add_assoc]; exact h6 _ _ (by simpa using hq)
  · rename_i rr off n sz e hk
    simp only [Option.map_eq_some_iff, Prod.mk.injEq] at hx
    obtain ⟨ed, h1, rfl, rfl⟩ := hx
    obtain ⟨u', i', z', h4⟩ := HT _ _ h1
    obtain ⟨b, cs, c, e', hb, _⟩ := R.alive hp.2.2
    obtain ⟨cap, rfl, _⟩ := hv.sl_inv hb
    have hu := h.slice hk
    subst hu
    have hs : (sizeOf e).run P w = .ok i'.size w := run_sizeOf' h4.info w
    refine ⟨_, ?_, .ref hb .nil⟩
    simp [Instr.indexAt, asIntOf, run_underlying h.un, hp.1.1, hp.1.2, hs, h4.size, hp.2.1, Addr.add_mid]
  · rename_i n cs e hk
    simp only [Option.map_eq_some_iff, Prod.mk.injEq] at hx
    obtain ⟨ed, h1, rfl, rfl⟩ := hx
    obtain ⟨u', i', z', h4⟩ := HT _ _ h1
    have hu := h.slice hk
    subst hu
    have hs : (sizeOf e).run P w = .ok i'.size w := run_sizeOf' h4.info w
    rcases hv.imm_inv with ⟨_, _, rfl, rfl, rfl⟩ | ⟨b, o, cap, us, rfl, hcap, h5, h6, h7⟩
    · exfalso; have := hp.1; omega
    · refine ⟨_, ?_, .fref (b := b) (o := o + j.toNat * ed.sz) (us := us.drop (j.toNat * ed.sz)) (fun hne => h5 (by rintro rfl; simp at hne)) (fun q u hq => ?_) (h7.split _ hp.2.1 hp.2.2).2 .nil⟩
      · simp [Instr.indexAt, asIntOf, run_underlying h.un, hp.1.1, hp.1.2, hs, h4.size, Addr.add_mid]
      · rw [Nat.add_assoc]; exact h6 _ _ (by simpa using hq)
  · simp at hx

theorem bound_sound {d : Int} {x : Option AV} {l : Int} {xv : Option Value} (h : bound d x = some l) (hx : ∀ q, x = some q → ∃ y, xv = some y ∧ RL W φ w [y] [q]) (hn : x = none → xv = none) :
    (xv = none ∧ x = none ∧ l = d) ∨ ∃ k, xv = some (.int k l) := by
  unfold bound at h
  split at h
  · rename_i k i
    obtain ⟨y, hy, hr⟩ := hx _ rfl
    simp at h; subst h
    exact .inr ⟨k, by rw [hy, hr.int_inv]⟩
  · simp at h
    exact .inl ⟨hn rfl, rfl, h.symm⟩
  · simp at h

theorem run_sliceBound {k} {i : Int} (y : Nat) {c} (h : 0 ≤ i ∧ i ≤ (y : Int)) : (Instr.sliceBound (.int k i) y c).run P w = .ok i.toNat w := by
  simp [Instr.sliceBound, asIntOf, h]

theorem run_sliceBounds {b : Bool} {len cap : Nat} {lo hi mx : Option Value} {l h q : Int} (hl : (lo = none ∧ l = 0) ∨ ∃ k, lo = some (.int k l)) (hh : (hi = none ∧ h = len) ∨ ∃ k, hi = some (.int k h))
    (hm : (mx = none ∧ q = cap) ∨ (∃ k, mx = some (.int k q)) ∧ hi ≠ none) (h0 : 0 ≤ l) (h1 : l ≤ h) (h2 : h ≤ q) (h3 : q ≤ cap) :
    (Instr.sliceBounds b len cap lo hi mx).run P w = .ok (l.toNat, h.toNat, q.toNat) w := by
  have e1 : ∀ {k c}, (Instr.sliceBound (.int k h) cap c).run P w = .ok h.toNat w := run_sliceBound cap (by omega)
  have e2 : ∀ {k c}, (Instr.sliceBound (.int k l) h.toNat c).run P w = .ok l.toNat w := run_sliceBound h.toNat (by omega)
  have e3 : ∀ {k c}, (Instr.sliceBound (.int k q) cap c).run P w = .ok q.toNat w := run_sliceBound cap (by omega)
  have e4 : ∀ {k c}, (Instr.sliceBound (.int k h) q.toNat c).run P w = .ok h.toNat w := run_sliceBound q.toNat (by omega)
  unfold Instr.sliceBounds
  rcases hm with ⟨rfl, rfl⟩ | ⟨⟨k, rfl⟩, hne⟩
  · rcases hh with ⟨rfl, rfl⟩ | ⟨k', rfl⟩ <;> rcases hl with ⟨rfl, rfl⟩ | ⟨k'', rfl⟩ <;> simp [e1]
    · have := @e2 k'' (if false = true then BoundsCode.slice3C else BoundsCode.sliceB)
      simp at this
      simp [this]
    · have := @e2 k'' (if false = true then BoundsCode.slice3C else BoundsCode.sliceB)
      simp at this
      simp [this]
  · rcases hh with ⟨rfl, rfl⟩ | ⟨k', rfl⟩
    · exact absurd rfl hne
    · rcases hl with ⟨rfl, rfl⟩ | ⟨k'', rfl⟩ <;> simp [e3, e4]
      simp [e2]

theorem slice_sound {m t d u i z} (HT : TyOk P T) (h : TyD.ok P t d u i z) (R : RelM X φ m w) {v x p r} {lo hi mx : Option AV} {lov hiv mxv : Option Value} (hx : sliceOp T m x d lo hi mx = some (p, r)) (hp : p) (hv : RL (Wr X φ m) φ w [v] [x])
    (hlo : ∀ q, lo = some q → ∃ y, lov = some y ∧ RL (Wr X φ m) φ w [y] [q]) (hlo' : lo = none → lov = none) (hhi : ∀ q, hi = some q → ∃ y, hiv = some y ∧ RL (Wr X φ m) φ w [y] [q]) (hhi' : hi = none → hiv = none)
    (hmx : ∀ q, mx = some q → ∃ y, mxv = some y ∧ RL (Wr X φ m) φ w [y] [q]) (hmx' : mx = none → mxv = none) (hmh : hiv = none → mxv = none) :
    ∃ y, (Instr.sliceAt t v lov hiv mxv).run P w = .ok y w ∧ RL (Wr X φ m) φ w [y] [r] := by
  unfold sliceOp at hx
  split at hx
  · rename_i s hk
    simp only [Option.bind_eq_some_iff, Option.map_eq_some_iff, Prod.mk.injEq] at hx
    obtain ⟨l, h1, h', h2, rfl, rfl⟩ := hx
    obtain ⟨h3, h4, h5, h6⟩ := hp
    have hm : mx = none := by simpa using h3
    have hu := h.string hk
    subst hu
    rw [hv.str_inv, hmx' hm]
    have b := run_sliceBounds (P := P) (w := w) (b := false) (len := s.size) (cap := s.size) (mx := none) (q := s.size) (by rcases bound_sound h1 hlo hlo' with ⟨a, _, b⟩ | h; exact .inl ⟨a, b⟩; exact .inr h) (by rcases bound_sound h2 hhi hhi' with ⟨a, _, b⟩ | h; exact .inl ⟨a, b⟩; exact .inr h) (.inl ⟨rfl, rfl⟩) h4 h5 h6 (Int.le_refl _)
    refine ⟨_, ?_, .str _ .nil⟩
    simp [Instr.sliceAt, Instr.slice, run_underlying h.un, b]
  · rename_i rr off n sz e hk
    simp only [Option.bind_eq_some_iff, Option.map_eq_some_iff, Prod.mk.injEq] at hx
    obtain ⟨d', h0, l, h1, h', h2, q, h3, rfl, rfl⟩ := hx
    obtain ⟨⟨k1, k2, k3, k4, k5⟩, k6, k7⟩ := hp
    obtain ⟨u', i', z', h4⟩ := HT _ _ h0
    obtain ⟨b, cs, c, e', hb, _⟩ := R.alive k6
    obtain ⟨cap, rfl, hcap, c', e'', fr, hh, hsz⟩ := hv.sl_inv hb
    have hu := h.slice hk
    subst hu
    subst k5
    have hs : (sizeOf e).run P w = .ok i'.size w := run_sizeOf' h4.info w
    have hlov := bound_sound h1 hlo hlo'
    have hhiv := bound_sound h2 hhi hhi'
    rcases bound_sound h3 hmx hmx' with ⟨m1, m2, m3⟩ | ⟨k, hk'⟩
    · have b1 := run_sliceBounds (P := P) (w := w) (b := true) (len := n) (cap := cap) (lo := lov) (hi := hiv) (mx := mxv) (l := l) (h := q) (q := cap) (by rcases hlov with ⟨a, _, b⟩ | h; exact .inl ⟨a, b⟩; exact .inr h) (by rcases hhiv with ⟨a, _, b⟩ | h; exact .inl ⟨a, b⟩; exact .inr h) (.inl ⟨m1, rfl⟩) k1 k3 (by omega) (Int.le_refl _)
      refine ⟨.slice (some ⟨b, off + l.toNat * sz, none⟩) (q.toNat - l.toNat) (cap - l.toNat), ?_, ?_⟩
      · simp only [Instr.sliceAt, Instr.slice, Sem.run_bind, run_underlying h.un, Result.andThen_ok, b1, hs, Sem.run_pure, Int.toNat_natCast, h4.size, k7, Option.map_some, Addr.add_mid]
        congr 2
        split
        · have : l = 0 := by omega
          simp [this]
        · rfl
      · rw [show (q - l).toNat = q.toNat - l.toNat by omega]
        refine .sl hb (by omega) ⟨c', e'', fr, hh, ?_⟩ .nil
        have : (l.toNat + (cap - l.toNat)) * sz = cap * sz := by congr 1; omega
        rw [Nat.add_mul] at this
        omega
    · have b1 := run_sliceBounds (P := P) (w := w) (b := true) (len := n) (cap := cap) (lo := lov) (hi := hiv) (mx := mxv) (l := l) (h := q) (q := q) (by rcases hlov with ⟨a, _, b⟩ | h; exact .inl ⟨a, b⟩; exact .inr h) (by rcases hhiv with ⟨a, _, b⟩ | h; exact .inl ⟨a, b⟩; exact .inr h) (.inr ⟨⟨k, hk'⟩, fun hn => by rw [hmh hn] at hk'; simp at hk'⟩) k1 k3 (Int.le_refl _) (by omega)
      refine ⟨.slice (some ⟨b, off + l.toNat * sz, none⟩) (q.toNat - l.toNat) (q.toNat - l.toNat), ?_, ?_⟩
      · simp only [Instr.sliceAt, Instr.slice, Sem.run_bind, run_underlying h.un, Result.andThen_ok, b1, hs, Sem.run_pure, h4.size, k7, Option.map_some, Addr.add_mid]
        congr 2
        split
        · have : l = 0 := by omega
          simp [this]
        · rfl
      · rw [show (q - l).toNat = q.toNat - l.toNat by omega]
        refine .sl hb (by omega) ⟨c', e'', fr, hh, ?_⟩ .nil
        have : (l.toNat + (q.toNat - l.toNat)) * sz ≤ cap * sz := Nat.mul_le_mul_right _ (by omega)
        rw [Nat.add_mul] at this
        omega
  · rename_i n cs e hk
    simp only [Option.bind_eq_some_iff, Option.map_eq_some_iff, Prod.mk.injEq] at hx
    obtain ⟨d', h0, l, h1, h', h2, q, h3, rfl, rfl⟩ := hx
    obtain ⟨⟨k1, k3, k4, k5, k6⟩, k7⟩ := hp
    obtain ⟨u', i', z', h4⟩ := HT _ _ h0
    have hu := h.slice hk
    subst hu
    subst k5
    have hs : (sizeOf e).run P w = .ok i'.size w := run_sizeOf' h4.info w
    have hlov := bound_sound h1 hlo hlo'
    have hhiv := bound_sound h2 hhi hhi'
    have fin : ∀ (cap : Nat) (ad : Option Addr) (Q : Int), n ≤ cap → q ≤ Q → Q ≤ cap → ((mxv = none ∧ Q = cap) ∨ (∃ k, mxv = some (.int k Q)) ∧ hiv ≠ none) →
        (Instr.sliceAt t (.slice ad n cap) lov hiv mxv).run P w = .ok (.slice (if Q.toNat = l.toNat then ad else ad.map (·.add (l.toNat * d'.sz))) (q.toNat - l.toNat) (Q.toNat - l.toNat)) w := by
      intro cap ad Q hcap hQ1 hQ2 hQ3
      have b1 := run_sliceBounds (P := P) (w := w) (b := true) (len := n) (cap := cap) (lo := lov) (hi := hiv) (mx := mxv) (l := l) (h := q) (q := Q) (by rcases hlov with ⟨a, _, b⟩ | h; exact .inl ⟨a, b⟩; exact .inr h) (by rcases hhiv with ⟨a, _, b⟩ | h; exact .inl ⟨a, b⟩; exact .inr h) hQ3 k1 k3 hQ1 hQ2
      simp only [Instr.sliceAt, Instr.slice, Sem.run_bind, run_underlying h.un, Result.andThen_ok, b1, hs, Sem.run_pure, h4.size]
    have fin' : ∀ (cap : Nat) (ad : Option Addr), n ≤ cap → ∃ Q : Int, q ≤ Q ∧ Q ≤ cap ∧ ((mxv = none ∧ Q = cap) ∨ (∃ k, mxv = some (.int k Q)) ∧ hiv ≠ none) := by
      intro cap ad hcap
      rcases bound_sound h3 hmx hmx' with ⟨m1, m2, m3⟩ | ⟨k, hk'⟩
      · exact ⟨cap, by omega, by omega, .inl ⟨m1, rfl⟩⟩
      · exact ⟨q, by omega, by omega, .inr ⟨⟨k, hk'⟩, fun hn => by rw [hmh hn] at hk'; simp at hk'⟩⟩
    rw [show (q - l).toNat = q.toNat - l.toNat by omega] at k7 ⊢
    rcases hv.imm_inv with ⟨ad, cap, rfl, rfl, rfl⟩ | ⟨b, o, cap, us, rfl, hcap, h5, h6, h7⟩
    · obtain ⟨Q, q1, q2, q3⟩ := fin' cap ad (by omega)
      refine ⟨_, fin cap ad Q (by omega) q1 q2 q3, ?_⟩
      rw [show q.toNat - l.toNat = 0 by omega]
      simp
      exact .imm0 _ _ .nil
    · obtain ⟨Q, q1, q2, q3⟩ := fin' cap (some ⟨b, o, none⟩) (by omega)
      refine ⟨_, fin cap _ Q (by omega) q1 q2 q3, ?_⟩
      by_cases hz : q.toNat - l.toNat = 0
      · rw [hz]; simp; exact .imm0 _ _ .nil
      · rw [if_neg (by omega)]
        simp only [Option.map_some, Addr.add_mid]
        refine .imm (us := (us.drop (l.toNat * d'.sz)).take ((q.toNat - l.toNat) * d'.sz)) (by omega) (fun hne => h5 (by rintro rfl; simp at hne)) (fun j u hj => ?_) (h7.cut k7) .nil
        rw [List.getElem?_take] at hj
        split at hj
        · rw [Nat.add_assoc]; exact h6 _ _ (by simpa using hj)
        · simp at hj
  · simp at hx

theorem len_sound {m t d u i z e ty} (h : TyD.ok P t d u i z) (R : RelM X φ m w) {v x p n} (hk : d.k = .slice e) (hx : lenOp m x = some (p, n)) (hp : p) (hv : RL (Wr X φ m) φ w [v] [x]) :
    (Builtin.len_ #[t] ty #[v]).run P w = .ok (.int .i64 n) w := by
  have hu := h.slice hk
  subst hu
  have key : ∀ ad c, v = .slice ad n c → (Builtin.len_ #[t] ty #[v]).run P w = .ok (.int .i64 n) w := by
    rintro ad c rfl
    simp [Builtin.len_, run_underlying h.un, goInt]
  cases x <;> simp only [lenOp, Option.some.injEq, Prod.mk.injEq, reduceCtorEq] at hx
  · obtain ⟨rfl, rfl⟩ := hx; exact key _ _ hv.nils_inv
  · obtain ⟨rfl, rfl⟩ := hx
    obtain ⟨b, _, _, _, hb, _⟩ := R.alive hp
    obtain ⟨cap, rfl, _⟩ := hv.sl_inv hb
    exact key _ _ rfl
  · obtain ⟨rfl, rfl⟩ := hx
    rcases hv.imm_inv with ⟨_, _, rfl, rfl, _⟩ | ⟨_, _, _, _, rfl, _⟩
    · exact key _ _ rfl
    · exact key _ _ rfl
  · rename_i x
    cases x <;> simp only [lenP, Option.map_none, Option.map_some, Option.some.injEq, Prod.mk.injEq, reduceCtorEq] at hx
    obtain ⟨rfl, rfl⟩ := hx
    cases hv with
    | opq h1 h2 h3 e1 e2 =>
      rename_i us vs _
      have hus : us = [v] := by
        obtain ⟨y, rfl⟩ := List.length_eq_one_iff.1 h1
        simp at e1; rw [e1.1]
      subst hus
      rcases RL.imm_inv h2 with ⟨_, _, rfl, h4, _⟩ | ⟨_, _, _, _, rfl, _⟩
      · rw [h4] at key ⊢; exact key _ _ rfl
      · exact key _ _ rfl

theorem RL.bytes : ∀ (cs : List AV) (us : List Value), RL W φ w us cs → cs.all isB = true → ∃ ns : List Int, us = ns.map (Value.int .u8) ∧ cs = ns.map (AV.int .u8)
  | [], us, h, _ => ⟨[], by have := h.length; simp at this; exact this, rfl⟩
  | c :: cs, us, h, hb => by
    simp only [List.all_cons, Bool.and_eq_true] at hb
    obtain ⟨hb1, hb2⟩ := hb
    cases c <;> try (simp [isB] at hb1)
    rename_i k n
    cases k <;> simp [isB] at hb1
    obtain ⟨v, vs, rfl, h1, h2⟩ := h.uncons rfl
    obtain ⟨ns, rfl, e2⟩ := RL.bytes cs vs h2 hb2
    rw [h1.int_inv]
    exact ⟨n :: ns, rfl, by rw [e2]; rfl⟩
theorem push_all : ∀ (ns : List Int) (r : ByteArray), ns.foldl (fun r n => r.push (UInt8.ofNat n.toNat)) r = ⟨r.data ++ (ns.map fun n => UInt8.ofNat n.toNat).toArray⟩
  | [], r => by simp
  | n :: ns, r => by
    rw [List.foldl_cons, push_all ns]
    simp [ByteArray.push]
theorem bytesS_push (ns : List Int) : ns.foldl (fun r n => r.push (UInt8.ofNat n.toNat)) ByteArray.empty = bytesS (ns.map (AV.int .u8)) := by
  rw [push_all]; unfold bytesS
  congr 1
  rw [List.map_map]
  simp [ByteArray.empty, ByteArray.emptyWithCapacity]
  rfl
theorem strM_sound {m t t' d d' u i z u' i' z'} (HT : TyOk P T) (h1 : TyD.ok P t d u i z) (h2 : TyD.ok P t' d' u' i' z') (R : RelM X φ m w) {v x p r} (h : strM T m d d' x = some (p, r)) (hp : p) (hv : RL (Wr X φ m) φ w [v] [x]) :
    ∃ y, (Go.convert t t' v).run P w = .ok y w ∧ RL (Wr X φ m) φ w [y] [r] := by
  cases x <;> try exact convert_sound h1 h2 h hp hv
  rename_i o off n k
  simp only [strM] at h
  split at h
  · rename_i e hk hk'
    split at h
    · rename_i hu
      simp only [Option.map_eq_some_iff, Prod.mk.injEq] at h
      obtain ⟨cs, hc, rfl, rfl⟩ := h
      obtain ⟨hcut, rfl, hb⟩ := hp
      have e1 := h1.slice hk
      have e2 := h2.string hk'
      subst e1; subst e2
      obtain ⟨ed, hT, hed⟩ : ∃ ed, T e = some ed ∧ ed.k = .int .u8 := by
        unfold isU8 at hu
        split at hu
        · rename_i d hd
          split at hu
          · rename_i hk; exact ⟨d, hd, hk⟩
          · simp at hu
        · simp at hu
      obtain ⟨ue, ie, ze, hte⟩ := HT _ _ hT
      have e3 := hte.int hed
      subst e3
      have ho := R.obj o
      have hread : ∃ b us, φ o = some (some b) ∧ Reads w b 0 us ∧ RL (Wr X φ m) φ w us cs := by
        cases hm : m o <;> rw [hm] at hc ho <;> simp [objCells] at hc
        all_goals
          subst hc
          obtain ⟨b, hb, c, e, hh, hl, hr, _⟩ := ho
          refine ⟨b, _, hb, ?_, hr⟩
          intro j u hj
          rw [List.getElem?_take] at hj
          split at hj
          · rw [cell_of_row w b _ c e _ hh]; simpa using hj
          · simp at hj
      obtain ⟨b, us, hb', hre, hrl⟩ := hread
      obtain ⟨cap, rfl, _⟩ := hv.sl_inv hb'
      have hcl := hrl.cut hcut
      obtain ⟨ns, hns, hcs⟩ := RL.bytes _ _ hcl hb
      have hll : ((us.drop off).take n).length = n := by
        have := hrl.length
        have h3 := hcut.1
        rw [List.length_take, List.length_drop]; omega
      have hrun : (loadCells ⟨b, off, none⟩ n).run P w = .ok (ns.map (Value.int .u8)).toArray w := by
        have := run_loadCells_list (P := P) w ⟨b, off, none⟩ ((us.drop off).take n) (fun j v hj => by
          rw [Addr.add_mid]
          rw [List.getElem?_take] at hj
          split at hj
          · rw [List.getElem?_drop] at hj
            have := hre _ _ hj
            simpa using this
          · simp at hj)
        rw [hll, hns] at this; exact this
      refine ⟨_, ?_, .str _ .nil⟩
      rw [run_convert_bytes_string w t t' e _ _ _ h1.un hte.un h2.un, run_bytesToString w _ _ _ _ hrun, bytesS_push, hcs]
    · simp at h
  · simp at h

theorem pev_sound (HT : TyOk P T) {o : Oper} (R : Rel X φ s a w) {p v} (h : pev T s o = some (p, v)) (hp : p) :
    ∃ u, (execOp a.eval o).run P w = .ok (.value u) w ∧ RL (Wr X φ s.m) φ w [u] [v] := by
  unfold pev at h
  unfold execOp
  split at h
  · rename_i x ho
    simp only [Option.some.injEq, Prod.mk.injEq] at h
    obtain ⟨rfl, rfl⟩ := h
    rw [ho]
    exact ⟨_, rfl, R.ev x⟩
  · rename_i x ho
    simp only [Option.some.injEq, Prod.mk.injEq] at h
    obtain ⟨rfl, rfl⟩ := h
    rw [ho]
    exact ⟨_, rfl, R.ev x⟩
  · rename_i c x y ho
    split at h
    · rename_i b hb
      simp only [Option.some.injEq, Prod.mk.injEq] at h
      obtain ⟨rfl, rfl⟩ := h
      have := R.ev c
      rw [hb] at this
      simp only [ho, this.bool_inv, asBool, Sem.run_bind, Sem.run_pure, Result.andThen_ok]
      cases b
      · exact ⟨_, rfl, R.ev y⟩
      · exact ⟨_, rfl, R.ev x⟩
    · simp at h
  · rename_i t ps ho
    simp only [Option.bind_eq_some_iff, Option.map_eq_some_iff, Prod.exists, Prod.mk.injEq] at h
    obtain ⟨d, hT, q, cs, hf, rfl, rfl⟩ := h
    obtain ⟨u, i, z, ht⟩ := HT _ _ hT
    obtain ⟨y, h1, h2⟩ := build_sound HT R ht ps.toList hf hp.1 hp.2.1 hp.2.2
    refine ⟨y, ?_, h2⟩
    have e : (ps.map fun (i, x) => (i, a.eval x)) = (ps.toList.map fun x => (x.1, a.eval x.2)).toArray := by
      apply Array.ext'; simp
    simp only [ho, Sem.run_bind, e, h1, Result.andThen_ok]
    rfl
  · rename_i t x ho
    simp only [Option.bind_eq_some_iff, Option.map_eq_some_iff, Prod.exists] at h
    obtain ⟨d, hT, cs, off, hq, h⟩ := h
    obtain ⟨u, i, z, ht⟩ := HT _ _ hT
    obtain ⟨b, o', us, hv, h1, h2⟩ := R.mem.peek hq (R.ev x)
    have hr : (rd d cs off).1 := by rw [h]; exact hp
    obtain ⟨y, h3, h4⟩ := run_loadVar' off ht h1 h2 hr
    refine ⟨y, ?_, by rw [h] at h4; exact h4⟩
    simp only [ho, hv, Instr.loadAt, Instr.sureAddr, Sem.run_bind, Sem.run_pure, Result.andThen_ok, h3]
  · rename_i x ho
    have hx := R.ev x
    split at h
    · rename_i f gs ds he
      simp only [Option.some.injEq, Prod.mk.injEq] at h
      obtain ⟨rfl, rfl⟩ := h
      rw [he] at hx
      obtain ⟨fs, cs, hv, _⟩ := hx.fn_inv
      refine ⟨_, ?_, hx⟩
      simp only [ho, hv]; rfl
    · rename_i r off he
      simp only [Option.some.injEq, Prod.mk.injEq] at h
      obtain ⟨rfl, rfl⟩ := h
      obtain ⟨b, _, _, _, hb, _⟩ := R.mem.alive hp
      rw [he] at hx
      refine ⟨_, ?_, hx⟩
      simp only [ho, hx.ref_inv hb]; rfl
    · rename_i cs he
      simp only [Option.some.injEq, Prod.mk.injEq] at h
      obtain ⟨rfl, rfl⟩ := h
      rw [he] at hx
      obtain ⟨b, o', us, hv, _⟩ := hx.fref_inv
      refine ⟨_, ?_, hx⟩
      simp only [ho, hv]; rfl
    · simp at h
  · rename_i op t x y t' ho
    obtain ⟨r, h1, h2⟩ := binOp_sound HT h hp (R.ev x) (R.ev y) x y
    refine ⟨r, ?_, h2⟩
    simp only [ho]
    rw [Sem.run_bind, h1]; rfl
  · rename_i op t x ho
    obtain ⟨r, h1, h2⟩ := unOp_sound (P := P) h (R.ev x)
    refine ⟨r, ?_, h2⟩
    simp only [ho, Sem.run_bind, h1]; rfl
  · rename_i t t' x ho
    simp only [Option.bind_eq_some_iff] at h
    obtain ⟨d, hT, d', hT', h⟩ := h
    obtain ⟨u, i, z, ht⟩ := HT _ _ hT
    obtain ⟨u', i', z', ht'⟩ := HT _ _ hT'
    obtain ⟨r, h1, h2⟩ := strM_sound HT ht ht' R.mem h hp (R.ev x)
    refine ⟨r, ?_, h2⟩
    simp only [ho, Sem.run_bind, h1]; rfl
  · rename_i f fs cs ho
    simp only [Option.some.injEq, Prod.mk.injEq] at h
    obtain ⟨rfl, rfl⟩ := h
    refine ⟨.func (.func f) (fs.map a.eval) (cs.map a.eval), ?_, ?_⟩
    · simp only [ho, Instr.makeFunc]; rfl
    · have e : ∀ l : Array Operand, l.map a.eval = (l.toList.map a.eval).toArray := fun l => by apply Array.ext'; simp
      rw [e fs, e cs]
      exact .fn (R.evL _) (R.evL _) .nil
  · rename_i t x lo hi mx ho
    have k : ∀ l : Option Operand, (∀ q, l.map (aev s) = some q → ∃ y, l.map a.eval = some y ∧ RL (Wr X φ s.m) φ w [y] [q]) ∧ (l.map (aev s) = none → l.map a.eval = none) := by
      intro l
      cases l with
      | none => simp
      | some l => simp; exact R.ev l
    split at h
    · simp at h
    · rename_i hh
      simp only [Option.bind_eq_some_iff] at h
      obtain ⟨d, hT, h⟩ := h
      obtain ⟨u, i, z, ht⟩ := HT _ _ hT
      obtain ⟨y, h1, h2⟩ := slice_sound HT ht R.mem h hp (R.ev x) (k lo).1 (k lo).2 (k hi).1 (k hi).2 (k mx).1 (k mx).2 (fun hn => by cases hi <;> cases mx <;> simp_all)
      refine ⟨y, ?_, h2⟩
      simp only [ho, Sem.run_bind, h1]; rfl
  · rename_i t x f ho
    simp only [Option.bind_eq_some_iff, Prod.exists] at h
    obtain ⟨off, d', hf, h⟩ := h
    have hT : ∃ d, T t = some d := by
      unfold fieldOf at hf
      cases hT : T t with
      | none => simp [hT] at hf
      | some d => exact ⟨d, rfl⟩
    obtain ⟨d, hT⟩ := hT
    obtain ⟨u, i, z, ht⟩ := HT _ _ hT
    have hx := R.ev x
    split at h
    · rename_i r o' he
      simp only [Option.some.injEq, Prod.mk.injEq] at h
      obtain ⟨rfl, rfl⟩ := h
      obtain ⟨b, _, _, _, hb, _⟩ := R.mem.alive hp
      rw [he] at hx
      refine ⟨_, ?_, .ref hb .nil⟩
      simp only [ho, hx.ref_inv hb, Sem.run_bind, run_fieldAt HT hT ht hf b o']; rfl
    · rename_i cs he
      simp only [Option.some.injEq, Prod.mk.injEq] at h
      obtain ⟨rfl, rfl⟩ := h
      rw [he] at hx
      obtain ⟨b, o', us, hv, h1, h2, h3⟩ := hx.fref_inv
      refine ⟨_, ?_, .fref (b := b) (o := o' + off) (us := us.drop off) (fun hne => h1 (by rintro rfl; simp at hne)) (fun j u hj => ?_) (h3.split _ hp.1 hp.2).2 .nil⟩
      · simp only [ho, hv, Sem.run_bind, run_fieldAt HT hT ht hf b o']; rfl
      · rw [Nat.add_assoc]; exact h2 _ _ (by simpa using hj)
    · simp at h
  · rename_i t x f ho
    simp only [Option.bind_eq_some_iff, Prod.exists] at h
    obtain ⟨off, d', hf, h⟩ := h
    have hT : ∃ d, T t = some d := by
      unfold fieldOf at hf
      cases hT : T t with
      | none => simp [hT] at hf
      | some d => exact ⟨d, rfl⟩
    obtain ⟨d, hT⟩ := hT
    obtain ⟨u, i, z, ht⟩ := HT _ _ hT
    have hx := R.ev x
    split at h
    · rename_i cs he
      simp only [Option.some.injEq] at h
      rw [he] at hx
      obtain ⟨us, hv, hr⟩ := hx.agg_inv
      obtain ⟨y, h1, h2⟩ := run_field HT hT ht hf hr (by rw [h]; exact hp)
      refine ⟨y, ?_, by rw [h] at h2; exact h2⟩
      simp at h1
      simp only [ho, hv, Sem.run_bind, h1]; rfl
    · simp at h
  · rename_i t x ix ho
    simp only [Option.bind_eq_some_iff] at h
    obtain ⟨d, hT, h⟩ := h
    obtain ⟨u, i, z, ht⟩ := HT _ _ hT
    split at h
    · rename_i k j he
      have hi := R.ev ix
      rw [he] at hi
      obtain ⟨y, h1, h2⟩ := indexAddr_sound (k := k) HT ht R.mem h hp (R.ev x)
      refine ⟨y, ?_, h2⟩
      simp only [ho, hi.int_inv, Sem.run_bind, h1]; rfl
    · simp at h
  · rename_i t x ix ho
    simp only [Option.bind_eq_some_iff] at h
    obtain ⟨d, hT, h⟩ := h
    obtain ⟨u, i, z, ht⟩ := HT _ _ hT
    split at h
    · rename_i k j he
      have hi := R.ev ix
      rw [he] at hi
      obtain ⟨y, h1, h2⟩ := index_sound (k := k) HT ht h hp (R.ev x)
      refine ⟨y, ?_, h2⟩
      simp only [ho, hi.int_inv, Sem.run_bind, h1]; rfl
    · simp at h
  · rename_i x i ho
    split at h
    · rename_i vs he
      simp only [Option.map_eq_some_iff, Prod.mk.injEq] at h
      obtain ⟨v', h1, rfl, rfl⟩ := h
      have hx := R.ev x
      rw [he] at hx
      obtain ⟨us, hv, hr⟩ := hx.tup_inv
      obtain ⟨y, h2, h3⟩ := hr.at h1 hp
      refine ⟨y, ?_, h3⟩
      have h2' : us[i]? = some y := by simpa using h2
      simp only [ho, hv, Sem.run_bind, Instr.extract, h2', Sem.run_pure]; rfl
    · simp at h
  · rename_i c ho
    split at h
    · rename_i x hc hx
      split at h
      · rename_i t hts
        simp only [Option.bind_eq_some_iff] at h
        obtain ⟨d, hT, h⟩ := h
        obtain ⟨u, i, z, ht⟩ := HT _ _ hT
        have ha : c.args = #[x] := by apply Array.ext'; simpa using hx
        have hat : c.argTypes = #[t] := by apply Array.ext'; simpa using hts
        have key : ∀ y, (Builtin.len_ #[t] o.type #[a.eval x]).run P w = .ok y w → ((do let d ← resolve a.eval c o.type; invoke d.target d.args : Sem Next)).run P w = .ok (.value y) w := by
          intro y hy
          simp [resolve, hc, ha, hat, invoke, builtin, hy]
        split at h
        · rename_i hk
          split at h
          · rename_i sx he
            simp only [Option.some.injEq, Prod.mk.injEq] at h
            obtain ⟨rfl, rfl⟩ := h
            have hv := R.ev x
            rw [he] at hv
            refine ⟨.int .i64 sx.size, ?_, .int _ _ .nil⟩
            simp only [ho]
            refine key _ ?_
            have hu := ht.string hk
            subst hu
            rw [hv.str_inv]
            simp [Builtin.len_, run_underlying ht.un, goInt]
          · simp at h
        · rename_i e hk
          simp only [Option.map_eq_some_iff, Prod.exists, Prod.mk.injEq] at h
          obtain ⟨q, n, h1, rfl, rfl⟩ := h
          refine ⟨.int .i64 n, ?_, .int _ _ .nil⟩
          simp only [ho]
          exact key _ (len_sound ht R.mem hk h1 hp (R.ev x))
        · simp at h
      · simp at h
    · simp at h
  · simp at h
end
end Go.Proofs.Ytlgimmafejbmgaa.AM
