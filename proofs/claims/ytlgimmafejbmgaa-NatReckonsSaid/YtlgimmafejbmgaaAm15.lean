/- The abstract machine: equations for working it out. -/
import Derived.Test.YtlgimmafejbmgaaAm14
namespace Go.Proofs.Ytlgimmafejbmgaa.AM
set_option linter.all false
set_option autoImplicit true
set_option relaxedAutoImplicit true
open Go
section
variable {N : Nat} {E : Env} {nx : Nat} {s : St} {dst : Option Tmp} {ty : TypeId} {pos : String} {af : Array Edge} {g : Option (Nat × Bool)} {tr : TriT} {ic : ICallT} {Q : Exit → Nat → St → Prop} {K : Nat → St → Prop} {draw : Bool} {ops : Array Oper} {os : List Oper} {o : Oper}

theorem x_move (x) : aStep E nx s ⟨dst, .move x, ty, pos, af, g⟩ = some (True, s.put dst (aev s x)) := rfl
theorem x_assign (x) : aStep E nx s ⟨dst, .assign x, ty, pos, af, g⟩ = some (True, s.put dst (aev s x)) := rfl
theorem x_binOp (op t x y t') : aStep E nx s ⟨dst, .binOp op t x y t', ty, pos, af, g⟩ = (binOp (E.T t) op (aev s x) (aev s y)).map fun z => (z.1, s.put dst z.2) := rfl
theorem x_unOp (op t x) : aStep E nx s ⟨dst, .unOp op t x, ty, pos, af, g⟩ = (unOp op (aev s x)).map fun z => (z.1, s.put dst z.2) := rfl

def pickV : AV → AV → AV → Option AV
  | .bool c, x, y => some (if c then x else y)
  | _, _, _ => none
theorem x_pick (c x y) : aStep E nx s ⟨dst, .pick c x y, ty, pos, af, g⟩ = (pickV (aev s c) (aev s x) (aev s y)).map fun v => (True, s.put dst v) := by
  simp only [aStep, kind, pev]
  cases aev s c <;> rfl
theorem x_build (t ps) : aStep E nx s ⟨dst, .build t ps, ty, pos, af, g⟩ = (E.T t).bind fun d => (fill (place E.T d) (True, d.zero) (ps.toList.map fun x => (x.1, aev s x.2))).map fun z => (z.1 ∧ d.row = true ∧ elemOk E.T d = true, s.put dst (.agg z.2)) := by
  simp only [aStep, kind, pev, Option.map_bind]
  congr 1; funext d; simp only [Function.comp, Option.map_map]; rfl
theorem x_load (t x) : aStep E nx s ⟨dst, .load t x, ty, pos, af, g⟩ = (E.T t).bind fun d => (peek s.m (aev s x)).map fun z => ((rd d z.1 z.2).1, s.put dst (rd d z.1 z.2).2) := by
  simp only [aStep, kind, pev, Option.map_bind]
  congr 1; funext d; simp only [Function.comp, Option.map_map]; rfl
theorem x_extract (x i) : aStep E nx s ⟨dst, .extract x i, ty, pos, af, g⟩ = (match aev s x with | .tup vs => (vs[i]?).map fun v => (v.plain = true, v) | _ => none : Option (Prop × AV)).map fun z => (z.1, s.put dst z.2) := rfl
theorem x_fieldAddr (t x f) : aStep E nx s ⟨dst, .fieldAddr t x f, ty, pos, af, g⟩ = (fieldOf E.T t f).bind fun y => (match aev s x with
    | .ref r o => some (alive s.m r, .ref r (o + y.1))
    | .fref cs => some (y.1 ≤ cs.length ∧ AV.head (cs.drop y.1) = true, .fref (cs.drop y.1))
    | _ => none : Option (Prop × AV)).map fun z => (z.1, s.put dst z.2) := by
  simp only [aStep, kind, pev, Option.map_bind]; rfl
theorem x_field (t x f) : aStep E nx s ⟨dst, .field t x f, ty, pos, af, g⟩ = (fieldOf E.T t f).bind fun y => (match aev s x with
    | .agg cs => some (rd y.2 cs y.1)
    | _ => none : Option (Prop × AV)).map fun z => (z.1, s.put dst z.2) := by
  simp only [aStep, kind, pev, Option.map_bind]; rfl
def asI : AV → Option Int
  | .int _ i => some i
  | _ => none
theorem x_indexAddr (t x i) : aStep E nx s ⟨dst, .indexAddr t x i, ty, pos, af, g⟩ = (E.T t).bind fun d => (asI (aev s i)).bind fun j => (indexAddr E.T s.m (aev s x) d j).map fun z => (z.1, s.put dst z.2) := by
  simp only [aStep, kind, pev, Option.map_bind]
  congr 1; funext d; simp only [Function.comp]
  cases aev s i <;> rfl
theorem x_index (t x i) : aStep E nx s ⟨dst, .index t x i, ty, pos, af, g⟩ = (E.T t).bind fun d => (asI (aev s i)).bind fun j => (index E.T (aev s x) d j).map fun z => (z.1, s.put dst z.2) := by
  simp only [aStep, kind, pev, Option.map_bind]
  congr 1; funext d; simp only [Function.comp]
  cases aev s i <;> rfl
theorem x_nilCheck (x) : aStep E nx s ⟨dst, .nilCheck x, ty, pos, af, g⟩ = (match aev s x with | .fn f a b => some (True, .fn f a b) | .ref r o => some (alive s.m r, .ref r o) | .fref cs => some (True, .fref cs) | _ => none : Option (Prop × AV)).map fun z => (z.1, s.put dst z.2) := rfl
theorem x_convert (t t' x) : aStep E nx s ⟨dst, .convert t t' x, ty, pos, af, g⟩ = (E.T t).bind fun d => (E.T t').bind fun d' => (strM E.T s.m d d' (aev s x)).map fun z => (z.1, s.put dst z.2) := by
  simp only [aStep, kind, pev, Option.map_bind]
  congr 1; funext d; simp only [Function.comp, Option.map_bind]; rfl
theorem x_makeFunc (f fs cs) : aStep E nx s ⟨dst, .makeFunc (.func f) fs cs, ty, pos, af, g⟩ = some (True, s.put dst (.fn f (fs.toList.map (aev s)) (cs.toList.map (aev s)))) := rfl
theorem x_slice (t x lo hi mx) : aStep E nx s ⟨dst, .slice t x lo hi mx, ty, pos, af, g⟩ = (if mx.isSome && hi.isNone then none else (E.T t).bind fun d => sliceOp E.T s.m (aev s x) d (lo.map (aev s)) (hi.map (aev s)) (mx.map (aev s))).map fun z => (z.1, s.put dst z.2) := rfl
def lenA (m : Nat → AObj) (k : TK) (v : AV) : Option (Prop × Nat) :=
  match k with
  | .string => match v with
    | .str z => some (True, z.size)
    | _ => none
  | .slice _ => lenOp m v
  | _ => none
theorem x_len (x t) : aStep E nx s ⟨dst, .call { callee := .builtin .len, args := #[x], argTypes := #[t] }, ty, pos, af, g⟩ = (E.T t).bind fun d => (lenA s.m d.k (aev s x)).map fun z => (z.1, s.put dst (.int .i64 z.2)) := by
  simp only [aStep, kind, pev, Option.map_bind]
  congr 1; funext d; simp only [Function.comp]
  unfold lenA
  cases d.k <;> simp only [Option.map_none]
  · rw [Option.map_map]; rfl
  · cases aev s x <;> rfl
theorem x_alloc (t) : aStep E nx s ⟨dst, .alloc t, ty, pos, af, g⟩ = (E.T t).map fun d => (True ∧ s.m nx = .unused ∧ d.zero.all AV.ck = true, { (s.put dst (.ref nx 0)) with m := upd s.m nx (.live d.zero) }) := by
  simp only [aStep, kind, aal, Option.map_map]; rfl
theorem x_box (t x) : aStep E nx s ⟨dst, .box t x, ty, pos, af, g⟩ = (E.T t).map fun d => (((aev s x).cells.length = d.sz ∧ (aev s x).cells.all AV.ck = true) ∧ s.m nx = .unused ∧ (aev s x).cells.all AV.ck = true, { (s.put dst (.ref nx 0)) with m := upd s.m nx (.live (aev s x).cells) }) := by
  simp only [aStep, kind, aal, Option.map_map]; rfl
theorem x_buildSlice (t n ps) : aStep E nx s ⟨dst, .buildSlice t n ps, ty, pos, af, g⟩ = (aal E.T s ⟨dst, .buildSlice t n ps, ty, pos, af, g⟩).map fun z => (z.1 ∧ s.m nx = .unused ∧ z.2.1.all AV.ck = true, { (s.put dst (z.2.2 nx)) with m := upd s.m nx (.live z.2.1) }) := rfl
theorem x_makeSlice (t l c) : aStep E nx s ⟨dst, .makeSlice t l c, ty, pos, af, g⟩ = (aal E.T s ⟨dst, .makeSlice t l c, ty, pos, af, g⟩).map fun z => (z.1 ∧ s.m nx = .unused ∧ z.2.1.all AV.ck = true, { (s.put dst (z.2.2 nx)) with m := upd s.m nx (.live z.2.1) }) := rfl
def stA (d : TyD) (m : Nat → AObj) (p v : AV) : Option (Prop × Nat × List AV) :=
  match p with
  | .ref r off => match m r with
    | .live cs => some ((wr d cs off v).1, r, (wr d cs off v).2)
    | _ => none
  | _ => none
theorem x_store (t x y) : aStep E nx s ⟨dst, .store t x y, ty, pos, af, g⟩ = (E.T t).bind fun d => (stA d s.m (aev s x) (aev s y)).map fun z => (z.1, { (s.put dst (.tup [])) with m := upd s.m z.2.1 (.live z.2.2) }) := by
  simp only [aStep, kind, ast, Option.map_bind]; rfl
def elemOf : TK → Option Nat
  | .slice e => some e
  | _ => none
def apX (nx : Nat) (s : St) (dst : Option Tmp) (ed : TyD) (k' : TK) (x y : AV) : Option (Prop × St) :=
  if x.isNils && y.isNils then (elemOf k').map fun _ => (True, s.put dst .nils) else
    (apDst s ed.sz x).bind fun a => (apSrc s ed.sz a.2.2.2 k' y).map fun b =>
      (a.1 ∧ b.1 ∧ (a.2.2.2 = none → 0 < b.2.1) ∧ s.m nx = .unused ∧ (a.2.1 + b.2.1) * ed.bytes ≤ 1099511627776 ∧ 1 ≤ ed.bytes ∧ a.2.2.1.all AV.ck = true ∧ b.2.2.all AV.ck = true,
        { (s.put dst (.sl nx 0 (a.2.1 + b.2.1) ed.sz)) with m := upd (goneM s.m a.2.2.2) nx (.live (a.2.2.1 ++ b.2.2)) })
theorem x_append (x y t t') : aStep E nx s ⟨dst, .call { callee := .builtin .append, args := #[x, y], argTypes := #[t, t'] }, ty, pos, af, g⟩ = (E.T t).bind fun d => (elemOf d.k).bind fun e => (E.T e).bind fun ed => (E.T t').bind fun d' => apX nx s dst ed d'.k (aev s x) (aev s y) := by
  simp only [aStep, kind, aap]
  congr 1; funext d
  cases d.k <;> try rfl
  simp only [elemOf, Option.bind_some]
  congr 1; funext ed
  congr 1; funext d'
  simp only [apX]
  split
  · cases d'.k <;> rfl
  · rfl
def coX (s : St) (dst : Option Tmp) (ed : TyD) (k' : TK) (x y : AV) : Option (Prop × St) :=
  match x with
  | .sl r off n k => match s.m r with
    | .live cs => (apSrc s ed.sz (some r) k' y).map fun a =>
      (a.1 ∧ k = ed.sz ∧ a.2.1 ≤ n ∧ Cut cs off (a.2.1 * k) ∧ a.2.2.all AV.ck = true, { (s.put dst (.int .i64 a.2.1)) with m := upd s.m r (.live (over cs off a.2.2)) })
    | _ => none
  | _ => none
theorem x_copy (x y t t') : aStep E nx s ⟨dst, .call { callee := .builtin .copy, args := #[x, y], argTypes := #[t, t'] }, ty, pos, af, g⟩ = (E.T t).bind fun d => (elemOf d.k).bind fun e => (E.T e).bind fun ed => (E.T t').bind fun d' => coX s dst ed d'.k (aev s x) (aev s y) := by
  simp only [aStep, kind, acp]
  congr 1; funext d
  cases d.k <;> try rfl
def nonNil : AV → Option (Prop × AV)
  | .fn f a b => some (True, .fn f a b)
  | _ => none
def calleeA (f : AV) (args : List AV) : Option (Nat × List AV) :=
  match f with
  | .fn f fs cs => some (f, fs ++ args ++ cs)
  | _ => none
theorem x_callee (f args ts) : callee s ⟨dst, .call { callee := .value f, args := args, argTypes := ts }, ty, pos, af, g⟩ = calleeA (aev s f) (args.toList.map (aev s)) := rfl
theorem x_call (f args ts) : aStep E nx s ⟨dst, .call { callee := .value f, args := args, argTypes := ts }, ty, pos, af, g⟩ = (calleeA (aev s f) (args.toList.map (aev s))).bind fun z => (E.S z.1 (z.2.map (snapV s.m))).map fun y =>
    (y.1 ∧ snapC s.m (z.2.flatMap AV.cells), { (s.put dst y.2) with m := snapM s.m (z.2.flatMap AV.cells) }) := rfl

/-! What comes behind stands in a box into which the rewriting does not look. -/
class Bx (α : Type) where
  v : α

def vcX (tr : TriT) (ic : ICallT) (E : Env) (N : Nat) (c : Code) (nx : Nat) (s : St) [Q : Bx (Exit → Nat → St → Prop)] : Prop := vc tr ic E N c Q.v nx s
def vOpsX (ic : ICallT) (E : Env) (draw : Bool) (ops : Array Oper) (os : List Oper) (c : Acc) (nx : Nat) (s : St) [K : Bx (Nat → St → Prop)] : Prop := vOps ic E draw ops os c nx s K.v
def qX (e : Exit) (nx : Nat) (s : St) [Q : Bx (Exit → Nat → St → Prop)] : Prop := Q.v e nx s
def kX (nx : Nat) (s : St) [K : Bx (Nat → St → Prop)] : Prop := K.v nx s
def ifX (b : Bool) [p : Bx Prop] [q : Bx Prop] : Prop := ifB b p.v q.v
def guardX (b : Option Bool) [p : Bx Prop] [q : Bx Prop] : Prop := guardB b p.v q.v
def stepX (x : Option (Prop × St)) [f : Bx (St → Prop)] [g : Bx Prop] : Prop := stepB x f.v g.v
def callX (x : Option (Nat × List AV)) [f : Bx (Nat → List AV → Prop)] : Prop := callB x f.v
def icX (ic : ICallT) (f : Nat) (args : List AV) (m : Nat → AObj) [K : Bx (Nat → AV → (Nat → AObj) → Prop)] : Prop := ic f args m K.v
def trX (tr : TriT) (c : Code) (s : St) [Q : Bx (Exit → Nat → St → Prop)] : Prop := tr c Q.v s
def resX (x : Option (Prop × List AV)) (nx : Nat) (s : St) [K : Bx (Nat → St → AV → Prop)] : Prop :=
  match x with
  | some (p, vs) => p ∧ K.v nx s (pack vs)
  | none => False
def finX (nx : Nat) (s : St) (v : AV) [K : Bx (Nat → St → AV → Prop)] : Prop := K.v nx s v

theorem to_vcX (c) (Q) : vcX tr ic E N c nx s (Q := ⟨Q⟩) → vc tr ic E N c Q nx s := id

theorem vc_skip : vcX tr ic E N .skip nx s (Q := ⟨Q⟩) = qX .normal nx s (Q := ⟨Q⟩) := rfl
theorem vc_label (l) : vcX tr ic E N (.label l) nx s (Q := ⟨Q⟩) = qX .normal nx s (Q := ⟨Q⟩) := rfl
theorem vc_region (id ops draw) : vcX tr ic E N (.region id ops draw) nx s (Q := ⟨Q⟩) = (s.n = N ∧ vOpsX ic E draw ops ops.toList (acc0 draw (ops.toList.any isSt)) nx s (K := ⟨Q .normal⟩)) := rfl
theorem vc_seq (x y) : vcX tr ic E N (.seq x y) nx s (Q := ⟨Q⟩) = vcX tr ic E N x nx s (Q := ⟨seqQ (vc tr ic E N y) Q⟩) := rfl
theorem vc_cond (c x y) : vcX tr ic E N (.cond c x y) nx s (Q := ⟨Q⟩) = guardX (aev s c).asB (p := ⟨vcX tr ic E N x nx s (Q := ⟨Q⟩)⟩) (q := ⟨vcX tr ic E N y nx s (Q := ⟨Q⟩)⟩) := rfl
theorem vc_block (id c) : vcX tr ic E N (.block id c) nx s (Q := ⟨Q⟩) = vcX tr ic E N c nx s (Q := ⟨blockQ id Q⟩) := rfl
theorem vc_scope (c) : vcX tr ic E N (.scope c) nx s (Q := ⟨Q⟩) = vcX tr ic E N c nx s (Q := ⟨scopeQ Q⟩) := rfl
theorem vc_exit (id) : vcX tr ic E N (.exit id) nx s (Q := ⟨Q⟩) = qX (.exit id) nx s (Q := ⟨Q⟩) := rfl
theorem vc_ret : vcX tr ic E N .ret nx s (Q := ⟨Q⟩) = qX .ret nx s (Q := ⟨Q⟩) := rfl
theorem vc_loop (c) : vcX tr ic E N (.loop c) nx s (Q := ⟨Q⟩) = trX tr (.loop c) s (Q := ⟨Q⟩) := rfl
theorem vOps_nil (c) : vOpsX ic E draw ops [] c nx s (K := ⟨K⟩) = kX nx s (K := ⟨K⟩) := rfl
theorem vOps_cons : vOpsX ic E draw ops (o :: os) .off nx s (K := ⟨K⟩) = guardX (wantedA ops o s)
    (p := ⟨stepX (aStep E nx s o) (f := ⟨fun s' => vOpsX ic E draw ops os .off (nx + 1) s' (K := ⟨K⟩)⟩) (g := ⟨ifX draw (p := ⟨False⟩) (q := ⟨callX (callee s o) (f := ⟨fun f args => icX ic f args s.m (K := ⟨fun nx r m => vOpsX ic E draw ops os .off nx { (s.put o.dst r) with m := m } (K := ⟨K⟩)⟩)⟩)⟩)⟩)⟩)
    (q := ⟨vOpsX ic E draw ops os .off nx (s.put o.dst (.tup [])) (K := ⟨K⟩)⟩) := by
  simp only [vOpsX, vOps, Acc.ok, Acc.next, true_and]; rfl
theorem vOps_cons_on (i l) : vOpsX ic E draw ops (o :: os) (.on i l) nx s (K := ⟨K⟩) = (lateOk l o s = true ∧ guardX (wantedA ops o s)
    (p := ⟨stepX (aStep E nx s o) (f := ⟨fun s' => vOpsX ic E draw ops os (.on (i + 1) ((i, reads o s) :: l)) (nx + 1) s' (K := ⟨K⟩)⟩) (g := ⟨ifX draw (p := ⟨False⟩) (q := ⟨callX (callee s o) (f := ⟨fun f args => icX ic f args s.m (K := ⟨fun nx r m => vOpsX ic E draw ops os (.on (i + 1) ((i, reads o s) :: l)) nx { (s.put o.dst r) with m := m } (K := ⟨K⟩)⟩)⟩)⟩)⟩)⟩)
    (q := ⟨vOpsX ic E draw ops os (.on (i + 1) ((i, reads o s) :: l)) nx (s.put o.dst (.tup [])) (K := ⟨K⟩)⟩)) := rfl
theorem acc0_false (b) : acc0 false b = .off := rfl
theorem acc0_no : acc0 true false = .off := rfl
theorem acc0_yes : acc0 true true = .on 0 [] := rfl
def isStO : Op → Bool
  | .store _ _ _ => true
  | _ => false
theorem isSt_def (d op ty pos af g) : isSt ⟨d, op, ty, pos, af, g⟩ = isStO op := by cases op <;> rfl
def lateA (l : List (Nat × List Nat)) (af : Array Edge) : AV → Bool
  | .ref r _ => l.all fun p => if p.2.contains r = true then af.any (fun e => Region.binds .any e && e.on == p.1) else true
  | _ => true
def lateO (l : List (Nat × List Nat)) (af : Array Edge) (s : St) : Op → Bool
  | .store _ a _ => lateA l af (aev s a)
  | _ => true
theorem late_def (l d op ty pos af g) : lateOk l ⟨d, op, ty, pos, af, g⟩ s = lateO l af s op := by
  cases op <;> try rfl
  rename_i t a x
  simp only [lateOk, lateO]
  cases aev s a <;> try rfl
  simp only [lateA]
  congr 1; funext p
  cases p.2.contains _ <;> simp
def readsR (s : St) (op : Op) : List Nat := reads ⟨none, op, 0, "", #[], none⟩ s
def readsO (s : St) : Op → List Nat
  | .load _ a => ids (aev s a)
  | .nilCheck a => ids (aev s a)
  | .convert _ _ a => ids (aev s a)
  | .fieldAddr _ a _ => ids (aev s a)
  | .indexAddr _ _ _ => []
  | .call { callee := .value f, args := args, .. } => ids (aev s f) ++ args.toList.flatMap fun z => ids (aev s z)
  | .call { callee := .builtin .len, args := args, .. } => args.toList.flatMap fun z => ids (aev s z)
  | op => readsR s op
theorem reads_def (d op ty pos af g) : reads ⟨d, op, ty, pos, af, g⟩ s = readsO s op := by
  unfold readsO
  split <;> simp [reads, readsR, looks, Op.operands, Call.operands]
theorem reads_no (op) (h : looks op = false) : readsR s op = [] := by simp [readsR, reads, h]
theorem rr_move (x) : readsR s (.move x) = [] := rfl
theorem rr_assign (x) : readsR s (.assign x) = [] := rfl
theorem rr_pick (c a b) : readsR s (.pick c a b) = [] := rfl
theorem rr_alloc (e) : readsR s (.alloc e) = [] := rfl
theorem rr_box (e v) : readsR s (.box e v) = [] := rfl
theorem rr_build (t p) : readsR s (.build t p) = [] := rfl
theorem rr_buildSlice (t n p) : readsR s (.buildSlice t n p) = [] := rfl
theorem rr_store (t a v) : readsR s (.store t a v) = [] := rfl
theorem rr_binOp (o t x y u) : readsR s (.binOp o t x y u) = [] := rfl
theorem rr_unOp (o t x) : readsR s (.unOp o t x) = [] := rfl
theorem rr_makeFunc (f a b) : readsR s (.makeFunc f a b) = [] := rfl
theorem rr_makeSlice (t l c) : readsR s (.makeSlice t l c) = [] := rfl
theorem rr_field (t x f) : readsR s (.field t x f) = [] := rfl
theorem rr_index (t x i) : readsR s (.index t x i) = [] := rfl
theorem rr_extract (x i) : readsR s (.extract x i) = [] := rfl
theorem strM_int (T m src dst k n) : strM T m src dst (.int k n) = convert src dst (.int k n) := rfl
theorem strM_str (T m src dst z) : strM T m src dst (.str z) = convert src dst (.str z) := rfl
theorem strM_sl (T : Nat → Option TyD) (m e b b' z z' sz sz' r off n k) (h : isU8 (T e) = true) : strM T m ⟨.slice e, sz, b, z⟩ ⟨.string, sz', b', z'⟩ (.sl r off n k) = (objCells (m r)).map fun cs => (Cut cs off n ∧ k = 1 ∧ ((cs.drop off).take n).all isB = true, .str (bytesS ((cs.drop off).take n))) := by
  simp only [strM, h, if_true]
theorem isU8_some (sz b z) : isU8 (some ⟨.int .u8, sz, b, z⟩) = true := rfl
theorem ids_agg (cs) : ids (.agg cs) = cs.filterMap top := rfl
theorem ids_ref' (r off) : ids (.ref r off) = [r] := rfl
theorem ids_sl' (r off n sz) : ids (.sl r off n sz) = [r] := rfl
theorem ids_fn (f fs cs) : ids (.fn f fs cs) = ((fs ++ cs).flatMap AV.cells).filterMap top := rfl
theorem ids_int (k n) : ids (.int k n) = [] := rfl
theorem ids_bool (b) : ids (.bool b) = [] := rfl
theorem ids_str (b) : ids (.str b) = [] := rfl
theorem ids_nils : ids .nils = [] := rfl
theorem ids_imm (n cs) : ids (.imm n cs) = [] := rfl
theorem ids_opq (x) : ids (.opq x) = [] := rfl
theorem ids_tup (x) : ids (.tup x) = [] := rfl
theorem ids_fref (x) : ids (.fref x) = [] := rfl
theorem tops_cons (v : AV) (l : List AV) : (v :: l).filterMap top = (top v).toList ++ l.filterMap top := by
  rw [List.filterMap_cons]; cases top v <;> rfl
theorem tops_nil : ([] : List AV).filterMap top = [] := rfl
theorem q_seq_normal (k) : qX .normal nx s (Q := ⟨seqQ (vc tr ic E N k) Q⟩) = vcX tr ic E N k nx s (Q := ⟨Q⟩) := rfl
theorem q_seq_exit (k i) : qX (.exit i) nx s (Q := ⟨seqQ k Q⟩) = qX (.exit i) nx s (Q := ⟨Q⟩) := rfl
theorem q_seq_ret (k) : qX .ret nx s (Q := ⟨seqQ k Q⟩) = qX .ret nx s (Q := ⟨Q⟩) := rfl
theorem q_block_normal (i) : qX .normal nx s (Q := ⟨blockQ i Q⟩) = qX .normal nx s (Q := ⟨Q⟩) := rfl
theorem q_block_ret (i) : qX .ret nx s (Q := ⟨blockQ i Q⟩) = qX .ret nx s (Q := ⟨Q⟩) := rfl
theorem q_block_exit (i) : qX (.exit i) nx s (Q := ⟨blockQ i Q⟩) = qX .normal nx s (Q := ⟨Q⟩) := by
  simp only [qX, blockQ]; split
  · rfl
  · rename_i h _; exact absurd rfl h
theorem q_block_exit' (i j) (h : (j == i) = false) : qX (.exit j) nx s (Q := ⟨blockQ i Q⟩) = qX (.exit j) nx s (Q := ⟨Q⟩) := by
  simp only [qX, blockQ]; split
  · rename_i e _; subst e; simp at h
  · rfl
theorem q_scope_normal : qX .normal nx s (Q := ⟨scopeQ Q⟩) = qX .normal nx s (Q := ⟨Q⟩) := rfl
theorem q_scope_ret : qX .ret nx s (Q := ⟨scopeQ Q⟩) = qX .ret nx s (Q := ⟨Q⟩) := rfl
theorem q_scope_exit (i) : qX (.exit i) nx s (Q := ⟨scopeQ Q⟩) = qX (.exit i) nx s (Q := ⟨Q⟩) := rfl
theorem q_loop_exit (L I μ n i) : qX (.exit i) nx s (Q := ⟨loopQ L I μ n Q⟩) = qX (.exit i) nx s (Q := ⟨Q⟩) := rfl
theorem q_loop_ret (L I μ n) : qX .ret nx s (Q := ⟨loopQ L I μ n Q⟩) = qX .ret nx s (Q := ⟨Q⟩) := rfl
theorem q_loop_normal (L I μ n) : qX .normal nx s (Q := ⟨loopQ L I μ n Q⟩) = ∃ s', Kept L s s' ∧ I s' ∧ μ s' < n := rfl
theorem q_ret (T fn k) : qX .ret nx s (Q := ⟨retQ T fn k⟩) = resX (resVs T s fn.results.toList) nx s (K := ⟨k⟩) := rfl
theorem q_ret' (T fn k) : qX .normal nx s (Q := ⟨retQ T fn k⟩) = resX (resVs T s fn.results.toList) nx s (K := ⟨k⟩) := rfl
theorem res_some (p vs k) : resX (some (p, vs)) nx s (K := ⟨k⟩) = (p ∧ finX nx s (pack vs) (K := ⟨k⟩)) := rfl
theorem k_normal : kX nx s (K := ⟨Q .normal⟩) = qX .normal nx s (Q := ⟨Q⟩) := rfl
theorem step_some (p s') (f : St → Prop) (g : Bx Prop) : stepX (some (p, s')) (f := ⟨f⟩) (g := g) = (p ∧ f s') := rfl
theorem step_none (q) (f : Bx (St → Prop)) : stepX none (f := f) (g := ⟨q⟩) = q := rfl
theorem guard_some (b) (p q : Bx Prop) : guardX (some b) (p := p) (q := q) = ifX b (p := p) (q := q) := rfl
theorem call_some (f a) (k : Nat → List AV → Prop) : callX (some (f, a)) (f := ⟨k⟩) = k f a := rfl
theorem if_true (p) (q : Bx Prop) : ifX true (p := ⟨p⟩) (q := q) = p := by simp [ifX, ifB]
theorem if_false (q) (p : Bx Prop) : ifX false (p := p) (q := ⟨q⟩) = q := by simp [ifX, ifB]
theorem if_split {b : Bool} {p q : Prop} (h1 : b = true → p) (h2 : b = false → q) : ifX b (p := ⟨p⟩) (q := ⟨q⟩) := ⟨h1, h2⟩
theorem icX_def (f args m K) : icX ic f args m (K := ⟨K⟩) = ic f args m K := rfl
theorem trX_def (c) : trX tr c s (Q := ⟨Q⟩) = tr c Q s := rfl
theorem wantedA_none (s) (ops : Array Oper) (d : Option Tmp) (op ty pos af) : wantedA ops ⟨d, op, ty, pos, af, none⟩ s = some true := rfl
def wantB (b want : Bool) : Bool := b == want
theorem wantedA_some (s) (ops : Array Oper) (d : Option Tmp) (op ty pos af j want) : wantedA ops ⟨d, op, ty, pos, af, some (j, want)⟩ s = (((ops[j]?).bind (·.dst)).map s.t).bind (wantV want) := rfl
theorem wantV_bool (want b) : wantV want (.bool b) = some (b == want) := rfl
theorem wantV_tup (want l) : wantV want (.tup l) = some false := rfl
theorem regOk_false (n ops) : regOk n ops false = ops.toList.all (dstOk n) := by simp [regOk]
theorem St.put_mk (t m n d v) : (St.mk t m n).put (some d) v = ⟨upd t d v, m, n⟩ := rfl
theorem St.put_mk' (t m n v) : (St.mk t m n).put none v = ⟨t, m, n⟩ := rfl
theorem upd_eq {β : Type} (f : Nat → β) (i : Nat) (v : β) : upd f i v i = v := by simp [upd]
theorem upd_ne {β : Type} (f : Nat → β) (i j : Nat) (v : β) (h : (j == i) = false) : upd f i v j = f j := by
  unfold upd; rw [if_neg]; simpa using h
def AV.nopad : AV → Bool
  | .pad => false
  | _ => true
theorem head_cons (v : AV) (l : List AV) : AV.head (v :: l) = v.nopad := by cases v <;> rfl
theorem head_nil : AV.head [] = true := rfl
theorem asB_bool (b) : AV.asB (.bool b) = some b := rfl
end
/-! Constructor equations. -/
theorem e_top_junk  : top .junk = none := rfl
theorem e_top_pad  : top .pad = none := rfl
theorem e_top_bool (b : Bool) : top (.bool b) = none := rfl
theorem e_top_int (k : IntKind) (n : Int) : top (.int k n) = none := rfl
theorem e_top_str (z : ByteArray) : top (.str z) = none := rfl
theorem e_top_nilp  : top .nilp = none := rfl
theorem e_top_ref (r o : Nat) : top (.ref r o) = some r := rfl
theorem e_top_fref (cs : List AV) : top (.fref cs) = none := rfl
theorem e_top_nils  : top .nils = none := rfl
theorem e_top_sl (r o n z : Nat) : top (.sl r o n z) = some r := rfl
theorem e_top_imm (n : Nat) (cs : List AV) : top (.imm n cs) = none := rfl
theorem e_top_nilf  : top .nilf = none := rfl
theorem e_top_fn (f : Nat) (fs cs : List AV) : top (.fn f fs cs) = none := rfl
theorem e_top_agg (cs : List AV) : top (.agg cs) = none := rfl
theorem e_top_tup (cs : List AV) : top (.tup cs) = none := rfl
theorem e_top_opq (x : Pay) : top (.opq x) = none := rfl
theorem e_AV_isNils_junk  : AV.isNils .junk = false := rfl
theorem e_AV_isNils_pad  : AV.isNils .pad = false := rfl
theorem e_AV_isNils_bool (b : Bool) : AV.isNils (.bool b) = false := rfl
theorem e_AV_isNils_int (k : IntKind) (n : Int) : AV.isNils (.int k n) = false := rfl
theorem e_AV_isNils_str (z : ByteArray) : AV.isNils (.str z) = false := rfl
theorem e_AV_isNils_nilp  : AV.isNils .nilp = false := rfl
theorem e_AV_isNils_ref (r o : Nat) : AV.isNils (.ref r o) = false := rfl
theorem e_AV_isNils_fref (cs : List AV) : AV.isNils (.fref cs) = false := rfl
theorem e_AV_isNils_nils  : AV.isNils .nils = true := rfl
theorem e_AV_isNils_sl (r o n z : Nat) : AV.isNils (.sl r o n z) = false := rfl
theorem e_AV_isNils_imm (n : Nat) (cs : List AV) : AV.isNils (.imm n cs) = false := rfl
theorem e_AV_isNils_nilf  : AV.isNils .nilf = false := rfl
theorem e_AV_isNils_fn (f : Nat) (fs cs : List AV) : AV.isNils (.fn f fs cs) = false := rfl
theorem e_AV_isNils_agg (cs : List AV) : AV.isNils (.agg cs) = false := rfl
theorem e_AV_isNils_tup (cs : List AV) : AV.isNils (.tup cs) = false := rfl
theorem e_AV_isNils_opq (x : Pay) : AV.isNils (.opq x) = false := rfl
theorem e_AV_nopad_junk  : AV.nopad .junk = true := rfl
theorem e_AV_nopad_pad  : AV.nopad .pad = false := rfl
theorem e_AV_nopad_bool (b : Bool) : AV.nopad (.bool b) = true := rfl
theorem e_AV_nopad_int (k : IntKind) (n : Int) : AV.nopad (.int k n) = true := rfl
theorem e_AV_nopad_str (z : ByteArray) : AV.nopad (.str z) = true := rfl
theorem e_AV_nopad_nilp  : AV.nopad .nilp = true := rfl
theorem e_AV_nopad_ref (r o : Nat) : AV.nopad (.ref r o) = true := rfl
theorem e_AV_nopad_fref (cs : List AV) : AV.nopad (.fref cs) = true := rfl
theorem e_AV_nopad_nils  : AV.nopad .nils = true := rfl
theorem e_AV_nopad_sl (r o n z : Nat) : AV.nopad (.sl r o n z) = true := rfl
theorem e_AV_nopad_imm (n : Nat) (cs : List AV) : AV.nopad (.imm n cs) = true := rfl
theorem e_AV_nopad_nilf  : AV.nopad .nilf = true := rfl
theorem e_AV_nopad_fn (f : Nat) (fs cs : List AV) : AV.nopad (.fn f fs cs) = true := rfl
theorem e_AV_nopad_agg (cs : List AV) : AV.nopad (.agg cs) = true := rfl
theorem e_AV_nopad_tup (cs : List AV) : AV.nopad (.tup cs) = true := rfl
theorem e_AV_nopad_opq (x : Pay) : AV.nopad (.opq x) = true := rfl
theorem e_AV_one_junk  : AV.one .junk = false := rfl
theorem e_AV_one_pad  : AV.one .pad = false := rfl
theorem e_AV_one_bool (b : Bool) : AV.one (.bool b) = true := rfl
theorem e_AV_one_int (k : IntKind) (n : Int) : AV.one (.int k n) = true := rfl
theorem e_AV_one_str (z : ByteArray) : AV.one (.str z) = true := rfl
theorem e_AV_one_nilp  : AV.one .nilp = true := rfl
theorem e_AV_one_ref (r o : Nat) : AV.one (.ref r o) = true := rfl
theorem e_AV_one_fref (cs : List AV) : AV.one (.fref cs) = true := rfl
theorem e_AV_one_nils  : AV.one .nils = true := rfl
theorem e_AV_one_sl (r o n z : Nat) : AV.one (.sl r o n z) = true := rfl
theorem e_AV_one_imm (n : Nat) (cs : List AV) : AV.one (.imm n cs) = true := rfl
theorem e_AV_one_nilf  : AV.one .nilf = true := rfl
theorem e_AV_one_fn (f : Nat) (fs cs : List AV) : AV.one (.fn f fs cs) = true := rfl
theorem e_AV_one_agg (cs : List AV) : AV.one (.agg cs) = false := rfl
theorem e_AV_one_tup (cs : List AV) : AV.one (.tup cs) = false := rfl
theorem e_AV_one_opq (x : Pay) : AV.one (.opq x) = (x.width == 1) := rfl
theorem e_AV_plain_junk  : AV.plain .junk = true := rfl
theorem e_AV_plain_pad  : AV.plain .pad = false := rfl
theorem e_AV_plain_bool (b : Bool) : AV.plain (.bool b) = true := rfl
theorem e_AV_plain_int (k : IntKind) (n : Int) : AV.plain (.int k n) = true := rfl
theorem e_AV_plain_str (z : ByteArray) : AV.plain (.str z) = true := rfl
theorem e_AV_plain_nilp  : AV.plain .nilp = true := rfl
theorem e_AV_plain_ref (r o : Nat) : AV.plain (.ref r o) = true := rfl
theorem e_AV_plain_fref (cs : List AV) : AV.plain (.fref cs) = true := rfl
theorem e_AV_plain_nils  : AV.plain .nils = true := rfl
theorem e_AV_plain_sl (r o n z : Nat) : AV.plain (.sl r o n z) = true := rfl
theorem e_AV_plain_imm (n : Nat) (cs : List AV) : AV.plain (.imm n cs) = true := rfl
theorem e_AV_plain_nilf  : AV.plain .nilf = true := rfl
theorem e_AV_plain_fn (f : Nat) (fs cs : List AV) : AV.plain (.fn f fs cs) = true := rfl
theorem e_AV_plain_agg (cs : List AV) : AV.plain (.agg cs) = true := rfl
theorem e_AV_plain_tup (cs : List AV) : AV.plain (.tup cs) = true := rfl
theorem e_AV_plain_opq (x : Pay) : AV.plain (.opq x) = (x.width == 1) := rfl
theorem e_AV_ck_junk  : AV.ck .junk = false := rfl
theorem e_AV_ck_pad  : AV.ck .pad = true := rfl
theorem e_AV_ck_bool (b : Bool) : AV.ck (.bool b) = true := rfl
theorem e_AV_ck_int (k : IntKind) (n : Int) : AV.ck (.int k n) = true := rfl
theorem e_AV_ck_str (z : ByteArray) : AV.ck (.str z) = true := rfl
theorem e_AV_ck_nilp  : AV.ck .nilp = true := rfl
theorem e_AV_ck_ref (r o : Nat) : AV.ck (.ref r o) = true := rfl
theorem e_AV_ck_fref (cs : List AV) : AV.ck (.fref cs) = true := rfl
theorem e_AV_ck_nils  : AV.ck .nils = true := rfl
theorem e_AV_ck_sl (r o n z : Nat) : AV.ck (.sl r o n z) = true := rfl
theorem e_AV_ck_imm (n : Nat) (cs : List AV) : AV.ck (.imm n cs) = true := rfl
theorem e_AV_ck_nilf  : AV.ck .nilf = true := rfl
theorem e_AV_ck_fn (f : Nat) (fs cs : List AV) : AV.ck (.fn f fs cs) = true := rfl
theorem e_AV_ck_agg (cs : List AV) : AV.ck (.agg cs) = false := rfl
theorem e_AV_ck_tup (cs : List AV) : AV.ck (.tup cs) = false := rfl
theorem e_AV_ck_opq (x : Pay) : AV.ck (.opq x) = true := rfl
theorem e_AV_cells_junk  : AV.cells .junk = [.junk] := rfl
theorem e_AV_cells_pad  : AV.cells .pad = [.pad] := rfl
theorem e_AV_cells_bool (b : Bool) : AV.cells (.bool b) = [(.bool b)] := rfl
theorem e_AV_cells_int (k : IntKind) (n : Int) : AV.cells (.int k n) = [(.int k n)] := rfl
theorem e_AV_cells_str (z : ByteArray) : AV.cells (.str z) = [(.str z)] := rfl
theorem e_AV_cells_nilp  : AV.cells .nilp = [.nilp] := rfl
theorem e_AV_cells_ref (r o : Nat) : AV.cells (.ref r o) = [(.ref r o)] := rfl
theorem e_AV_cells_fref (cs : List AV) : AV.cells (.fref cs) = [(.fref cs)] := rfl
theorem e_AV_cells_nils  : AV.cells .nils = [.nils] := rfl
theorem e_AV_cells_sl (r o n z : Nat) : AV.cells (.sl r o n z) = [(.sl r o n z)] := rfl
theorem e_AV_cells_imm (n : Nat) (cs : List AV) : AV.cells (.imm n cs) = [(.imm n cs)] := rfl
theorem e_AV_cells_nilf  : AV.cells .nilf = [.nilf] := rfl
theorem e_AV_cells_fn (f : Nat) (fs cs : List AV) : AV.cells (.fn f fs cs) = [(.fn f fs cs)] := rfl
theorem e_AV_cells_agg (cs : List AV) : AV.cells (.agg cs) = cs := rfl
theorem e_AV_cells_tup (cs : List AV) : AV.cells (.tup cs) = [(.tup cs)] := rfl
theorem e_AV_cells_opq (x : Pay) : AV.cells (.opq x) = [(.opq x)] := rfl
theorem e_lenOp_junk (m : Nat → AObj)  : lenOp m .junk = none := rfl
theorem e_lenOp_pad (m : Nat → AObj)  : lenOp m .pad = none := rfl
theorem e_lenOp_bool (m : Nat → AObj) (b : Bool) : lenOp m (.bool b) = none := rfl
theorem e_lenOp_int (m : Nat → AObj) (k : IntKind) (n : Int) : lenOp m (.int k n) = none := rfl
theorem e_lenOp_str (m : Nat → AObj) (z : ByteArray) : lenOp m (.str z) = none := rfl
theorem e_lenOp_nilp (m : Nat → AObj)  : lenOp m .nilp = none := rfl
theorem e_lenOp_ref (m : Nat → AObj) (r o : Nat) : lenOp m (.ref r o) = none := rfl
theorem e_lenOp_fref (m : Nat → AObj) (cs : List AV) : lenOp m (.fref cs) = none := rfl
theorem e_lenOp_nils (m : Nat → AObj)  : lenOp m .nils = some (True, 0) := rfl
theorem e_lenOp_sl (m : Nat → AObj) (r o n z : Nat) : lenOp m (.sl r o n z) = some (alive m r, n) := rfl
theorem e_lenOp_imm (m : Nat → AObj) (n : Nat) (cs : List AV) : lenOp m (.imm n cs) = some (True, n) := rfl
theorem e_lenOp_nilf (m : Nat → AObj)  : lenOp m .nilf = none := rfl
theorem e_lenOp_fn (m : Nat → AObj) (f : Nat) (fs cs : List AV) : lenOp m (.fn f fs cs) = none := rfl
theorem e_lenOp_agg (m : Nat → AObj) (cs : List AV) : lenOp m (.agg cs) = none := rfl
theorem e_lenOp_tup (m : Nat → AObj) (cs : List AV) : lenOp m (.tup cs) = none := rfl
theorem e_lenOp_opq (m : Nat → AObj) (x : Pay) : lenOp m (.opq x) = (lenP x).map fun n => (True, n) := rfl
theorem e_isNil_junk  : isNil .junk = none := rfl
theorem e_isNil_pad  : isNil .pad = none := rfl
theorem e_isNil_bool (b : Bool) : isNil (.bool b) = none := rfl
theorem e_isNil_int (k : IntKind) (n : Int) : isNil (.int k n) = none := rfl
theorem e_isNil_str (z : ByteArray) : isNil (.str z) = none := rfl
theorem e_isNil_nilp  : isNil .nilp = none := rfl
theorem e_isNil_ref (r o : Nat) : isNil (.ref r o) = none := rfl
theorem e_isNil_fref (cs : List AV) : isNil (.fref cs) = none := rfl
theorem e_isNil_nils  : isNil .nils = some (True, true) := rfl
theorem e_isNil_sl (r o n z : Nat) : isNil (.sl r o n z) = none := rfl
theorem e_isNil_imm (n : Nat) (cs : List AV) : isNil (.imm n cs) = some (n ≠ 0, false) := rfl
theorem e_isNil_nilf  : isNil .nilf = none := rfl
theorem e_isNil_fn (f : Nat) (fs cs : List AV) : isNil (.fn f fs cs) = none := rfl
theorem e_isNil_agg (cs : List AV) : isNil (.agg cs) = none := rfl
theorem e_isNil_tup (cs : List AV) : isNil (.tup cs) = none := rfl
theorem e_isNil_opq (x : Pay) : isNil (.opq x) = none := rfl
theorem e_snapC1_junk (m : Nat → AObj)  : snapC1 m .junk = True := rfl
theorem e_snapC1_pad (m : Nat → AObj)  : snapC1 m .pad = True := rfl
theorem e_snapC1_bool (m : Nat → AObj) (b : Bool) : snapC1 m (.bool b) = True := rfl
theorem e_snapC1_int (m : Nat → AObj) (k : IntKind) (n : Int) : snapC1 m (.int k n) = True := rfl
theorem e_snapC1_str (m : Nat → AObj) (z : ByteArray) : snapC1 m (.str z) = True := rfl
theorem e_snapC1_nilp (m : Nat → AObj)  : snapC1 m .nilp = True := rfl
theorem e_snapC1_ref (m : Nat → AObj) (r o : Nat) : snapC1 m (.ref r o) = True := rfl
theorem e_snapC1_fref (m : Nat → AObj) (cs : List AV) : snapC1 m (.fref cs) = True := rfl
theorem e_snapC1_nils (m : Nat → AObj)  : snapC1 m .nils = True := rfl
theorem e_snapC1_sl (m : Nat → AObj) (r o n z : Nat) : snapC1 m (.sl r o n z) = match objCells (m r) with
    | some cs => Cut cs o (n * z)
    | none => False := rfl
theorem e_snapC1_imm (m : Nat → AObj) (n : Nat) (cs : List AV) : snapC1 m (.imm n cs) = True := rfl
theorem e_snapC1_nilf (m : Nat → AObj)  : snapC1 m .nilf = True := rfl
theorem e_snapC1_fn (m : Nat → AObj) (f : Nat) (fs cs : List AV) : snapC1 m (.fn f fs cs) = True := rfl
theorem e_snapC1_agg (m : Nat → AObj) (cs : List AV) : snapC1 m (.agg cs) = True := rfl
theorem e_snapC1_tup (m : Nat → AObj) (cs : List AV) : snapC1 m (.tup cs) = True := rfl
theorem e_snapC1_opq (m : Nat → AObj) (x : Pay) : snapC1 m (.opq x) = True := rfl
theorem e_snap1_junk (m : Nat → AObj)  : snap1 m .junk = .junk := rfl
theorem e_snap1_pad (m : Nat → AObj)  : snap1 m .pad = .pad := rfl
theorem e_snap1_bool (m : Nat → AObj) (b : Bool) : snap1 m (.bool b) = (.bool b) := rfl
theorem e_snap1_int (m : Nat → AObj) (k : IntKind) (n : Int) : snap1 m (.int k n) = (.int k n) := rfl
theorem e_snap1_str (m : Nat → AObj) (z : ByteArray) : snap1 m (.str z) = (.str z) := rfl
theorem e_snap1_nilp (m : Nat → AObj)  : snap1 m .nilp = .nilp := rfl
theorem e_snap1_ref (m : Nat → AObj) (r o : Nat) : snap1 m (.ref r o) = (.ref r o) := rfl
theorem e_snap1_fref (m : Nat → AObj) (cs : List AV) : snap1 m (.fref cs) = (.fref cs) := rfl
theorem e_snap1_nils (m : Nat → AObj)  : snap1 m .nils = .nils := rfl
theorem e_snap1_sl (m : Nat → AObj) (r o n z : Nat) : snap1 m (.sl r o n z) = match objCells (m r) with
    | some cs => .imm n ((cs.drop o).take (n * z))
    | none => .junk := rfl
theorem e_snap1_imm (m : Nat → AObj) (n : Nat) (cs : List AV) : snap1 m (.imm n cs) = (.imm n cs) := rfl
theorem e_snap1_nilf (m : Nat → AObj)  : snap1 m .nilf = .nilf := rfl
theorem e_snap1_fn (m : Nat → AObj) (f : Nat) (fs cs : List AV) : snap1 m (.fn f fs cs) = (.fn f fs cs) := rfl
theorem e_snap1_agg (m : Nat → AObj) (cs : List AV) : snap1 m (.agg cs) = (.agg cs) := rfl
theorem e_snap1_tup (m : Nat → AObj) (cs : List AV) : snap1 m (.tup cs) = (.tup cs) := rfl
theorem e_snap1_opq (m : Nat → AObj) (x : Pay) : snap1 m (.opq x) = (.opq x) := rfl
theorem e_snapV_junk (m : Nat → AObj)  : snapV m .junk = snap1 m .junk := rfl
theorem e_snapV_pad (m : Nat → AObj)  : snapV m .pad = snap1 m .pad := rfl
theorem e_snapV_bool (m : Nat → AObj) (b : Bool) : snapV m (.bool b) = snap1 m (.bool b) := rfl
theorem e_snapV_int (m : Nat → AObj) (k : IntKind) (n : Int) : snapV m (.int k n) = snap1 m (.int k n) := rfl
theorem e_snapV_str (m : Nat → AObj) (z : ByteArray) : snapV m (.str z) = snap1 m (.str z) := rfl
theorem e_snapV_nilp (m : Nat → AObj)  : snapV m .nilp = snap1 m .nilp := rfl
theorem e_snapV_ref (m : Nat → AObj) (r o : Nat) : snapV m (.ref r o) = snap1 m (.ref r o) := rfl
theorem e_snapV_fref (m : Nat → AObj) (cs : List AV) : snapV m (.fref cs) = snap1 m (.fref cs) := rfl
theorem e_snapV_nils (m : Nat → AObj)  : snapV m .nils = snap1 m .nils := rfl
theorem e_snapV_sl (m : Nat → AObj) (r o n z : Nat) : snapV m (.sl r o n z) = snap1 m (.sl r o n z) := rfl
theorem e_snapV_imm (m : Nat → AObj) (n : Nat) (cs : List AV) : snapV m (.imm n cs) = snap1 m (.imm n cs) := rfl
theorem e_snapV_nilf (m : Nat → AObj)  : snapV m .nilf = snap1 m .nilf := rfl
theorem e_snapV_fn (m : Nat → AObj) (f : Nat) (fs cs : List AV) : snapV m (.fn f fs cs) = snap1 m (.fn f fs cs) := rfl
theorem e_snapV_agg (m : Nat → AObj) (cs : List AV) : snapV m (.agg cs) = .agg (cs.map (snap1 m)) := rfl
theorem e_snapV_tup (m : Nat → AObj) (cs : List AV) : snapV m (.tup cs) = snap1 m (.tup cs) := rfl
theorem e_snapV_opq (m : Nat → AObj) (x : Pay) : snapV m (.opq x) = snap1 m (.opq x) := rfl
theorem e_snapM_junk (m : Nat → AObj)  (l : List AV) : snapM m (.junk :: l) = snapM m l := rfl
theorem e_snapM_pad (m : Nat → AObj)  (l : List AV) : snapM m (.pad :: l) = snapM m l := rfl
theorem e_snapM_bool (m : Nat → AObj) (b : Bool) (l : List AV) : snapM m ((.bool b) :: l) = snapM m l := rfl
theorem e_snapM_int (m : Nat → AObj) (k : IntKind) (n : Int) (l : List AV) : snapM m ((.int k n) :: l) = snapM m l := rfl
theorem e_snapM_str (m : Nat → AObj) (z : ByteArray) (l : List AV) : snapM m ((.str z) :: l) = snapM m l := rfl
theorem e_snapM_nilp (m : Nat → AObj)  (l : List AV) : snapM m (.nilp :: l) = snapM m l := rfl
theorem e_snapM_ref (m : Nat → AObj) (r o : Nat) (l : List AV) : snapM m ((.ref r o) :: l) = snapM m l := rfl
theorem e_snapM_fref (m : Nat → AObj) (cs : List AV) (l : List AV) : snapM m ((.fref cs) :: l) = snapM m l := rfl
theorem e_snapM_nils (m : Nat → AObj)  (l : List AV) : snapM m (.nils :: l) = snapM m l := rfl
theorem e_snapM_sl (m : Nat → AObj) (r o n z : Nat) (l : List AV) : snapM m ((.sl r o n z) :: l) = snapM (upd m r (m r).freeze) l := rfl
theorem e_snapM_imm (m : Nat → AObj) (n : Nat) (cs : List AV) (l : List AV) : snapM m ((.imm n cs) :: l) = snapM m l := rfl
theorem e_snapM_nilf (m : Nat → AObj)  (l : List AV) : snapM m (.nilf :: l) = snapM m l := rfl
theorem e_snapM_fn (m : Nat → AObj) (f : Nat) (fs cs : List AV) (l : List AV) : snapM m ((.fn f fs cs) :: l) = snapM m l := rfl
theorem e_snapM_agg (m : Nat → AObj) (cs : List AV) (l : List AV) : snapM m ((.agg cs) :: l) = snapM m l := rfl
theorem e_snapM_tup (m : Nat → AObj) (cs : List AV) (l : List AV) : snapM m ((.tup cs) :: l) = snapM m l := rfl
theorem e_snapM_opq (m : Nat → AObj) (x : Pay) (l : List AV) : snapM m ((.opq x) :: l) = snapM m l := rfl
theorem e_snapM_nil (m : Nat → AObj) : snapM m [] = m := rfl
theorem e_src_nils (s : St) (sz g e) : apSrc s sz g (.slice e) .nils = some (True, 0, []) := rfl
theorem e_src_imm (s : St) (sz g e n cs) : apSrc s sz g (.slice e) (.imm n cs) = some (cs.length = n * sz, n, cs) := rfl
theorem e_src_sl (s : St) (sz g e r off n k) : apSrc s sz g (.slice e) (.sl r off n k) = (objCells (s.m r)).map fun cs => (Cut cs off (n * sz) ∧ k = sz ∧ g ≠ some r, n, (cs.drop off).take (n * sz)) := rfl
theorem e_src_str (s : St) (sz g x) : apSrc s sz g .string (.str x) = some (sz = 1, x.size, strCells x) := rfl
theorem e_ia_1 (T : Nat → Option TyD) (m : Nat → AObj) (r off n e sz b z i) : AM.indexAddr T m (.ref r off) ⟨.array n e, sz, b, z⟩ i = (T e).map fun ed => ((0 ≤ i ∧ i < n) ∧ alive m r, .ref r (off + i.toNat * ed.sz)) := rfl
theorem e_ia_2 (T : Nat → Option TyD) (m : Nat → AObj) (cs n e sz b z i) : AM.indexAddr T m (.fref cs) ⟨.array n e, sz, b, z⟩ i = (T e).map fun ed => ((0 ≤ i ∧ i < n) ∧ i.toNat * ed.sz ≤ cs.length ∧ AV.head (cs.drop (i.toNat * ed.sz)) = true, .fref (cs.drop (i.toNat * ed.sz))) := rfl
theorem e_ia_3 (T : Nat → Option TyD) (m : Nat → AObj) (r off n k e sz b z i) : AM.indexAddr T m (.sl r off n k) ⟨.slice e, sz, b, z⟩ i = (T e).map fun ed => ((0 ≤ i ∧ i < n) ∧ ed.sz = k ∧ alive m r, .ref r (off + i.toNat * k)) := rfl
theorem e_ia_4 (T : Nat → Option TyD) (m : Nat → AObj) (n cs e sz b z i) : AM.indexAddr T m (.imm n cs) ⟨.slice e, sz, b, z⟩ i = (T e).map fun ed => ((0 ≤ i ∧ i < n) ∧ i.toNat * ed.sz ≤ cs.length ∧ AV.head (cs.drop (i.toNat * ed.sz)) = true, .fref (cs.drop (i.toNat * ed.sz))) := rfl
theorem e_ix_1 (T : Nat → Option TyD) (cs n e sz b z i) : AM.index T (.agg cs) ⟨.array n e, sz, b, z⟩ i = (T e).map fun ed => ((0 ≤ i ∧ i < n) ∧ (rd ed cs (i.toNat * ed.sz)).1, (rd ed cs (i.toNat * ed.sz)).2) := rfl
theorem e_ix_2 (T : Nat → Option TyD) (s sz b z i) : AM.index T (.str s) ⟨.string, sz, b, z⟩ i = some (0 ≤ i ∧ i < s.size, .int .u8 (s.get! i.toNat).toNat) := rfl
theorem e_so_1 (T : Nat → Option TyD) (m : Nat → AObj) (s sz b z lo hi mx) : sliceOp T m (.str s) ⟨.string, sz, b, z⟩ lo hi mx = (bound 0 lo).bind fun l => (bound s.size hi).map fun h => (mx.isNone = true ∧ 0 ≤ l ∧ l ≤ h ∧ h ≤ s.size, .str (s.extract l.toNat h.toNat)) := rfl
theorem e_so_2 (T : Nat → Option TyD) (m : Nat → AObj) (r off n k e sz b z lo hi mx) : sliceOp T m (.sl r off n k) ⟨.slice e, sz, b, z⟩ lo hi mx = (T e).bind fun d' => (bound 0 lo).bind fun l => (bound n hi).bind fun h => (bound h mx).map fun q => ((0 ≤ l ∧ (l = 0 ∨ l < h) ∧ l ≤ h ∧ h ≤ n ∧ q = h) ∧ alive m r ∧ d'.sz = k, .sl r (off + l.toNat * k) (h - l).toNat k) := rfl
theorem e_so_3 (T : Nat → Option TyD) (m : Nat → AObj) (n cs e sz b z lo hi mx) : sliceOp T m (.imm n cs) ⟨.slice e, sz, b, z⟩ lo hi mx = (T e).bind fun ed => (bound 0 lo).bind fun l => (bound n hi).bind fun h => (bound h mx).map fun q =>
    ((0 ≤ l ∧ l ≤ h ∧ h ≤ n ∧ q = h ∧ n * ed.sz = cs.length) ∧ Cut cs (l.toNat * ed.sz) ((h - l).toNat * ed.sz), .imm (h - l).toNat ((cs.drop (l.toNat * ed.sz)).take ((h - l).toNat * ed.sz))) := rfl
attribute [go_sem] st0 vc_seq vc_region vc_block vc_loop vc_cond vc_skip vc_exit vc_ret vc_scope vc_label vOps_cons vOps_cons_on acc0_false acc0_no acc0_yes isSt_def isStO late_def lateO lateA reads_def readsO strM_int strM_str strM_sl isU8_some rr_move rr_assign rr_pick rr_alloc rr_box rr_build rr_buildSlice rr_store rr_binOp rr_unOp rr_makeFunc rr_makeSlice rr_field rr_index rr_extract reads_no looks ids_agg ids_ref' ids_sl' ids_fn ids_int ids_bool ids_str ids_nils ids_imm ids_opq ids_tup ids_fref tops_cons tops_nil List.any_cons List.any_nil List.contains_cons List.contains_nil Option.toList_none Option.toList_some vOps_nil q_seq_normal q_seq_exit q_seq_ret q_block_normal q_block_ret q_block_exit q_block_exit' q_scope_normal q_scope_ret q_scope_exit q_loop_exit q_loop_ret q_ret q_ret' res_some k_normal step_some step_none guard_some call_some if_true if_false wantedA_none wantedA_some wantV_bool wantV_tup
attribute [go_sem] x_move x_assign x_binOp x_unOp x_pick x_build x_load x_extract x_fieldAddr x_field x_indexAddr x_index x_nilCheck x_convert x_makeFunc x_slice x_len x_alloc x_box x_buildSlice x_makeSlice x_store x_append x_copy elemOf apX coX apDst goneM x_call x_callee
attribute [go_sem] St.put_mk St.put_mk' upd_eq upd_ne aev lenA asB_bool pickV asI stA calleeA regOk_false dstOk ofV AM.binOp unOp intOp shiftOp strOp AM.convert fieldOf place AM.fill rd wr TyD.row head_cons head_nil objCells peek alive Cut bound elemOk over resVs resV pack snapC aal
attribute [go_sem] List.all_cons List.all_nil List.getD_cons_zero List.getD_cons_succ Option.map_some Option.bind_some Option.map_none Option.bind_none Bool.and_self Bool.and_true Bool.true_and
attribute [go_sem] beq_true beq_false beq_self_eq_true List.getElem?_cons_zero List.getElem?_cons_succ List.getElem?_nil Option.isSome_some Option.isSome_none Option.isNone_some Option.isNone_none List.drop_succ_cons List.drop_zero List.take_succ_cons List.take_zero List.cons_append List.nil_append List.append_nil List.set_cons_zero List.set_cons_succ List.map_cons List.map_nil List.flatMap_cons List.flatMap_nil List.toList_toArray List.getElem?_toArray Nat.zero_add Nat.add_zero List.length_cons List.length_nil List.drop_nil Bool.not_true Bool.not_false Bool.and_false Bool.false_and Bool.or_false Bool.or_true Bool.false_or Bool.true_or
attribute [go_sem] e_top_junk e_top_pad e_top_bool e_top_int e_top_str e_top_nilp e_top_ref e_top_fref e_top_nils e_top_sl e_top_imm e_top_nilf e_top_fn e_top_agg e_top_tup e_top_opq e_AV_isNils_junk e_AV_isNils_pad e_AV_isNils_bool e_AV_isNils_int e_AV_isNils_str e_AV_isNils_nilp e_AV_isNils_ref e_AV_isNils_fref e_AV_isNils_nils e_AV_isNils_sl e_AV_isNils_imm e_AV_isNils_nilf e_AV_isNils_fn e_AV_isNils_agg e_AV_isNils_tup e_AV_isNils_opq e_AV_nopad_junk e_AV_nopad_pad e_AV_nopad_bool e_AV_nopad_int e_AV_nopad_str e_AV_nopad_nilp e_AV_nopad_ref e_AV_nopad_fref e_AV_nopad_nils e_AV_nopad_sl e_AV_nopad_imm e_AV_nopad_nilf e_AV_nopad_fn e_AV_nopad_agg e_AV_nopad_tup e_AV_nopad_opq e_AV_one_junk e_AV_one_pad e_AV_one_bool e_AV_one_int e_AV_one_str e_AV_one_nilp e_AV_one_ref e_AV_one_fref e_AV_one_nils e_AV_one_sl e_AV_one_imm e_AV_one_nilf e_AV_one_fn e_AV_one_agg e_AV_one_tup e_AV_one_opq e_AV_plain_junk e_AV_plain_pad e_AV_plain_bool e_AV_plain_int e_AV_plain_str e_AV_plain_nilp e_AV_plain_ref e_AV_plain_fref e_AV_plain_nils e_AV_plain_sl e_AV_plain_imm e_AV_plain_nilf e_AV_plain_fn e_AV_plain_agg e_AV_plain_tup e_AV_plain_opq e_AV_ck_junk e_AV_ck_pad e_AV_ck_bool e_AV_ck_int e_AV_ck_str e_AV_ck_nilp e_AV_ck_ref e_AV_ck_fref e_AV_ck_nils e_AV_ck_sl e_AV_ck_imm e_AV_ck_nilf e_AV_ck_fn e_AV_ck_agg e_AV_ck_tup e_AV_ck_opq e_AV_cells_junk e_AV_cells_pad e_AV_cells_bool e_AV_cells_int e_AV_cells_str e_AV_cells_nilp e_AV_cells_ref e_AV_cells_fref e_AV_cells_nils e_AV_cells_sl e_AV_cells_imm e_AV_cells_nilf e_AV_cells_fn e_AV_cells_agg e_AV_cells_tup e_AV_cells_opq e_lenOp_junk e_lenOp_pad e_lenOp_bool e_lenOp_int e_lenOp_str e_lenOp_nilp e_lenOp_ref e_lenOp_fref e_lenOp_nils e_lenOp_sl e_lenOp_imm e_lenOp_nilf e_lenOp_fn e_lenOp_agg e_lenOp_tup e_lenOp_opq e_isNil_junk e_isNil_pad e_isNil_bool e_isNil_int e_isNil_str e_isNil_nilp e_isNil_ref e_isNil_fref e_isNil_nils e_isNil_sl e_isNil_imm e_isNil_nilf e_isNil_fn e_isNil_agg e_isNil_tup e_isNil_opq e_snapC1_junk e_snapC1_pad e_snapC1_bool e_snapC1_int e_snapC1_str e_snapC1_nilp e_snapC1_ref e_snapC1_fref e_snapC1_nils e_snapC1_sl e_snapC1_imm e_snapC1_nilf e_snapC1_fn e_snapC1_agg e_snapC1_tup e_snapC1_opq e_snap1_junk e_snap1_pad e_snap1_bool e_snap1_int e_snap1_str e_snap1_nilp e_snap1_ref e_snap1_fref e_snap1_nils e_snap1_sl e_snap1_imm e_snap1_nilf e_snap1_fn e_snap1_agg e_snap1_tup e_snap1_opq e_snapV_junk e_snapV_pad e_snapV_bool e_snapV_int e_snapV_str e_snapV_nilp e_snapV_ref e_snapV_fref e_snapV_nils e_snapV_sl e_snapV_imm e_snapV_nilf e_snapV_fn e_snapV_agg e_snapV_tup e_snapV_opq e_snapM_junk e_snapM_pad e_snapM_bool e_snapM_int e_snapM_str e_snapM_nilp e_snapM_ref e_snapM_fref e_snapM_nils e_snapM_sl e_snapM_imm e_snapM_nilf e_snapM_fn e_snapM_agg e_snapM_tup e_snapM_opq e_snapM_nil e_src_nils e_src_imm e_src_sl e_src_str e_ia_1 e_ia_2 e_ia_3 e_ia_4 e_ix_1 e_ix_2 e_so_1 e_so_2 e_so_3
end Go.Proofs.Ytlgimmafejbmgaa.AM
