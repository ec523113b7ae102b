/- The abstract machine: values, states, what one operation does (definitions only). -/
import Derived.Calls
import Derived.Orders
import Derived.Below
namespace Go.Proofs.Ytlgimmafejbmgaa.AM
set_option linter.all false
set_option autoImplicit true
set_option relaxedAutoImplicit true
open Go

/-- Opaque data: what a program's number stands for. -/
inductive Pay where
  | nat (n : Nat)
  | rnat (n : Nat)
  | whole (z : Int)
  | frac (q : Rat)
  | vec (x y z : Rat)

inductive AV where
  | junk | pad
  | bool (b : Bool)
  | int (k : IntKind) (n : Int)
  | str (s : ByteArray)
  | nilp
  | ref (r off : Nat)
  | fref (cs : List AV)
  | nils
  | sl (r off n sz : Nat)
  | imm (n : Nat) (cs : List AV)
  | nilf
  | fn (f : Nat) (fs cs : List AV)
  | agg (cs : List AV)
  | tup (vs : List AV)
  | opq (x : Pay)

inductive AObj where
  | unused | gone
  | live (cs : List AV)
  | ro (cs : List AV)

def Pay.width : Pay → Nat
  | .nat _ => 2
  | .rnat _ => 1
  | .whole _ => 3
  | .frac _ => 5
  | .vec _ _ _ => 15

/-- The digits of a number to a base, the lowest first. -/
def digs (b n : Nat) : List Nat :=
  if _h : n = 0 ∨ b < 2 then [] else n % b :: digs b (n / b)
  termination_by n
  decreasing_by exact Nat.div_lt_self (by omega) (by omega)

def Pay.open : Pay → List AV
  | .nat n => if n < 18446744073709551616 then [.int .u64 n, .nils] else [.int .u64 0, .imm (digs 18446744073709551616 n).length ((digs 18446744073709551616 n).map fun d : Nat => AV.int .u64 (d : Int))]
  | .rnat n => [.imm (digs 65536 n).length ((digs 65536 n).map fun d : Nat => AV.int .u32 (d : Int))]
  | .whole z => [.bool (decide (z < 0)), .opq (.nat z.natAbs), .pad]
  | .frac q => [.opq (.whole q.num), .pad, .pad, .opq (.nat (q.den - 1)), .pad]
  | .vec x y z => [.opq (.frac x), .pad, .pad, .pad, .pad, .opq (.frac y), .pad, .pad, .pad, .pad, .opq (.frac z), .pad, .pad, .pad, .pad]

/-- Slots, memory, how many slots. -/
structure St where
  t : Nat → AV
  m : Nat → AObj
  n : Nat

def upd {β : Type} (f : Nat → β) (i : Nat) (v : β) : Nat → β := fun j => if j = i then v else f j

def St.put (s : St) (dst : Option Nat) (v : AV) : St :=
  { s with t := match dst with
    | some d => upd s.t d v
    | none => s.t }

/-- Kinds of types, as far as operations look at them. -/
inductive TK where
  | struct (fs : List (Nat × Nat))
  | array (n elem : Nat)
  | slice (elem : Nat)
  | string
  | int (k : IntKind)
  | bool
  | func
  | other

structure TyD where
  k : TK
  sz : Nat
  bytes : Nat
  zero : List AV

def TyD.row (d : TyD) : Bool :=
  match d.k with
  | .struct _ | .array _ _ => true
  | _ => false

def AV.cells : AV → List AV
  | .agg cs => cs
  | v => [v]

def ofV : Value → AV
  | .bool b => .bool b
  | .int k n => .int k n
  | .string s => .str s
  | .pointer none => .nilp
  | .slice none 0 0 => .nils
  | .nilFunc => .nilf
  | _ => .junk

def aev (s : St) : Operand → AV
  | .tmp i => s.t i
  | .const v => ofV v
  | .func f => .fn f [] []
  | .global _ => .junk

/-- Does a cell begin here (no padding)? -/
def AV.head : List AV → Bool
  | .pad :: _ => false
  | _ => true

/-- One cell, of its own. -/
def AV.one : AV → Bool
  | .junk | .pad | .agg _ | .tup _ => false
  | .opq x => x.width == 1
  | _ => true

/-- Not a part of opaque data. -/
def AV.plain : AV → Bool
  | .pad => false
  | .opq x => x.width == 1
  | _ => true

/-- May stand in a cell. -/
def AV.ck : AV → Bool
  | .opq _ | .pad => true
  | v => v.one

mutual
/-- Of the call's own memory it points to no objects but these. -/
def AV.only (k : Nat → Bool) : AV → Bool
  | .ref r _ | .sl r _ _ _ => k r
  | .fref cs => onlyL k cs
  | .imm _ cs => onlyL k cs
  | .fn _ fs cs => onlyL k fs && onlyL k cs
  | .agg cs => onlyL k cs
  | .tup cs => onlyL k cs
  | _ => true
def onlyL (k : Nat → Bool) : List AV → Bool
  | [] => true
  | a :: as => a.only k && onlyL k as
end

/-- It points to none. -/
def groundL (l : List AV) : Bool := onlyL (fun _ => false) l

/-- May n cells be cut out from off on? -/
def Cut (cs : List AV) (off n : Nat) : Prop :=
  off + n ≤ cs.length ∧ AV.head (cs.drop off) = true ∧ AV.head (cs.drop (off + n)) = true

/-- A value of a type, out of the cells from off on; under which condition. -/
def rd (d : TyD) (cs : List AV) (off : Nat) : Prop × AV :=
  if d.row then (Cut cs off d.sz, .agg ((cs.drop off).take d.sz))
  else (off < cs.length ∧ (cs.getD off .junk).one = true, cs.getD off .junk)

def objCells : AObj → Option (List AV)
  | .live cs => some cs
  | .ro cs => some cs
  | _ => none

def alive (m : Nat → AObj) (r : Nat) : Prop := (objCells (m r)).isSome = true

/-- What a pointer points to. -/
def peek (m : Nat → AObj) : AV → Option (List AV × Nat)
  | .ref r off => (objCells (m r)).map fun cs => (cs, off)
  | .fref cs => some (cs, 0)
  | _ => none

def intOp (op : BinOp) (k : IntKind) (x y : Int) : Option (Prop × AV) :=
  match op with
  | .add => some (True, .int k (k.wrap (x + y)))
  | .sub => some (True, .int k (k.wrap (x - y)))
  | .mul => some (True, .int k (k.wrap (x * y)))
  | .quo => some (y ≠ 0, .int k (k.wrap (x.tdiv y)))
  | .rem => some (y ≠ 0, .int k (x.tmod y))
  | .and => some (True, .int k (k.wrap (BitVec.ofInt k.bits x &&& BitVec.ofInt k.bits y).toNat))
  | .or => some (True, .int k (k.wrap (BitVec.ofInt k.bits x ||| BitVec.ofInt k.bits y).toNat))
  | .xor => some (True, .int k (k.wrap (BitVec.ofInt k.bits x ^^^ BitVec.ofInt k.bits y).toNat))
  | .eql => some (True, .bool (x == y))
  | .neq => some (True, .bool (x != y))
  | .lss => some (True, .bool (decide (x < y)))
  | .leq => some (True, .bool (decide (x ≤ y)))
  | .gtr => some (True, .bool (decide (x > y)))
  | .geq => some (True, .bool (decide (x ≥ y)))
  | _ => none

def shiftOp (op : BinOp) (k : IntKind) (x y : Int) : Option (Prop × AV) :=
  match op with
  | .shl => some (0 ≤ y, .int k (k.wrap (x * 2 ^ (min y.toNat k.bits))))
  | .shr => some (0 ≤ y, .int k (x.fdiv (2 ^ (min y.toNat k.bits))))
  | _ => none

def strOp (op : BinOp) (x y : ByteArray) : Option (Prop × AV) :=
  match op with
  | .add => some (x.size + y.size ≤ 9223372036854775807, .str (x ++ y))
  | .eql => some (True, .bool (x.toList == y.toList))
  | .neq => some (True, .bool (!(x.toList == y.toList)))
  | _ => none

def isNil : AV → Option (Prop × Bool)
  | .nils => some (True, true)
  | .imm n _ => some (n ≠ 0, false)
  | _ => none

def binOp (td : Option TyD) (op : BinOp) (x y : AV) : Option (Prop × AV) :=
  match x, y with
  | .int k a, .int k' b =>
    match op with
    | .shl | .shr => shiftOp op k a b
    | _ => if k = k' then intOp op k a b else none
  | .str a, .str b => strOp op a b
  | .bool a, .bool b =>
    match td.map TyD.k, op with
    | some .bool, .eql => some (True, .bool (a == b))
    | some .bool, .neq => some (True, .bool (!(a == b)))
    | _, _ => none
  | x, .nils =>
    match td.map TyD.k, op with
    | some (.slice _), .eql => (isNil x).map fun (p, b) => (p, .bool b)
    | some (.slice _), .neq => (isNil x).map fun (p, b) => (p, .bool (!b))
    | _, _ => none
  | _, _ => none

def unOp (op : UnOp) (x : AV) : Option (Prop × AV) :=
  match op, x with
  | .neg, .int k n => some (True, .int k (k.wrap (0 - n)))
  | .not, .bool b => some (True, .bool !b)
  | _, _ => none

/-- New cells from off on. -/
def over (cs : List AV) (off : Nat) (new : List AV) : List AV := cs.take off ++ new ++ cs.drop (off + new.length)

/-- One cell, or some, written. -/
def wr (d : TyD) (cs : List AV) (off : Nat) (v : AV) : Prop × List AV :=
  if d.row then (Cut cs off d.sz ∧ v.cells.length = d.sz ∧ v.cells.all AV.ck = true, over cs off v.cells)
  else (off < cs.length ∧ (cs.getD off .junk).plain = true ∧ v.one = true, cs.set off v)

/-- Parts laid into cells. -/
def fill (place : Nat → Option (Nat × TyD)) : Prop × List AV → List (Nat × AV) → Option (Prop × List AV)
  | a, [] => some a
  | (p, cs), (i, v) :: rest =>
    match place i with
    | none => none
    | some (off, d) => match wr d cs off v with
      | (q, cs') => fill place (p ∧ q, cs') rest

section
variable (T : Nat → Option TyD)

def place (d : TyD) : Nat → Option (Nat × TyD) := fun i =>
  match d.k with
  | .struct fs => (fs[i]?).bind fun (off, t) => (T t).map fun e => (off, e)
  | .array n e => if i < n then (T e).map fun e => (i * e.sz, e) else none
  | _ => none

def elemOk (d : TyD) : Bool :=
  match d.k with
  | .array _ e => (T e).isSome
  | _ => true

def fieldOf (s : Nat) (f : Nat) : Option (Nat × TyD) :=
  (T s).bind fun d => match d.k with
  | .struct fs => (fs[f]?).bind fun (off, t) => (T t).map fun e => (off, e)
  | _ => none

def index (x : AV) (d : TyD) (i : Int) : Option (Prop × AV) :=
  match x, d.k with
  | .agg cs, .array n e => (T e).map fun ed => match rd ed cs (i.toNat * ed.sz) with
    | (p, v) => ((0 ≤ i ∧ i < n) ∧ p, v)
  | .str s, .string => some (0 ≤ i ∧ i < s.size, .int .u8 (s.get! i.toNat).toNat)
  | _, _ => none

def indexAddr (m : Nat → AObj) (x : AV) (d : TyD) (i : Int) : Option (Prop × AV) :=
  match x, d.k with
  | .ref r off, .array n e => (T e).map fun ed => ((0 ≤ i ∧ i < n) ∧ alive m r, .ref r (off + i.toNat * ed.sz))
  | .fref cs, .array n e => (T e).map fun ed => ((0 ≤ i ∧ i < n) ∧ i.toNat * ed.sz ≤ cs.length ∧ AV.head (cs.drop (i.toNat * ed.sz)) = true, .fref (cs.drop (i.toNat * ed.sz)))
  | .sl r off n sz, .slice e => (T e).map fun ed => ((0 ≤ i ∧ i < n) ∧ ed.sz = sz ∧ alive m r, .ref r (off + i.toNat * sz))
  | .imm n cs, .slice e => (T e).map fun ed => ((0 ≤ i ∧ i < n) ∧ i.toNat * ed.sz ≤ cs.length ∧ AV.head (cs.drop (i.toNat * ed.sz)) = true, .fref (cs.drop (i.toNat * ed.sz)))
  | _, _ => none

def bound (d : Int) : Option AV → Option Int
  | some (.int _ i) => some i
  | none => some d
  | _ => none

def sliceOp (m : Nat → AObj) (x : AV) (d : TyD) (lo hi mx : Option AV) : Option (Prop × AV) :=
  match x, d.k with
  | .str s, .string => (bound 0 lo).bind fun l => (bound s.size hi).map fun h => (mx.isNone = true ∧ 0 ≤ l ∧ l ≤ h ∧ h ≤ s.size, .str (s.extract l.toNat h.toNat))
  | .sl r off n sz, .slice e => (T e).bind fun d' => (bound 0 lo).bind fun l => (bound n hi).bind fun h => (bound h mx).map fun q => ((0 ≤ l ∧ (l = 0 ∨ l < h) ∧ l ≤ h ∧ h ≤ n ∧ q = h) ∧ alive m r ∧ d'.sz = sz, .sl r (off + l.toNat * sz) (h - l).toNat sz)
  | .imm n cs, .slice e => (T e).bind fun ed => (bound 0 lo).bind fun l => (bound n hi).bind fun h => (bound h mx).map fun q =>
    ((0 ≤ l ∧ l ≤ h ∧ h ≤ n ∧ q = h ∧ n * ed.sz = cs.length) ∧ Cut cs (l.toNat * ed.sz) ((h - l).toNat * ed.sz), .imm (h - l).toNat ((cs.drop (l.toNat * ed.sz)).take ((h - l).toNat * ed.sz)))
  | _, _ => none

def lenP : Pay → Option Nat
  | .rnat n => some (digs 65536 n).length
  | _ => none

def lenOp (m : Nat → AObj) : AV → Option (Prop × Nat)
  | .sl r _ n _ => some (alive m r, n)
  | .imm n _ => some (True, n)
  | .nils => some (True, 0)
  | .opq x => (lenP x).map fun n => (True, n)
  | _ => none

def convert (src dst : TyD) (x : AV) : Option (Prop × AV) :=
  match dst.k, x with
  | .int k, .int _ n => some (True, .int k (k.wrap n))
  | .string, .str s => match src.k with | .string => some (True, .str s) | _ => none
  | _, _ => none

/-- Cells as bytes. -/
def isB : AV → Bool
  | .int .u8 _ => true
  | _ => false
def toB : AV → UInt8
  | .int _ n => UInt8.ofNat n.toNat
  | _ => 0
def bytesS (cs : List AV) : ByteArray := ⟨(cs.map toB).toArray⟩
def isU8 : Option TyD → Bool
  | some d => match d.k with | .int .u8 => true | _ => false
  | none => false
def strM (T : Nat → Option TyD) (m : Nat → AObj) (src dst : TyD) : AV → Option (Prop × AV)
  | .sl r off n k => match src.k, dst.k with
    | .slice e, .string => if isU8 (T e) then (objCells (m r)).map fun cs => (Cut cs off n ∧ k = 1 ∧ ((cs.drop off).take n).all isB = true, .str (bytesS ((cs.drop off).take n))) else none
    | _, _ => none
  | x => convert src dst x

/-- What an operation yields that changes no memory, and under which condition. -/
def pev (s : St) (o : Oper) : Option (Prop × AV) :=
  match o.op with
  | .move x | .assign x => some (True, aev s x)
  | .pick c a b => match aev s c with | .bool c => some (True, if c then aev s a else aev s b) | _ => none
  | .build t ps => (T t).bind fun d => (fill (place T d) (True, d.zero) (ps.toList.map fun x => (x.1, aev s x.2))).map fun (p, cs) => (p ∧ d.row = true ∧ elemOk T d = true, .agg cs)
  | .load t a => (T t).bind fun d => (peek s.m (aev s a)).map fun (cs, off) => rd d cs off
  | .nilCheck x => match aev s x with | .fn f a b => some (True, .fn f a b) | .ref r o => some (alive s.m r, .ref r o) | .fref cs => some (True, .fref cs) | _ => none
  | .binOp op t x y _ => binOp (T t) op (aev s x) (aev s y)
  | .unOp op _ x => unOp op (aev s x)
  | .convert a b x => (T a).bind fun a => (T b).bind fun b => strM T s.m a b (aev s x)
  | .makeFunc (.func f) fs cs => some (True, .fn f (fs.toList.map (aev s)) (cs.toList.map (aev s)))
  | .slice t x lo hi mx => if mx.isSome && hi.isNone then none else (T t).bind fun d => sliceOp T s.m (aev s x) d (lo.map (aev s)) (hi.map (aev s)) (mx.map (aev s))
  | .fieldAddr t x f => (fieldOf T t f).bind fun (off, _) => match aev s x with
    | .ref r o => some (alive s.m r, .ref r (o + off))
    | .fref cs => some (off ≤ cs.length ∧ AV.head (cs.drop off) = true, .fref (cs.drop off))
    | _ => none
  | .field t x f => (fieldOf T t f).bind fun (off, d) => match aev s x with
    | .agg cs => some (rd d cs off)
    | _ => none
  | .indexAddr t x i => (T t).bind fun d => match aev s i with | .int _ i => indexAddr T s.m (aev s x) d i | _ => none
  | .index t x i => (T t).bind fun d => match aev s i with | .int _ i => index T (aev s x) d i | _ => none
  | .extract x i => match aev s x with | .tup vs => (vs[i]?).map fun v => (v.plain = true, v) | _ => none
  | .call c => match c.callee, c.args.toList with
    | .builtin .len, [x] => match c.argTypes.toList with
      | [t] => (T t).bind fun d => match d.k with
        | .string => match aev s x with
          | .str z => some (True, .int .i64 z.size)
          | _ => none
        | .slice _ => (lenOp s.m (aev s x)).map fun (p, n) => (p, .int .i64 n)
        | _ => none
      | _ => none
    | _, _ => none
  | _ => none

/-- What an operation makes: the new object's cells, and what stands for it. -/
def aal (s : St) (o : Oper) : Option (Prop × List AV × (Nat → AV)) :=
  match o.op with
  | .alloc t => (T t).map fun d => (True, d.zero, fun r => .ref r 0)
  | .box t x => (T t).map fun d => ((aev s x).cells.length = d.sz ∧ (aev s x).cells.all AV.ck = true, (aev s x).cells, fun r => .ref r 0)
  | .buildSlice t n ps => (T t).bind fun d => match d.k with
    | .slice e => (T e).bind fun ed =>
      (fill (fun i => if i < n then some (i * ed.sz, ed) else none) (True, (List.replicate n ed.zero).flatten) (ps.toList.map fun x => (x.1, aev s x.2))).map fun (p, cs) => (p ∧ n * ed.sz ≤ 16777216, cs, fun r => .sl r 0 n ed.sz)
    | _ => none
  | .makeSlice t l c => (T t).bind fun d => match d.k, aev s l, aev s c with
    | .slice e, .int .i64 l, .int .i64 c => (T e).map fun ed => (l = c ∧ 0 ≤ l ∧ l ≤ 1099511627776 ∧ ed.bytes ≤ 128, (List.replicate l.toNat ed.zero).flatten, fun r => .sl r 0 l.toNat ed.sz)
    | _, _, _ => none
  | _ => none

/-- What an operation writes: where, the object's cells behind it. -/
def ast (s : St) (o : Oper) : Option (Prop × Nat × List AV) :=
  match o.op with
  | .store t a x => (T t).bind fun d => match aev s a with
    | .ref r off => match s.m r with
      | .live cs => match wr d cs off (aev s x) with | (p, cs) => some (p, r, cs)
      | _ => none
    | _ => none
  | _ => none

/-- What an append appends to: (condition, elements there, cells there, the object that goes). -/
def apDst (s : St) (sz : Nat) : AV → Option (Prop × Nat × List AV × Option Nat)
  | .nils => some (True, 0, [], none)
  | .sl r off n k => match s.m r with
    | .live cs => some (off = 0 ∧ k = sz ∧ cs.length = n * sz, n, cs, some r)
    | _ => none
  | _ => none

/-- The bytes of a string as cells. -/
def strCells (s : ByteArray) : List AV := s.data.toList.map fun b => .int .u8 b.toNat

/-- A slice's (or a string's) elements: (condition, how many, the cells). -/
def apSrc (s : St) (sz : Nat) (gone : Option Nat) (k : TK) (y : AV) : Option (Prop × Nat × List AV) :=
  match k, y with
  | .slice _, .nils => some (True, 0, [])
  | .slice _, .imm n cs => some (cs.length = n * sz, n, cs)
  | .slice _, .sl r off n k => (objCells (s.m r)).map fun cs => (Cut cs off (n * sz) ∧ k = sz ∧ gone ≠ some r, n, (cs.drop off).take (n * sz))
  | .string, .str x => some (sz = 1, x.size, strCells x)
  | _, _ => none

def AV.isNils : AV → Bool
  | .nils => true
  | _ => false

def goneM (m : Nat → AObj) : Option Nat → (Nat → AObj)
  | some r => upd m r .gone
  | none => m

def aap (nx : Nat) (s : St) (o : Oper) : Option (Prop × St) :=
  match o.op with
  | .call c => match c.args.toList, c.argTypes.toList with
    | [x, y], [t, t'] => (T t).bind fun d => match d.k with
      | .slice e => (T e).bind fun ed => (T t').bind fun d' =>
        if (aev s x).isNils && (aev s y).isNils then (match d'.k with | .slice _ => some (True, s.put o.dst .nils) | _ => none) else
        (apDst s ed.sz (aev s x)).bind fun (p, n, olds, g) => (apSrc s ed.sz g d'.k (aev s y)).map fun (q, k, news) =>
          (p ∧ q ∧ (g = none → 0 < k) ∧ s.m nx = .unused ∧ (n + k) * ed.bytes ≤ 1099511627776 ∧ 1 ≤ ed.bytes ∧ olds.all AV.ck = true ∧ news.all AV.ck = true,
            { (s.put o.dst (.sl nx 0 (n + k) ed.sz)) with m := upd (goneM s.m g) nx (.live (olds ++ news)) })
      | _ => none
    | _, _ => none
  | _ => none

def acp (s : St) (o : Oper) : Option (Prop × St) :=
  match o.op with
  | .call c => match c.args.toList, c.argTypes.toList with
    | [x, y], [t, t'] => (T t).bind fun d => match d.k with
      | .slice e => (T e).bind fun ed => (T t').bind fun d' => match aev s x with
        | .sl r off n k => match s.m r with
          | .live cs => (apSrc s ed.sz (some r) d'.k (aev s y)).map fun (q, l, news) =>
            (q ∧ k = ed.sz ∧ l ≤ n ∧ Cut cs off (l * k) ∧ news.all AV.ck = true, { (s.put o.dst (.int .i64 l)) with m := upd s.m r (.live (over cs off news)) })
          | _ => none
        | _ => none
      | _ => none
    | _, _ => none
  | _ => none
end

structure Env where
  T : Nat → Option TyD
  S : Nat → List AV → Option (Prop × AV)

/-- A slice of the call's own is handed out to read: as it is now. -/
def snap1 (m : Nat → AObj) : AV → AV
  | .sl r off n sz => match objCells (m r) with
    | some cs => .imm n ((cs.drop off).take (n * sz))
    | none => .junk
  | v => v

def snapV (m : Nat → AObj) : AV → AV
  | .agg cs => .agg (cs.map (snap1 m))
  | v => snap1 m v

def snapC1 (m : Nat → AObj) : AV → Prop
  | .sl r off n sz => match objCells (m r) with
    | some cs => Cut cs off (n * sz)
    | none => False
  | _ => True

def snapC (m : Nat → AObj) : List AV → Prop
  | [] => True
  | a :: as => snapC1 m a ∧ snapC m as

def AObj.freeze : AObj → AObj
  | .live cs => .ro cs
  | o => o

/-- .. and is not written from then on. -/
def snapM : (Nat → AObj) → List AV → (Nat → AObj)
  | m, [] => m
  | m, .sl r _ _ _ :: as => snapM (upd m r (m r).freeze) as
  | m, _ :: as => snapM m as

inductive Kd where | pure | alloc | store | call | append | copy
def kind : Op → Kd
  | .alloc _ | .box _ _ | .buildSlice _ _ _ | .makeSlice _ _ _ => .alloc
  | .store _ _ _ => .store
  | .call { callee := .value _, .. } => .call
  | .call { callee := .builtin .append, .. } => .append
  | .call { callee := .builtin .copy, .. } => .copy
  | _ => .pure

/-- The function that is called, with all that it is handed. -/
def callee (s : St) (o : Oper) : Option (Nat × List AV) :=
  match o.op with
  | .call { callee := .value f, args := args, .. } => match aev s f with
    | .fn f fs cs => some (f, fs ++ args.toList.map (aev s) ++ cs)
    | _ => none
  | _ => none

/-- One operation; nx: a number for a new object. -/
def aStep (E : Env) (nx : Nat) (s : St) (o : Oper) : Option (Prop × St) :=
  match kind o.op with
  | .pure => (pev E.T s o).map fun (p, v) => (p, s.put o.dst v)
  | .alloc => (aal E.T s o).map fun (p, cs, f) => (p ∧ s.m nx = .unused ∧ cs.all AV.ck = true, { (s.put o.dst (f nx)) with m := upd s.m nx (.live cs) })
  | .store => (ast E.T s o).map fun (p, r, cs) => (p, { (s.put o.dst (.tup [])) with m := upd s.m r (.live cs) })
  | .append => aap E.T nx s o
  | .copy => acp E.T s o
  | .call => (callee s o).bind fun (f, args) => (E.S f (args.map (snapV s.m))).map fun (p, r) =>
    (p ∧ snapC s.m (args.flatMap AV.cells), { (s.put o.dst r) with m := snapM s.m (args.flatMap AV.cells) })

def Kd.late : Kd → Bool
  | .append | .copy => true
  | _ => false

/-- What an operation looks at in memory. -/
def looks : Op → Bool
  | .load _ _ | .nilCheck _ | .slice _ _ _ _ _ | .fieldAddr _ _ _ | .convert _ _ _ | .call _ => true
  | _ => false

def top : AV → Option Nat
  | .ref r _ => some r
  | .sl r _ _ _ => some r
  | _ => none

/-- The objects that an operation may look at by way of a value. -/
def ids : AV → List Nat
  | .fn _ fs cs => ((fs ++ cs).flatMap AV.cells).filterMap top
  | v => v.cells.filterMap top

def reads (o : Oper) (s : St) : List Nat := if looks o.op then o.op.operands.toList.flatMap (fun z => ids (aev s z)) else []

/-- A store may come before what stands before it in the text, if that does not look at what is written. -/
def lateOk (acc : List (Nat × List Nat)) (y : Oper) (s : St) : Bool :=
  match y.op with
  | .store _ a _ => match aev s a with
    | .ref r _ => acc.all fun p => !p.2.contains r || y.after.any (fun e => Region.binds .any e && e.on == p.1)
    | _ => true
  | _ => true

def isSt (o : Oper) : Bool :=
  match o.op with
  | .store _ _ _ => true
  | _ => false

/-- May two operations be done in either order? -/
def Kd.writes : Kd → Bool
  | .store | .append | .copy => true
  | _ => false

def indep (ops : Array Oper) (x y : Oper) : Bool := Oper.apart ops x y && !(kind x.op).writes && !(kind y.op).late

/-- Each two that may not are done in the text's order. -/
def drawOkFrom (ops : Array Oper) : Nat → List Oper → Bool
  | _, [] => true
  | i, o :: rest => rest.all (fun o' => indep ops o o' || o'.after.any (fun e => Region.binds .any e && e.on == i)) && o.after.all (fun e => !Region.binds .any e || e.on < i) && drawOkFrom ops (i + 1) rest

def drawOk (ops : Array Oper) : Bool := drawOkFrom ops 0 ops.toList

def dstOk (n : Nat) (o : Oper) : Bool :=
  match o.dst with
  | some d => d < n
  | none => true

end Go.Proofs.Ytlgimmafejbmgaa.AM
