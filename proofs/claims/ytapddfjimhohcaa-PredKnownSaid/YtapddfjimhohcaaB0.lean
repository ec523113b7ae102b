/- The abstract machine: values, states, what one operation does (definitions only). -/
import Derived.Calls
import Derived.Orders
import Derived.Below
import Derived.Deep.MidRow
import Derived.Deep.AppendSrc
import Derived.Laws.Cells
import Derived.DataBytes
import Derived.Laws.StructEq
import Derived.Laws.Small
import Derived.Lib.LazyBuf
import Derived.Laws.Cover3
import Derived.Lib.SliceRun
import Derived.Laws.BytesString
namespace Go.Proofs.Ytapddfjimhohcaa.AM
set_option linter.all false
set_option autoImplicit true
set_option relaxedAutoImplicit true
open Go
inductive Pay where
 | nat (n:Nat)
 | rnat (n:Nat)
 | whole (z:Int)
 | frac (q:Rat)
 | vec (x y z:Rat)
 | rint (z:Int)
 | rfrac (q:Rat)
inductive AV where
 | junk|pad
 | bool (b:Bool)
 | int (k:IntKind) (n:Int)
 | str (s:ByteArray)
 | nilp
 | ref (r off:Nat)
 | fref (cs:List AV)
 | nils
 | sl (r off n sz:Nat)
 | imm (n:Nat) (cs:List AV)
 | nilf
 | fn (f:Nat) (fs cs:List AV)
 | agg (cs:List AV)
 | tup (vs:List AV)
 | opq (x:Pay)
inductive AObj where
 | unused|gone
 | live (cs:List AV)
 | ro (cs:List AV)
def Pay.width:Pay→Nat
 | .nat _=>2
 | .rnat _=>1
 | .whole _=>3
 | .frac _=>5
 | .vec _ _ _=>15
 | .rint _=>2
 | .rfrac _=>3
def digs (b n:Nat):List Nat :=
 if _h:n=0∨b<2 then [] else n % b::digs b (n / b)
 termination_by n
 decreasing_by exact Nat.div_lt_self (by omega) (by omega)
def Pay.open:Pay→List AV
 | .nat n=>if n<18446744073709551616 then [.int .u64 n,.nils] else [.int .u64 0,.imm (digs 18446744073709551616 n).length ((digs 18446744073709551616 n).map fun d:Nat=>AV.int .u64 (d:Int))]
 | .rnat n=>[.imm (digs 65536 n).length ((digs 65536 n).map fun d:Nat=>AV.int .u32 (d:Int))]
 | .whole z=>[.bool (decide (z<0)),.opq (.nat z.natAbs),.pad]
 | .frac q=>[.opq (.whole q.num),.pad,.pad,.opq (.nat (q.den-1)),.pad]
 | .vec x y z=>[.opq (.frac x),.pad,.pad,.pad,.pad,.opq (.frac y),.pad,.pad,.pad,.pad,.opq (.frac z),.pad,.pad,.pad,.pad]
 | .rint z=>[.bool (decide (z<0)),.opq (.rnat z.natAbs)]
 | .rfrac q=>[.bool (decide (q.num<0)),.opq (.rnat q.num.natAbs),.opq (.rnat q.den)]
structure St where
 t:Nat→AV
 m:Nat→AObj
 n:Nat
def upd {β:Type} (f:Nat→β) (i:Nat) (v:β):Nat→β:=fun j=>if j=i then v else f j
def St.put (s:St) (dst:Option Nat) (v:AV):St :=
 { s with t:=match dst with
   | some d=>upd s.t d v
   | none=>s.t }
inductive TK where
 | struct (fs:List (Nat × Nat))
 | array (n elem:Nat)
 | slice (elem:Nat)
 | string
 | int (k:IntKind)
 | bool
 | func
 | other
structure TyD where
 k:TK
 sz:Nat
 bytes:Nat
 zero:List AV
def TyD.row (d:TyD):Bool :=
 match d.k with
 | .struct _ | .array _ _=>true
 | _=>false
def AV.cells:AV→List AV
 | .agg cs=>cs
 | v=>[v]
def ofV:Value→AV
 | .bool b=>.bool b
 | .int k n=>.int k n
 | .string s=>.str s
 | .pointer none=>.nilp
 | .slice none 0 0=>.nils
 | .nilFunc=>.nilf
 | _=>.junk
def aev (s:St):Operand→AV
 | .tmp i=>s.t i
 | .const v=>ofV v
 | .func f=>.fn f [] []
 | .global _=>.junk
def AV.head:List AV→Bool
 | .pad::_=>false
 | _=>true
def AV.one:AV→Bool
 | .junk | .pad | .agg _ | .tup _=>false
 | .opq x=>x.width == 1
 | _=>true
def AV.plain:AV→Bool
 | .pad=>false
 | .opq x=>x.width == 1
 | _=>true
def AV.ck:AV→Bool
 | .opq _ | .pad=>true
 | v=>v.one
mutual
def AV.only (k:Nat→Bool):AV→Bool
 | .ref r _ | .sl r _ _ _=>k r
 | .fref cs=>onlyL k cs
 | .imm _ cs=>onlyL k cs
 | .fn _ fs cs=>onlyL k fs && onlyL k cs
 | .agg cs=>onlyL k cs
 | .tup cs=>onlyL k cs
 | _=>true
def onlyL (k:Nat→Bool):List AV→Bool
 | []=>true
 | a::az=>a.only k && onlyL k az
end
def groundL (l:List AV):Bool:=onlyL (fun _=>false) l
def Cut (cs:List AV) (off n:Nat):Prop :=
 off+n≤cs.length∧AV.head (cs.drop off)=true∧AV.head (cs.drop (off+n))=true
def rd (d:TyD) (cs:List AV) (off:Nat):Prop × AV :=
 if d.row then (Cut cs off d.sz,.agg ((cs.drop off).take d.sz))
 else (off<cs.length∧(cs.getD off .junk).one=true,cs.getD off .junk)
def objCells:AObj→Option (List AV)
 | .live cs=>some cs
 | .ro cs=>some cs
 | _=>none
def alive (m:Nat→AObj) (r:Nat):Prop:=(objCells (m r)).isSome=true
def peek (m:Nat→AObj):AV→Option (List AV × Nat)
 | .ref r off=>(objCells (m r)).map fun cs=>(cs,off)
 | .fref cs=>some (cs,0)
 | _=>none
def intOp (op:BinOp) (k:IntKind) (x y:Int):Option (Prop × AV) :=
 match op with
 | .add=>some (True,.int k (k.wrap (x+y)))
 | .sub=>some (True,.int k (k.wrap (x-y)))
 | .mul=>some (True,.int k (k.wrap (x*y)))
 | .quo=>some (y ≠ 0,.int k (k.wrap (x.tdiv y)))
 | .rem=>some (y ≠ 0,.int k (x.tmod y))
 | .and=>some (True,.int k (k.wrap (BitVec.ofInt k.bits x &&& BitVec.ofInt k.bits y).toNat))
 | .or=>some (True,.int k (k.wrap (BitVec.ofInt k.bits x ||| BitVec.ofInt k.bits y).toNat))
 | .xor=>some (True,.int k (k.wrap (BitVec.ofInt k.bits x ^^^ BitVec.ofInt k.bits y).toNat))
 | .eql=>some (True,.bool (x == y))
 | .neq=>some (True,.bool (x != y))
 | .lss=>some (True,.bool (decide (x<y)))
 | .leq=>some (True,.bool (decide (x≤y)))
 | .gtr=>some (True,.bool (decide (x > y)))
 | .geq=>some (True,.bool (decide (x ≥ y)))
 | _=>none
def shiftOp (op:BinOp) (k:IntKind) (x y:Int):Option (Prop × AV) :=
 match op with
 | .shl=>some (0≤y,.int k (k.wrap (x*2^(min y.toNat k.bits))))
 | .shr=>some (0≤y,.int k (x.fdiv (2^(min y.toNat k.bits))))
 | _=>none
def strOp (op:BinOp) (x y:ByteArray):Option (Prop × AV) :=
 match op with
 | .add=>some (x.size+y.size≤9223372036854775807,.str (x++y))
 | .eql=>some (True,.bool (x.toList == y.toList))
 | .neq=>some (True,.bool (!(x.toList == y.toList)))
 | _=>none
def isNil:AV→Option (Prop × Bool)
 | .nils=>some (True,true)
 | .imm n _=>some (n ≠ 0,false)
 | _=>none
def isStrs:List AV→Bool
 | []=>true
 | .str _::t=>isStrs t
 | _=>false
def TyD.strs (d:TyD):Bool :=
 match d.k with
 | .struct fs=>isStrs d.zero && fs.length == d.zero.length
 | _=>false
def eqStrs:List AV→List AV→Option Bool
 | [],[]=>some true
 | .str a::x,.str b::y=>(eqStrs x y).map fun r=>(a.toList == b.toList) && r
 | _,_=>none
def eqAgg (d:TyD) (op:BinOp) (xs ys:List AV):Option (Prop × AV) :=
 match d.strs,op with
 | true,.eql=>(eqStrs xs ys).map fun b=>(xs.length=d.zero.length,.bool b)
 | true,.neq=>(eqStrs xs ys).map fun b=>(xs.length=d.zero.length,.bool (!b))
 | _,_=>none
def binOp (td:Option TyD) (op:BinOp) (x y:AV):Option (Prop × AV) :=
 match x,y with
 | .int k a,.int k' b =>
   match op with
   | .shl | .shr=>shiftOp op k a b
   | _=>if k=k' then intOp op k a b else none
 | .str a,.str b=>strOp op a b
 | .bool a,.bool b =>
   match td.map TyD.k,op with
   | some .bool,.eql=>some (True,.bool (a == b))
   | some .bool,.neq=>some (True,.bool (!(a == b)))
   | _,_=>none
 | .agg xs,.agg ys=>td.bind fun d=>eqAgg d op xs ys
 | x,.nils =>
   match td.map TyD.k,op with
   | some (.slice _),.eql=>(isNil x).map fun (p,b)=>(p,.bool b)
   | some (.slice _),.neq=>(isNil x).map fun (p,b)=>(p,.bool (!b))
   | _,_=>none
 | _,_=>none
def unOp (op:UnOp) (x:AV):Option (Prop × AV) :=
 match op,x with
 | .neg,.int k n=>some (True,.int k (k.wrap (0-n)))
 | .not,.bool b=>some (True,.bool !b)
 | _,_=>none
def over (cs:List AV) (off:Nat) (new:List AV):List AV:=cs.take off++new++cs.drop (off+new.length)
def wr (d:TyD) (cs:List AV) (off:Nat) (v:AV):Prop × List AV :=
 if d.row then (Cut cs off d.sz∧v.cells.length=d.sz∧v.cells.all AV.ck=true,over cs off v.cells)
 else (off<cs.length∧(cs.getD off .junk).plain=true∧v.one=true,cs.set off v)
def fill (place:Nat→Option (Nat × TyD)):Prop × List AV→List (Nat × AV)→Option (Prop × List AV)
 | a,[]=>some a
 | (p,cs),(i,v)::rest =>
   match place i with
   | none=>none
   | some (off,d)=>match wr d cs off v with
     | (q,cs')=>fill place (p∧q,cs') rest
section
variable (T:Nat→Option TyD)
def place (d:TyD):Nat→Option (Nat × TyD):=fun i =>
 match d.k with
 | .struct fs=>(fs[i]?).bind fun (off,t)=>(T t).map fun e=>(off,e)
 | .array n e=>if i<n then (T e).map fun e=>(i*e.sz,e) else none
 | _=>none
def elemOk (d:TyD):Bool :=
 match d.k with
 | .array _ e=>(T e).isSome
 | _=>true
def fieldOf (s:Nat) (f:Nat):Option (Nat × TyD) :=
 (T s).bind fun d=>match d.k with
 | .struct fs=>(fs[f]?).bind fun (off,t)=>(T t).map fun e=>(off,e)
 | _=>none
def index (x:AV) (d:TyD) (i:Int):Option (Prop × AV) :=
 match x,d.k with
 | .agg cs,.array n e=>(T e).map fun ed=>match rd ed cs (i.toNat * ed.sz) with
   | (p,v)=>((0≤i∧i<n)∧p,v)
 | .str s,.string=>some (0≤i∧i<s.size,.int .u8 (s.get! i.toNat).toNat)
 | _,_=>none
def indexAddr (m:Nat→AObj) (x:AV) (d:TyD) (i:Int):Option (Prop × AV) :=
 match x,d.k with
 | .ref r off,.array n e=>(T e).map fun ed=>((0≤i∧i<n)∧alive m r,.ref r (off+i.toNat * ed.sz))
 | .fref cs,.array n e=>(T e).map fun ed=>((0≤i∧i<n)∧i.toNat * ed.sz≤cs.length∧AV.head (cs.drop (i.toNat * ed.sz))=true,.fref (cs.drop (i.toNat * ed.sz)))
 | .sl r off n sz,.slice e=>(T e).map fun ed=>((0≤i∧i<n)∧ed.sz=sz∧alive m r,.ref r (off+i.toNat * sz))
 | .imm n cs,.slice e=>(T e).map fun ed=>((0≤i∧i<n)∧i.toNat * ed.sz≤cs.length∧AV.head (cs.drop (i.toNat * ed.sz))=true,.fref (cs.drop (i.toNat * ed.sz)))
 | _,_=>none
def bound (d:Int):Option AV→Option Int
 | some (.int _ i)=>some i
 | none=>some d
 | _=>none
def sliceOp (m:Nat→AObj) (x:AV) (d:TyD) (lo hi mx:Option AV):Option (Prop × AV) :=
 match x,d.k with
 | .str s,.string=>(bound 0 lo).bind fun l=>(bound s.size hi).map fun h=>(mx.isNone=true∧0≤l∧l≤h∧h≤s.size,.str (s.extract l.toNat h.toNat))
 | .sl r off n sz,.slice e=>(T e).bind fun d'=>(bound 0 lo).bind fun l=>(bound n hi).bind fun h=>(bound h mx).map fun q=>((0≤l∧(l=0∨l<h)∧l≤h∧h≤n∧q=h)∧alive m r∧d'.sz=sz,.sl r (off+l.toNat * sz) (h-l).toNat sz)
 | .imm n cs,.slice e=>(T e).bind fun ed=>(bound 0 lo).bind fun l=>(bound n hi).bind fun h=>(bound h mx).map fun q =>
   ((0≤l∧l≤h∧h≤n∧q=h∧n*ed.sz=cs.length)∧Cut cs (l.toNat * ed.sz) ((h-l).toNat * ed.sz),.imm (h-l).toNat ((cs.drop (l.toNat * ed.sz)).take ((h-l).toNat * ed.sz)))
 | .ref r off,.array n e=>if mx.isNone then (T e).bind fun ed=>(bound 0 lo).bind fun l=>(bound n hi).bind fun h=>(objCells (m r)).map fun cs =>
   ((0≤l∧l≤h∧h≤n∧(l=0∨l<n))∧off+n*ed.sz≤cs.length,.sl r (off+l.toNat * ed.sz) (h-l).toNat ed.sz) else none
 | _,_=>none
def lenP:Pay→Option Nat
 | .rnat n=>some (digs 65536 n).length
 | _=>none
def lenOp (m:Nat→AObj):AV→Option (Prop × Nat)
 | .sl r _ n _=>some (alive m r,n)
 | .imm n _=>some (True,n)
 | .nils=>some (True,0)
 | .opq x=>(lenP x).map fun n=>(True,n)
 | _=>none
def convert (src dst:TyD) (x:AV):Option (Prop × AV) :=
 match dst.k,x with
 | .int k,.int _ n=>some (True,.int k (k.wrap n))
 | .string,.str s=>match src.k with | .string=>some (True,.str s)|_=>none
 | _,_=>none
def isB:AV→Bool
 | .int .u8 _=>true
 | _=>false
def toB:AV→UInt8
 | .int _ n=>UInt8.ofNat n.toNat
 | _=>0
def bytesS (cs:List AV):ByteArray:=⟨(cs.map toB).toArray⟩
def isU8:Option TyD→Bool
 | some d=>match d.k with | .int .u8=>true|_=>false
 | none=>false
def strM (T:Nat→Option TyD) (m:Nat→AObj) (src dst:TyD):AV→Option (Prop × AV)
 | .sl r off n k=>match src.k,dst.k with
   | .slice e,.string=>if isU8 (T e) then (objCells (m r)).map fun cs=>(Cut cs off n∧k=1∧((cs.drop off).take n).all isB=true,.str (bytesS ((cs.drop off).take n))) else none
   | _,_=>none
 | x=>convert src dst x
def maxV:AV→AV→Option (Prop × AV)
 | .int k a,.int _ b=>some (True,.int k (if b > a then b else a))
 | _,_=>none
def minV:AV→AV→Option (Prop × AV)
 | .int k a,.int _ b=>some (True,.int k (if b<a then b else a))
 | _,_=>none
def pev (s:St) (o:Oper):Option (Prop × AV) :=
 match o.op with
 | .move x | .assign x=>some (True,aev s x)
 | .pick c a b=>match aev s c with | .bool c=>some (True,if c then aev s a else aev s b)|_=>none
 | .build t ps=>(T t).bind fun d=>(fill (place T d) (True,d.zero) (ps.toList.map fun x=>(x.1,aev s x.2))).map fun (p,cs)=>(p∧d.row=true∧elemOk T d=true,.agg cs)
 | .load t a=>(T t).bind fun d=>(peek s.m (aev s a)).map fun (cs,off)=>rd d cs off
 | .nilCheck x=>match aev s x with | .fn f a b=>some (True,.fn f a b) | .ref r o=>some (alive s.m r,.ref r o) | .fref cs=>some (True,.fref cs)|_=>none
 | .binOp op t x y _=>binOp (T t) op (aev s x) (aev s y)
 | .unOp op _ x=>unOp op (aev s x)
 | .convert a b x=>(T a).bind fun a=>(T b).bind fun b=>strM T s.m a b (aev s x)
 | .makeFunc (.func f) fs cs=>some (True,.fn f (fs.toList.map (aev s)) (cs.toList.map (aev s)))
 | .slice t x lo hi mx=>if mx.isSome && hi.isNone then none else (T t).bind fun d=>sliceOp T s.m (aev s x) d (lo.map (aev s)) (hi.map (aev s)) (mx.map (aev s))
 | .fieldAddr t x f=>(fieldOf T t f).bind fun (off,_)=>match aev s x with
   | .ref r o=>some (alive s.m r,.ref r (o+off))
   | .fref cs=>some (off≤cs.length∧AV.head (cs.drop off)=true,.fref (cs.drop off))
   | _=>none
 | .field t x f=>(fieldOf T t f).bind fun (off,d)=>match aev s x with
   | .agg cs=>some (rd d cs off)
   | _=>none
 | .indexAddr t x i=>(T t).bind fun d=>match aev s i with | .int _ i=>indexAddr T s.m (aev s x) d i|_=>none
 | .index t x i=>(T t).bind fun d=>match aev s i with | .int _ i=>index T (aev s x) d i|_=>none
 | .extract x i=>match aev s x with | .tup vs=>(vs[i]?).map fun v=>(v.plain=true,v)|_=>none
 | .call c=>match c.callee,c.args.toList with
   | .builtin .len,[x]=>match c.argTypes.toList with
     | [t]=>(T t).bind fun d=>match d.k with
       | .string=>match aev s x with
         | .str z=>some (True,.int .i64 z.size)
         | _=>none
       | .slice _=>(lenOp s.m (aev s x)).map fun (p,n)=>(p,.int .i64 n)
       | _=>none
     | _=>none
   | .builtin .max,[x,y]=>maxV (aev s x) (aev s y)
   | .builtin .min,[x,y]=>minV (aev s x) (aev s y)
   | _,_=>none
 | _=>none
def aal (s:St) (o:Oper):Option (Prop × List AV × (Nat→AV)) :=
 match o.op with
 | .alloc t=>(T t).map fun d=>(True,d.zero,fun r=>.ref r 0)
 | .box t x=>(T t).map fun d=>((aev s x).cells.length=d.sz∧(aev s x).cells.all AV.ck=true,(aev s x).cells,fun r=>.ref r 0)
 | .buildSlice t n ps=>(T t).bind fun d=>match d.k with
   | .slice e=>(T e).bind fun ed =>
     (fill (fun i=>if i<n then some (i*ed.sz,ed) else none) (True,(List.replicate n ed.zero).flatten) (ps.toList.map fun x=>(x.1,aev s x.2))).map fun (p,cs)=>(p∧n*ed.sz≤16777216,cs,fun r=>.sl r 0 n ed.sz)
   | _=>none
 | .makeSlice t l c=>(T t).bind fun d=>match d.k,aev s l,aev s c with
   | .slice e,.int .i64 l,.int .i64 c=>(T e).map fun ed=>(l=c∧0≤l∧l≤1099511627776∧ed.bytes≤128,(List.replicate l.toNat ed.zero).flatten,fun r=>.sl r 0 l.toNat ed.sz)
   | _,_,_=>none
 | _=>none
def ast (s:St) (o:Oper):Option (Prop × Nat × List AV) :=
 match o.op with
 | .store t a x=>(T t).bind fun d=>match aev s a with
   | .ref r off=>match s.m r with
     | .live cs=>match wr d cs off (aev s x) with|(p,cs)=>some (p,r,cs)
     | _=>none
   | _=>none
 | _=>none
def apDst (s:St) (sz:Nat):AV→Option (Prop × Nat × List AV × Option Nat)
 | .nils=>some (True,0,[],none)
 | .sl r off n k=>match s.m r with
   | .live cs=>some (off=0∧k=sz∧cs.length=n*sz,n,cs,some r)
   | _=>none
 | _=>none
def strCells (s:ByteArray):List AV:=s.data.toList.map fun b=>.int .u8 b.toNat
def apSrc (s:St) (sz:Nat) (gone:Option Nat) (k:TK) (y:AV):Option (Prop × Nat × List AV) :=
 match k,y with
 | .slice _,.nils=>some (True,0,[])
 | .slice _,.imm n cs=>some (cs.length=n*sz,n,cs)
 | .slice _,.sl r off n k=>(objCells (s.m r)).map fun cs=>(Cut cs off (n*sz)∧k=sz∧gone ≠ some r,n,(cs.drop off).take (n*sz))
 | .string,.str x=>some (sz=1,x.size,strCells x)
 | _,_=>none
def AV.isNils:AV→Bool
 | .nils=>true
 | _=>false
def goneM (m:Nat→AObj):Option Nat→(Nat→AObj)
 | some r=>upd m r .gone
 | none=>m
def aap (nx:Nat) (s:St) (o:Oper):Option (Prop × St) :=
 match o.op with
 | .call c=>match c.args.toList,c.argTypes.toList with
   | [x,y],[t,t']=>(T t).bind fun d=>match d.k with
     | .slice e=>(T e).bind fun ed=>(T t').bind fun d' =>
       if (aev s x).isNils && (aev s y).isNils then (match d'.k with | .slice _=>some (True,s.put o.dst .nils)|_=>none) else
       (apDst s ed.sz (aev s x)).bind fun (p,n,olds,g)=>(apSrc s ed.sz g d'.k (aev s y)).map fun (q,k,news) =>
         (p∧q∧(g=none→0<k)∧s.m nx = .unused∧(n+k)*ed.bytes≤1099511627776∧1≤ed.bytes∧olds.all AV.ck=true∧news.all AV.ck=true,
           { (s.put o.dst (.sl nx 0 (n+k) ed.sz)) with m:=upd (goneM s.m g) nx (.live (olds++news)) })
     | _=>none
   | _,_=>none
 | _=>none
def acp (s:St) (o:Oper):Option (Prop × St) :=
 match o.op with
 | .call c=>match c.args.toList,c.argTypes.toList with
   | [x,y],[t,t']=>(T t).bind fun d=>match d.k with
     | .slice e=>(T e).bind fun ed=>(T t').bind fun d'=>match aev s x with
       | .sl r off n k=>match s.m r with
         | .live cs=>(apSrc s ed.sz (some r) d'.k (aev s y)).map fun (q,l,news) =>
           (q∧k=ed.sz∧l≤n∧Cut cs off (l*k)∧news.all AV.ck=true,{ (s.put o.dst (.int .i64 l)) with m:=upd s.m r (.live (over cs off news)) })
         | _=>none
       | _=>none
     | _=>none
   | _,_=>none
 | _=>none
end
structure Env where
 T:Nat→Option TyD
 S:Nat→List AV→Option (Prop × AV)
def snap1 (m:Nat→AObj):AV→AV
 | .sl r off n sz=>match objCells (m r) with
   | some cs=>.imm n ((cs.drop off).take (n*sz))
   | none=>.junk
 | .ref r off=>match objCells (m r) with
   | some cs=>.fref (cs.drop off)
   | none=>.junk
 | v=>v
def snapV (m:Nat→AObj):AV→AV
 | .agg cs=>.agg (cs.map (snap1 m))
 | v=>snap1 m v
def snapC1 (m:Nat→AObj):AV→Prop
 | .sl r off n sz=>match objCells (m r) with
   | some cs=>Cut cs off (n*sz)
   | none=>False
 | .ref r off=>match objCells (m r) with
   | some cs=>off≤cs.length∧AV.head (cs.drop off)=true
   | none=>False
 | _=>True
def snapC (m:Nat→AObj):List AV→Prop
 | []=>True
 | a::az=>snapC1 m a∧snapC m az
def AObj.freeze:AObj→AObj
 | .live cs=>.ro cs
 | o=>o
def snapM:(Nat→AObj)→List AV→(Nat→AObj)
 | m,[]=>m
 | m,.sl r _ _ _::az=>snapM (upd m r (m r).freeze) az
 | m,.ref r _::az=>snapM (upd m r (m r).freeze) az
 | m,_::az=>snapM m az
inductive Kd where|pure|alloc|store|call|append|copy
def kind:Op→Kd
 | .alloc _ | .box _ _ | .buildSlice _ _ _ | .makeSlice _ _ _=>.alloc
 | .store _ _ _=>.store
 | .call { callee:=.value _,.. }=>.call
 | .call { callee:=.builtin .append,.. }=>.append
 | .call { callee:=.builtin .copy,.. }=>.copy
 | _=>.pure
def callee (s:St) (o:Oper):Option (Nat × List AV) :=
 match o.op with
 | .call { callee:=.value f,args:=args,.. }=>match aev s f with
   | .fn f fs cs=>some (f,fs++args.toList.map (aev s)++cs)
   | _=>none
 | _=>none
def aStep (E:Env) (nx:Nat) (s:St) (o:Oper):Option (Prop × St) :=
 match kind o.op with
 | .pure=>(pev E.T s o).map fun (p,v)=>(p,s.put o.dst v)
 | .alloc=>(aal E.T s o).map fun (p,cs,f)=>(p∧s.m nx = .unused∧cs.all AV.ck=true,{ (s.put o.dst (f nx)) with m:=upd s.m nx (.live cs) })
 | .store=>(ast E.T s o).map fun (p,r,cs)=>(p,{ (s.put o.dst (.tup [])) with m:=upd s.m r (.live cs) })
 | .append=>aap E.T nx s o
 | .copy=>acp E.T s o
 | .call=>(callee s o).bind fun (f,args)=>(E.S f (args.map (snapV s.m))).map fun (p,r) =>
   (p∧snapC s.m (args.flatMap AV.cells),{ (s.put o.dst r) with m:=snapM s.m (args.flatMap AV.cells) })
def Kd.late:Kd→Bool
 | .append | .copy=>true
 | _=>false
def looks:Op→Bool
 | .load _ _ | .nilCheck _ | .slice _ _ _ _ _ | .convert _ _ _ | .call _=>true
 | _=>false
def top:AV→Option Nat
 | .ref r _=>some r
 | .sl r _ _ _=>some r
 | _=>none
def ids:AV→List Nat
 | .fn _ fs cs=>((fs++cs).flatMap AV.cells).filterMap top
 | v=>v.cells.filterMap top
def reads (o:Oper) (s:St):List Nat:=if looks o.op then o.op.operands.toList.flatMap (fun z=>ids (aev s z)) else []
def lateOk (acc:List (Nat × List Nat)) (y:Oper) (s:St):Bool :=
 match y.op with
 | .store _ a _=>match aev s a with
   | .ref r _=>acc.all fun p=>!p.2.contains r || y.after.any (fun e=>Region.binds .any e && e.on == p.1)
   | _=>true
 | _=>true
def isSt (o:Oper):Bool :=
 match o.op with
 | .store _ _ _=>true
 | _=>false
def Kd.writes:Kd→Bool
 | .store | .append | .copy=>true
 | _=>false
def Kd.apPure:Kd→Kd→Bool
 | .append,.pure=>true
 | _,_=>false
def stPure (x y:Oper):Bool :=
 match kind x.op,kind y.op with
 | .store,.pure=>!looks y.op
 | _,_=>false
def indep (ops:Array Oper) (x y:Oper):Bool:=Oper.apart ops x y && (((!(kind x.op).writes && !(kind y.op).late) || (kind x.op).apPure (kind y.op)) || stPure x y)
def reach (ops:Array Oper):Nat→Oper→Nat→Bool
 | 0,_,_=>false
 | k+1,o,j=>o.after.any (fun e=>Region.binds .any e && (e.on == j || match ops[e.on]? with
   | some o'=>reach ops k o' j
   | none=>false))
def drawOkFrom (ops:Array Oper):Nat→List Oper→Bool
 | _,[]=>true
 | i,o::rest=>rest.all (fun o'=>indep ops o o' || (o'.after.any (fun e=>Region.binds .any e && e.on == i) || reach ops 8 o' i)) && o.after.all (fun e=>!Region.binds .any e || e.on<i) && drawOkFrom ops (i+1) rest
def drawOk (ops:Array Oper):Bool:=drawOkFrom ops 0 ops.toList
def dstOk (n:Nat) (o:Oper):Bool :=
 match o.dst with
 | some d=>d<n
 | none=>true
inductive RL (W:Nat→Prop) (φ:Nat→Option (Option Nat)) (w:World):List Value→List AV→Prop
 | nil:RL W φ w [] []
 | junk (v) {vs az}:RL W φ w vs az→RL W φ w (v::vs) (.junk::az)
 | bool (b) {vs az}:RL W φ w vs az→RL W φ w (.bool b::vs) (.bool b::az)
 | int (k n) {vs az}:RL W φ w vs az→RL W φ w (.int k n::vs) (.int k n::az)
 | str (s) {vs az}:RL W φ w vs az→RL W φ w (.string s::vs) (.str s::az)
 | nilp {vs az}:RL W φ w vs az→RL W φ w (.pointer none::vs) (.nilp::az)
 | ref {r off b vs az}:φ r=some (some b)→RL W φ w vs az→RL W φ w (.pointer (some ⟨b,off,none⟩)::vs) (.ref r off::az)
 | gref {r off} (v) {vs az}:v.oneCell'=true→φ r=some none→RL W φ w vs az→RL W φ w (v::vs) (.ref r off::az)
 | fref {b o cs us vs az}:(us ≠ []→¬ W b)→(∀ j u,us[j]? = some u→w.cell? ⟨b,o+j,none⟩=some u)→RL W φ w us cs→RL W φ w vs az →
    RL W φ w (.pointer (some ⟨b,o,none⟩)::vs) (.fref cs::az)
 | nils {vs az}:RL W φ w vs az→RL W φ w (.slice none 0 0::vs) (.nils::az)
 | sl {r off n sz b cap vs az}:φ r=some (some b)→n≤cap→(∃ c e fr,w.heap[b]? = some (.cells c e fr)∧off+cap*sz≤c.size)→RL W φ w vs az →
    RL W φ w (.slice (some ⟨b,off,none⟩) n cap::vs) (.sl r off n sz::az)
 | gsl {r off n sz} (v) {vs az}:v.oneCell'=true→φ r=some none→RL W φ w vs az→RL W φ w (v::vs) (.sl r off n sz::az)
 | imm0 (a cap) {vs az}:RL W φ w vs az→RL W φ w (.slice a 0 cap::vs) (.imm 0 []::az)
 | imm {b o n cap cs us vs az}:n≤cap→(us ≠ []→¬ W b)→(∀ j u,us[j]? = some u→w.cell? ⟨b,o+j,none⟩=some u)→RL W φ w us cs→RL W φ w vs az →
    RL W φ w (.slice (some ⟨b,o,none⟩) n cap::vs) (.imm n cs::az)
 | nilf {vs az}:RL W φ w vs az→RL W φ w (.nilFunc::vs) (.nilf::az)
 | fn {f fs cs gs ds vs az}:RL W φ w fs gs→RL W φ w cs ds→RL W φ w vs az→RL W φ w (.func (.func f) fs.toArray cs.toArray::vs) (.fn f gs ds::az)
 | agg {cs ds vs az}:RL W φ w cs ds→RL W φ w vs az→RL W φ w (.agg cs.toArray::vs) (.agg ds::az)
 | tup {cs ds vs az}:RL W φ w cs ds→RL W φ w vs az→RL W φ w (.tuple cs.toArray::vs) (.tup ds::az)
 | opq {x us vs az l as'}:us.length=x.width→RL W φ w us x.open→RL W φ w vs az→l=us++vs→as'=List.replicate (x.width-1) .pad++az→RL W φ w l (.opq x::as')
variable {W:Nat→Prop} {φ:Nat→Option (Option Nat)} {w:World}
theorem Pay.width_pos (x:Pay):0<x.width:=by cases x<;>simp [Pay.width]
theorem RL.length {vs az} (h:RL W φ w vs az):vs.length=az.length:=by
 induction h with
 | nil=>rfl
 | @opq x us vs az _ _ h1 _ _ e1 e2 _ ih=>have:=x.width_pos; subst e1 e2; simp [h1,ih]; omega
 | _=>simp_all
theorem RL.app {vs az us bs} (h:RL W φ w vs az) (h':RL W φ w us bs):RL W φ w (vs++us) (az++bs):=by
 induction h with
 | nil=>exact h'
 | junk v _ ih=>exact .junk v ih
 | bool b _ ih=>exact .bool b ih
 | int k n _ ih=>exact .int k n ih
 | str s _ ih=>exact .str s ih
 | nilp _ ih=>exact .nilp ih
 | ref a _ ih=>exact .ref a ih
 | gref v a b _ ih=>exact .gref v a b ih
 | fref a b c _ _ ih=>exact .fref a b c ih
 | nils _ ih=>exact .nils ih
 | sl a b c _ ih=>exact .sl a b c ih
 | gsl v a b _ ih=>exact .gsl v a b ih
 | imm0 a c _ ih=>exact .imm0 a c ih
 | imm z a b c _ _ ih=>exact .imm z a b c ih
 | nilf _ ih=>exact .nilf ih
 | fn a b _ _ _ ih=>exact .fn a b ih
 | agg a _ _ ih=>exact .agg a ih
 | tup a _ _ ih=>exact .tup a ih
 | opq a b _ e1 e2 _ ih=>subst e1 e2; rw [List.append_assoc,List.cons_append,List.append_assoc]; exact .opq a b ih rfl rfl
theorem RL.uncons {vs a az} (h:RL W φ w vs (a::az)) (ha:a.plain=true):∃ v vs',vs=v::vs'∧RL W φ w [v] [a]∧RL W φ w vs' az:=by
 cases h with
 | junk v t=>exact ⟨_,_,rfl,.junk v .nil,t⟩
 | bool b t=>exact ⟨_,_,rfl,.bool b .nil,t⟩
 | int k n t=>exact ⟨_,_,rfl,.int k n .nil,t⟩
 | str s t=>exact ⟨_,_,rfl,.str s .nil,t⟩
 | nilp t=>exact ⟨_,_,rfl,.nilp .nil,t⟩
 | ref x t=>exact ⟨_,_,rfl,.ref x .nil,t⟩
 | gref v x y t=>exact ⟨_,_,rfl,.gref v x y .nil,t⟩
 | fref x y z t=>exact ⟨_,_,rfl,.fref x y z .nil,t⟩
 | nils t=>exact ⟨_,_,rfl,.nils .nil,t⟩
 | sl x y z t=>exact ⟨_,_,rfl,.sl x y z .nil,t⟩
 | gsl v x y t=>exact ⟨_,_,rfl,.gsl v x y .nil,t⟩
 | imm0 x y t=>exact ⟨_,_,rfl,.imm0 x y .nil,t⟩
 | imm q x y z t=>exact ⟨_,_,rfl,.imm q x y z .nil,t⟩
 | nilf t=>exact ⟨_,_,rfl,.nilf .nil,t⟩
 | fn x y t=>exact ⟨_,_,rfl,.fn x y .nil,t⟩
 | agg x t=>exact ⟨_,_,rfl,.agg x .nil,t⟩
 | tup x t=>exact ⟨_,_,rfl,.tup x .nil,t⟩
 | @opq x us vs' as' _ _ h1 h2 h3 e1 e2 =>
   simp [AV.plain] at ha
   rw [ha] at h1 e2
   obtain ⟨v,rfl⟩:=List.length_eq_one_iff.1 h1
   simp at e2
   subst e1 e2
   exact ⟨v,vs',rfl,.opq (by rw [ha]; rfl) h2 .nil rfl (by rw [ha]; rfl),h3⟩
theorem RL.cons {v a vs az} (h:RL W φ w [v] [a]) (h':RL W φ w vs az):RL W φ w (v::vs) (a::az):=by
 simpa using h.app h'
theorem RL.nil_of {vs} (h:RL W φ w vs []):vs=[]:=by cases h; rfl
theorem RL.one {vs a} (h:RL W φ w vs [a]):∃ v,vs=[v]∧RL W φ w [v] [a]:=by
 have:=h.length
 match vs,this with
 | [v],_=>exact ⟨v,rfl,h⟩
theorem RL.split {vs az} (h:RL W φ w vs az):∀ n,n≤az.length→AV.head (az.drop n)=true→RL W φ w (vs.take n) (az.take n)∧RL W φ w (vs.drop n) (az.drop n):=by
 induction h with
 | nil=>intro n _ _; simp; exact .nil
 | @opq x us vs az _ _ h1 h2 h3 e1 e2 _ ih =>
   subst e1 e2
   intro n hn hd
   have hw:=x.width_pos
   rcases Nat.eq_zero_or_pos n with rfl|hpos
   · simp; exact ⟨.nil,.opq h1 h2 h3 rfl rfl⟩
   · by_cases hlt:n<x.width
     · exfalso
       obtain ⟨m,rfl⟩:∃ m,n=m+1:=⟨n-1,by omega⟩
       rw [List.drop_succ_cons,List.drop_append_of_le_length (by simp; omega),List.drop_replicate] at hd
       obtain ⟨q,hq⟩:∃ q,x.width-1-m=q+1:=⟨x.width-1-m-1,by omega⟩
       rw [hq,List.replicate_succ] at hd
       simp [AV.head] at hd
     · obtain ⟨m,rfl⟩:∃ m,n=x.width+m:=⟨n-x.width,by omega⟩
       have hlen:(AV.opq x::(List.replicate (x.width-1) AV.pad)).length=x.width:=by simp; omega
       have e1:(AV.opq x::(List.replicate (x.width-1) AV.pad++az))=(AV.opq x::List.replicate (x.width-1) AV.pad)++az:=by simp
       rw [e1] at hd hn ⊢
       rw [List.drop_append,List.drop_of_length_le (by omega),hlen,show x.width+m-x.width=m by omega,List.nil_append] at hd
       obtain ⟨ih1,ih2⟩:=ih m (by simp at hn; omega) hd
       have t1:(us++vs).take (x.width+m)=us++vs.take m:=by
        rw [List.take_append,List.take_of_length_le (by omega),h1,show x.width+m-x.width=m by omega]
       have t2:(us++vs).drop (x.width+m)=vs.drop m:=by
        rw [List.drop_append,List.drop_of_length_le (by omega),h1,show x.width+m-x.width=m by omega,List.nil_append]
       have t3:((AV.opq x::List.replicate (x.width-1) AV.pad)++az).take (x.width+m)=(AV.opq x::List.replicate (x.width-1) AV.pad)++az.take m:=by
        rw [List.take_append,List.take_of_length_le (by omega),hlen,show x.width+m-x.width=m by omega]
       have t4:((AV.opq x::List.replicate (x.width-1) AV.pad)++az).drop (x.width+m)=az.drop m:=by
        rw [List.drop_append,List.drop_of_length_le (by omega),hlen,show x.width+m-x.width=m by omega,List.nil_append]
       rw [t1,t2,t3,t4]
       exact ⟨.opq h1 h2 ih1 rfl rfl,ih2⟩
 | _ =>
   rename_i ih
   intro n hn hd
   cases n with
   | zero=>simp; refine ⟨.nil,?_⟩; constructor<;>assumption
   | succ m =>
     simp at hn hd
     obtain ⟨i1,i2⟩:=ih m (by omega) hd
     simp
     refine ⟨?_,i2⟩
     constructor<;>assumption
theorem RL.cut {vs az} (h:RL W φ w vs az) {off n:Nat} (hc:Cut az off n):RL W φ w ((vs.drop off).take n) ((az.drop off).take n):=by
 obtain ⟨h1,h2,h3⟩:=hc
 have a:=(h.split off (by omega) h2).2
 refine (a.split n (by simp; omega) ?_).1
 rwa [List.drop_drop]
theorem RL.at {vs az} (h:RL W φ w vs az) {i:Nat} {a:AV} (hi:az[i]? = some a) (ha:a.plain=true):∃ v,vs[i]? = some v∧RL W φ w [v] [a]:=by
 have hlt:i<az.length:=(List.getElem?_eq_some_iff.1 hi).1
 have hd:az.drop i=a::az.drop (i+1):=by
  rw [List.drop_eq_getElem_cons hlt]; congr 1; exact (List.getElem?_eq_some_iff.1 hi).2
 have hh:AV.head (az.drop i)=true:=by rw [hd]; cases a<;>simp_all [AV.head,AV.plain]
 have h2:=(h.split i (by omega) hh).2
 rw [hd] at h2
 obtain ⟨v,vs',e,hv,_⟩:=h2.uncons ha
 refine ⟨v,?_,hv⟩
 have:=congrArg (fun l=>l[0]?) e
 simpa using this
theorem RL.set {vs az} (h:RL W φ w vs az) {i:Nat} {a b:AV} {v:Value} (hi:az[i]? = some a) (ha:a.plain=true) (hv:RL W φ w [v] [b]):RL W φ w (vs.set i v) (az.set i b):=by
 have hlt:i<az.length:=(List.getElem?_eq_some_iff.1 hi).1
 have hd:az.drop i=a::az.drop (i+1):=by
  rw [List.drop_eq_getElem_cons hlt]; congr 1; exact (List.getElem?_eq_some_iff.1 hi).2
 have hh:AV.head (az.drop i)=true:=by rw [hd]; cases a<;>simp_all [AV.head,AV.plain]
 obtain ⟨h1,h2⟩:=h.split i (by omega) hh
 rw [hd] at h2
 obtain ⟨u,vs',e,_,h3⟩:=h2.uncons ha
 have hl:=h.length
 have hv':vs.drop (i+1)=vs':=by
  have:vs.drop (i+1)=(vs.drop i).drop 1:=by rw [List.drop_drop]
  rw [this,e]; rfl
 have e1:vs.set i v=vs.take i++v::vs.drop (i+1):=by rw [List.set_eq_take_append_cons_drop,if_pos (by omega)]
 have e2:az.set i b=az.take i++b::az.drop (i+1):=by rw [List.set_eq_take_append_cons_drop,if_pos (by omega)]
 rw [e1,e2,hv']
 exact h1.app (hv.cons h3)
theorem RL.over {vs az us bs} (h:RL W φ w vs az) {off n:Nat} (hc:Cut az off n) (h':RL W φ w us bs) (hn:bs.length=n) :
 RL W φ w (vs.take off++us++vs.drop (off+us.length)) (over az off bs):=by
 obtain ⟨h1,h2,h3⟩:=hc
 have a:=(h.split off (by omega) h2).1
 have b:=(h.split (off+n) (by omega) h3).2
 unfold AM.over
 rw [hn,h'.length,hn]
 exact (a.app h').app b
structure Ext (W:Nat→Prop) (φ:Nat→Option (Option Nat)) (w:World) (W':Nat→Prop) (φ':Nat→Option (Option Nat)) (w':World):Prop where
 phi:∀ r x,φ r=some x→φ' r=some x∨φ' r=some none
 old:∀ b,b<w.heap.size→¬ W b→w'.heap[b]? = w.heap[b]?
 wr:∀ b,b<w.heap.size→W' b→W b
 size:∀ r b c e fr,φ r=some (some b)→φ' r=some (some b)→w.heap[b]? = some (.cells c e fr)→∃ c' e' fr',w'.heap[b]? = some (.cells c' e' fr')∧c.size≤c'.size
theorem cell_block {b o:Nat} {u:Value} (h:w.cell? ⟨b,o,none⟩=some u):b<w.heap.size:=block_lt_of_cell h
theorem Ext.cell {W' φ' w'} (E:Ext W φ w W' φ' w') {b o:Nat} {us:List Value} (h1:us ≠ []→¬ W b) (h2:∀ j u,us[j]? = some u→w.cell? ⟨b,o+j,none⟩=some u) :
 (us ≠ []→¬ W' b)∧(∀ j u,us[j]? = some u→w'.cell? ⟨b,o+j,none⟩=some u):=by
 have hb:us ≠ []→b<w.heap.size:=fun hne=>by
  obtain ⟨u,t,rfl⟩:=List.exists_cons_of_ne_nil hne
  exact cell_block (h2 0 u rfl)
 refine ⟨fun hne hW=>h1 hne (E.wr b (hb hne) hW),fun j u hj=>?_⟩
 have hne:us ≠ []:=by rintro rfl; simp at hj
 rw [World.cell?_of_block (w:=w) (E.old b (hb hne) (h1 hne))]
 exact h2 j u hj
theorem RL.mono {W' φ' w' vs az} (h:RL W φ w vs az) (E:Ext W φ w W' φ' w'):RL W' φ' w' vs az:=by
 induction h with
 | nil=>exact .nil
 | junk v _ ih=>exact .junk v ih
 | bool b _ ih=>exact .bool b ih
 | int k n _ ih=>exact .int k n ih
 | str s _ ih=>exact .str s ih
 | nilp _ ih=>exact .nilp ih
 | ref a _ ih=>rcases E.phi _ _ a with h|h; exact .ref h ih; exact .gref _ rfl h ih
 | gref v o a _ ih=>rcases E.phi _ _ a with h|h<;>exact .gref v o h ih
 | fref a b _ _ i1 i2=>obtain ⟨x,y⟩:=E.cell a b; exact .fref x y i1 i2
 | nils _ ih=>exact .nils ih
 | sl a b c _ ih =>
   rcases E.phi _ _ a with h|h
   · obtain ⟨c,e,fr,hc,hs⟩:=c
     obtain ⟨c',e',fr',hc',hs'⟩:=E.size _ _ _ _ _ a h hc
     exact .sl h b ⟨c',e',fr',hc',by omega⟩ ih
   · exact .gsl _ rfl h ih
 | gsl v o a _ ih=>rcases E.phi _ _ a with h|h<;>exact .gsl v o h ih
 | imm0 a c _ ih=>exact .imm0 a c ih
 | imm z a b _ _ i1 i2=>obtain ⟨x,y⟩:=E.cell a b; exact .imm z x y i1 i2
 | nilf _ ih=>exact .nilf ih
 | fn _ _ _ i1 i2 i3=>exact .fn i1 i2 i3
 | agg _ _ i1 i2=>exact .agg i1 i2
 | tup _ _ i1 i2=>exact .tup i1 i2
 | opq a _ _ e1 e2 i1 i2=>exact .opq a i1 i2 e1 e2
theorem onlyL_append (k:Nat→Bool) (a b:List AV):onlyL k (a++b)=(onlyL k a && onlyL k b):=by
 induction a with
 | nil=>simp [onlyL]
 | cons x xs ih=>simp [onlyL,ih,Bool.and_assoc]
theorem onlyL_pads (k:Nat→Bool) (n:Nat):onlyL k (List.replicate n .pad)=true:=by
 induction n with
 | zero=>rfl
 | succ n ih=>rw [List.replicate_succ]; simp [onlyL,AV.only,ih]
theorem onlyL_ints (q:Nat→Bool) (k:IntKind) (l:List Nat):onlyL q (l.map fun d:Nat=>AV.int k (d:Int))=true:=by
 induction l with
 | nil=>rfl
 | cons a l ih=>simp [onlyL,AV.only,ih]
theorem Pay.open_only (k:Nat→Bool) (x:Pay):onlyL k x.open=true:=by
 cases x with
 | nat n=>simp only [Pay.open]; split<;>simp [onlyL,AV.only,onlyL_ints]
 | rnat n=>simp [Pay.open,onlyL,AV.only,onlyL_ints]
 | _=>simp [Pay.open,onlyL,AV.only]
theorem RL.only {φ' k vs az} (h:RL W φ w vs az) (hk:∀ r,k r=true→φ' r=φ r) (hg:onlyL k az=true):RL W φ' w vs az:=by
 induction h with
 | nil=>exact .nil
 | junk v _ ih=>exact .junk v (ih (by simpa [onlyL,AV.only] using hg))
 | bool b _ ih=>exact .bool b (ih (by simpa [onlyL,AV.only] using hg))
 | int k n _ ih=>exact .int k n (ih (by simpa [onlyL,AV.only] using hg))
 | str s _ ih=>exact .str s (ih (by simpa [onlyL,AV.only] using hg))
 | nilp _ ih=>exact .nilp (ih (by simpa [onlyL,AV.only] using hg))
 | ref a _ ih=>simp [onlyL,AV.only] at hg; exact .ref (by rw [hk _ hg.1]; exact a) (ih hg.2)
 | gref v a b _ ih=>simp [onlyL,AV.only] at hg; exact .gref v a (by rw [hk _ hg.1]; exact b) (ih hg.2)
 | fref a b _ _ i1 i2=>simp [onlyL,AV.only] at hg; exact .fref a b (i1 hg.1) (i2 hg.2)
 | nils _ ih=>exact .nils (ih (by simpa [onlyL,AV.only] using hg))
 | sl a b c _ ih=>simp [onlyL,AV.only] at hg; exact .sl (by rw [hk _ hg.1]; exact a) b c (ih hg.2)
 | gsl v a b _ ih=>simp [onlyL,AV.only] at hg; exact .gsl v a (by rw [hk _ hg.1]; exact b) (ih hg.2)
 | imm0 a c _ ih=>exact .imm0 a c (ih (by simpa [onlyL,AV.only] using hg))
 | imm z a b _ _ i1 i2=>simp [onlyL,AV.only] at hg; exact .imm z a b (i1 hg.1) (i2 hg.2)
 | nilf _ ih=>exact .nilf (ih (by simpa [onlyL,AV.only] using hg))
 | fn _ _ _ i1 i2 i3=>simp [onlyL,AV.only] at hg; exact .fn (i1 hg.1.1) (i2 hg.1.2) (i3 hg.2)
 | agg _ _ i1 i2=>simp [onlyL,AV.only] at hg; exact .agg (i1 hg.1) (i2 hg.2)
 | tup _ _ i1 i2=>simp [onlyL,AV.only] at hg; exact .tup (i1 hg.1) (i2 hg.2)
 | @opq x _ _ _ _ _ a _ _ e1 e2 i1 i2=>subst e2; simp [onlyL,AV.only,onlyL_append,onlyL_pads] at hg; exact .opq a (i1 (x.open_only _)) (i2 hg) e1 rfl
theorem RL.ground {φ' vs az} (h:RL W φ w vs az) (hg:groundL az=true):RL W φ' w vs az:=h.only (k:=fun _=>false) (by simp) hg
theorem Pay.open_ck (x:Pay):x.open.all AV.ck=true:=by
 cases x with
 | nat n=>simp only [Pay.open]; split<;>simp [AV.ck,AV.one]
 | _=>simp [Pay.open,AV.ck,AV.one]
theorem RL.cells {vs az} (h:RL W φ w vs az) (hk:az.all AV.ck=true):∀ v ∈ vs,v.oneCell'=true:=by
 induction h with
 | nil=>intro v hv; simp at hv
 | @opq x us vs az _ _ a _ _ e1 e2 i1 i2 =>
   subst e1 e2
   simp only [List.all_cons,List.all_append,Bool.and_eq_true] at hk
   intro v hv
   rcases List.mem_append.1 hv with h|h
   · exact i1 x.open_ck v h
   · exact i2 hk.2.2 v h
 | ref _ _ ih|fref _ _ _ _ _ ih|sl _ _ _ _ ih|imm _ _ _ _ _ _ ih|fn _ _ _ _ _ ih|bool _ _ ih|int _ _ _ ih|str _ _ ih|nilp _ ih|nils _ ih|imm0 _ _ _ ih|nilf _ ih =>
   simp only [List.all_cons,Bool.and_eq_true] at hk
   intro v hv
   rcases List.mem_cons.1 hv with rfl|h
   · rfl
   · exact ih hk.2 v h
 | gref u o _ _ ih|gsl u o _ _ ih =>
   simp only [List.all_cons,Bool.and_eq_true] at hk
   intro v hv
   rcases List.mem_cons.1 hv with rfl|h
   · exact o
   · exact ih hk.2 v h
 | junk|agg|tup=>simp [AV.ck,AV.one] at hk
end Go.Proofs.Ytapddfjimhohcaa.AM
/- The abstract machine: what one operation does is sound (operations that change no memory). -/
namespace Go.Proofs.Ytapddfjimhohcaa.AM
set_option linter.all false
set_option autoImplicit true
set_option relaxedAutoImplicit true
open Go
def TK.ok:TK→TypeDesc→Prop
 | .struct fs,.struct gs=>gs.toList.map (fun f=>(f.offset,f.type))=fs
 | .array n e,.array n' e'=>n=n'∧e=e'
 | .slice e,.slice e'=>e=e'
 | .string,.string=>True
 | .int k,.int k'=>k=k'
 | .bool,.bool=>True
 | .func,.func _ _ _=>True
 | .other,d=>d.isRow=false
 | _,_=>False
def strF (P:Program):Nat→List Field→Prop
 | _,[]=>True
 | i,g::gs=>g.name ≠ "_" ∧ g.offset=i∧P.underlying g.type=some .string∧strF P (i+1) gs
structure StrT (P:Program) (t:Nat) (n:Nat) (u:TypeDesc):Prop where
 held:P.stoodInHeld t=false
 guard:P.eqGuardType P.depth t=false
 flds:∃ gs,u = .struct gs∧gs.toList.length=n∧strF P 0 gs.toList
structure TyD.ok (P:Program) (t:Nat) (d:TyD) (u:TypeDesc) (i:TypeInfo) (z:Value):Prop where
 un:P.underlying t=some u
 k:d.k.ok u
 info:P.info? t=some i
 size:i.size=d.sz
 bytes:i.bytes=d.bytes
 zero:i.zero=some z
 rep:∀ W φ w,RL W φ w z.cells.toList d.zero
 pos:0<d.sz
 sz1:d.row=false→d.sz=1
 len:z.cells.size=d.sz
 ck:d.zero.all AV.ck=true
 strs:d.strs=true→StrT P t d.zero.length u
 flds:(match u with | .struct gs=>gs.toList.all fun g=>(P.info? g.type).isSome|_=>true)=true
def TyOk (P:Program) (T:Nat→Option TyD):Prop:=∀ t d,T t=some d→∃ u i z,TyD.ok P t d u i z
def Wr (X:Nat→Prop) (φ:Nat→Option (Option Nat)) (m:Nat→AObj):Nat→Prop:=fun b=>X b∨∃ r cs,φ r=some (some b)∧m r = .live cs
def ObjAt (W:Nat→Prop) (φ:Nat→Option (Option Nat)) (w:World) (b:Nat) (cs:List AV):Prop :=
 ∃ c e,w.heap[b]? = some (.cells c e (0,0))∧cs.length≤c.size∧RL W φ w (c.toList.take cs.length) cs∧cs.all AV.ck=true
def ObjOk (W:Nat→Prop) (φ:Nat→Option (Option Nat)) (w:World) (x:Option (Option Nat)):AObj→Prop
 | .unused=>x=none
 | .gone=>x=some none
 | .live cs=>∃ b,x=some (some b)∧ObjAt W φ w b cs
 | .ro cs=>∃ b,x=some (some b)∧ObjAt W φ w b cs
structure RelM (X:Nat→Prop) (φ:Nat→Option (Option Nat)) (m:Nat→AObj) (w:World):Prop where
 obj:∀ r,ObjOk (Wr X φ m) φ w (φ r) (m r)
 inj:∀ r r' b,φ r=some (some b)→φ r'=some (some b)→r=r'
 ext:∀ r b,φ r=some (some b)→¬ X b
 xlt:∀ b,X b→b<w.heap.size
structure Rel (X:Nat→Prop) (φ:Nat→Option (Option Nat)) (s:St) (a:Act) (w:World):Prop where
 tm:∀ i,s.t i ≠ .junk→∃ v,a.tmps[i]? = some v∧RL (Wr X φ s.m) φ w [v] [s.t i]
 df:a.defers=[]
 n:a.tmps.size=s.n
 mem:RelM X φ s.m w
structure Fr (φ:Nat→Option (Option Nat)) (w:World) (φ':Nat→Option (Option Nat)) (w':World):Prop where
 os:w'.os=w.os
 tape:w'.tape=w.tape
 output:w'.output=w.output
 size:w.heap.size≤w'.heap.size
 keep:∀ b,b<w.heap.size→(∀ r,φ r ≠ some (some b))→w'.heap[b]? = w.heap[b]?
 new:∀ r b,φ' r=some (some b)→w.heap.size≤b∨∃ r0,φ r0=some (some b)
structure Stp (X:Nat→Prop) (φ:Nat→Option (Option Nat)) (m:Nat→AObj) (w:World) (φ':Nat→Option (Option Nat)) (m':Nat→AObj) (w':World):Prop where
 ext:Ext (Wr X φ m) φ w (Wr X φ' m') φ' w'
 fr:Fr φ w φ' w'
theorem Ext.trans {W φ w W1 φ1 w1 W2 φ2 w2} (h:Ext W φ w W1 φ1 w1) (k:Ext W1 φ1 w1 W2 φ2 w2) (hs:w.heap.size≤w1.heap.size):Ext W φ w W2 φ2 w2:=by
 refine ⟨fun r x hx=>?_,fun b hb hW=>?_,fun b hb hW=>?_,fun r b c e fr h1 h2 h3=>?_⟩
 · rcases h.phi r x hx with h1|h1
   · exact k.phi r x h1
   · rcases k.phi r _ h1 with h2|h2<;>exact .inr h2
 · rw [k.old b (by omega) (fun hW1=>hW (h.wr b hb hW1)),h.old b hb hW]
 · exact h.wr b hb (k.wr b (by omega) hW)
 · have hφ1:φ1 r=some (some b):=by
    rcases h.phi r _ h1 with h4|h4
    · exact h4
    · rcases k.phi r _ h4 with h5|h5<;>rw [h5] at h2<;>simp at h2
   obtain ⟨c1,e1,f1,hc1,hs1⟩:=h.size r b c e fr h1 hφ1 h3
   obtain ⟨c2,e2,f2,hc2,hs2⟩:=k.size r b c1 e1 f1 hφ1 h2 hc1
   exact ⟨c2,e2,f2,hc2,by omega⟩
theorem Fr.trans {φ w φ1 w1 φ2 w2} (h:Fr φ w φ1 w1) (k:Fr φ1 w1 φ2 w2):Fr φ w φ2 w2:=by
 refine ⟨k.os.trans h.os,k.tape.trans h.tape,k.output.trans h.output,Nat.le_trans h.size k.size,fun b hb hr=>?_,fun r b hr=>?_⟩
 · rw [k.keep b (by have:=h.size; omega) (fun r hr1=>?_),h.keep b hb hr]
   rcases h.new r b hr1 with h1|⟨r0,h1⟩
   · omega
   · exact hr r0 h1
 · rcases k.new r b hr with h1|⟨r0,h1⟩
   · left; have:=h.size; omega
   · exact h.new r0 b h1
theorem Stp.trans {X φ m w φ1 m1 w1 φ2 m2 w2} (h:Stp X φ m w φ1 m1 w1) (k:Stp X φ1 m1 w1 φ2 m2 w2):Stp X φ m w φ2 m2 w2 :=
 ⟨h.ext.trans k.ext h.fr.size,h.fr.trans k.fr⟩
theorem Ext.refl (W φ w):Ext W φ w W φ w:=⟨fun _ _ h=>.inl h,fun _ _ _=>rfl,fun _ _ h=>h,fun _ _ c e fr _ _ h=>⟨c,e,fr,h,Nat.le_refl _⟩⟩
theorem Fr.refl (φ w):Fr φ w φ w:=⟨rfl,rfl,rfl,Nat.le_refl _,fun _ _ _=>rfl,fun r _ h=>.inr ⟨r,h⟩⟩
theorem Stp.refl (X φ m w):Stp X φ m w φ m w:=⟨.refl _ _ _,.refl _ _⟩
section
variable {X:Nat→Prop} {φ:Nat→Option (Option Nat)} {s:St} {a:Act} {w:World} {P:Program} {T:Nat→Option TyD}
theorem Rel.put {φ' m' w'} {v:Value} {u:AV} {dst:Option Nat} (R:Rel X φ s a w) (hst:Stp X φ s.m w φ' m' w') (hm:RelM X φ' m' w') (hv:RL (Wr X φ' m') φ' w' [v] [u])
 (hd:∀ d,dst=some d→d<s.n):Rel X φ' { (s.put dst u) with m:=m' } (a.put dst v) w':=by
 refine ⟨fun i hi=>?_,?_,?_,hm⟩
 · cases dst with
   | none=>obtain ⟨v',h1,h2⟩:=R.tm i hi; exact ⟨v',h1,h2.mono hst.ext⟩
   | some d =>
     simp only [St.put,upd] at hi ⊢
     by_cases e:i=d
     · subst e
       have:=hd i rfl
       refine ⟨v,?_,by simpa using hv⟩
       simp [Act.put,R.n,this]
     · rw [if_neg e] at hi ⊢
       obtain ⟨v',h1,h2⟩:=R.tm i hi
       refine ⟨v',?_,h2.mono hst.ext⟩
       simp [Act.put,Ne.symm e,h1]
 · cases dst<;>exact R.df
 · cases dst<;>simp [Act.put,St.put,R.n]
theorem RL.ofV {W φ w} (v:Value):RL W φ w [v] [ofV v]:=by
 unfold AM.ofV
 split
 · exact .bool _ .nil
 · exact .int _ _ .nil
 · exact .str _ .nil
 · exact .nilp .nil
 · exact .nils .nil
 · exact .nilf .nil
 · exact .junk _ .nil
theorem Rel.ev (R:Rel X φ s a w) (x:Operand):RL (Wr X φ s.m) φ w [a.eval x] [aev s x]:=by
 cases x with
 | tmp i =>
   by_cases h:s.t i = .junk
   · simp only [aev,h]; exact .junk _ .nil
   · obtain ⟨v,h1,h2⟩:=R.tm i h
     simp only [aev,Act.eval,Array.getD_eq_getD_getElem?,h1,Option.getD_some]
     exact h2
 | const v=>exact RL.ofV v
 | func f=>exact .fn .nil .nil .nil
 | global g=>exact .junk _ .nil
theorem Rel.evL (R:Rel X φ s a w) (l:List Operand):RL (Wr X φ s.m) φ w (l.map a.eval) (l.map (aev s)):=by
 induction l with
 | nil=>exact .nil
 | cons x l ih=>exact (R.ev x).cons ih
end
section
variable {W:Nat→Prop} {φ:Nat→Option (Option Nat)} {w:World}
theorem RL.bool_inv {v b} (h:RL W φ w [v] [.bool b]):v = .bool b:=by cases h; rfl
theorem RL.int_inv {v k n} (h:RL W φ w [v] [.int k n]):v = .int k n:=by cases h; rfl
theorem RL.str_inv {v s} (h:RL W φ w [v] [.str s]):v = .string s:=by cases h; rfl
theorem RL.nils_inv {v} (h:RL W φ w [v] [.nils]):v = .slice none 0 0:=by cases h; rfl
theorem RL.agg_inv {v ds} (h:RL W φ w [v] [.agg ds]):∃ cs,v = .agg cs∧RL W φ w cs.toList ds:=by cases h with|agg h _=>exact ⟨_,rfl,by simpa using h⟩
theorem RL.tup_inv {v ds} (h:RL W φ w [v] [.tup ds]):∃ cs,v = .tuple cs∧RL W φ w cs.toList ds:=by cases h with|tup h _=>exact ⟨_,rfl,by simpa using h⟩
theorem RL.fn_inv {v f gs ds} (h:RL W φ w [v] [.fn f gs ds]):∃ fs cs,v = .func (.func f) fs cs∧RL W φ w fs.toList gs∧RL W φ w cs.toList ds:=by
 cases h with|fn h h' _=>exact ⟨_,_,rfl,by simpa using h,by simpa using h'⟩
theorem RL.ref_inv {v r off b} (h:RL W φ w [v] [.ref r off]) (hr:φ r=some (some b)):v = .pointer (some ⟨b,off,none⟩):=by
 cases h with
 | ref h _=>rw [hr] at h; simp at h; rw [h]
 | gref _ _ h=>rw [hr] at h; simp at h
theorem RL.fref_inv {v cs} (h:RL W φ w [v] [.fref cs]):∃ b o us,v = .pointer (some ⟨b,o,none⟩)∧(us ≠ []→¬ W b)∧(∀ j u,us[j]? = some u→w.cell? ⟨b,o+j,none⟩=some u)∧RL W φ w us cs:=by
 cases h with|fref a b c _=>exact ⟨_,_,_,rfl,a,b,c⟩
theorem RL.sl_inv {v r off n sz b} (h:RL W φ w [v] [.sl r off n sz]) (hr:φ r=some (some b)) :
 ∃ cap,v = .slice (some ⟨b,off,none⟩) n cap∧n≤cap∧∃ c e fr,w.heap[b]? = some (.cells c e fr)∧off+cap*sz≤c.size:=by
 cases h with
 | sl h h1 h2 _=>rw [hr] at h; simp at h; subst h; exact ⟨_,rfl,h1,h2⟩
 | gsl _ _ h=>rw [hr] at h; simp at h
theorem RL.imm_inv {v n cs} (h:RL W φ w [v] [.imm n cs]):(∃ a cap,v = .slice a 0 cap∧n=0∧cs=[]) ∨
 ∃ b o cap us,v = .slice (some ⟨b,o,none⟩) n cap∧n≤cap∧(us ≠ []→¬ W b)∧(∀ j u,us[j]? = some u→w.cell? ⟨b,o+j,none⟩=some u)∧RL W φ w us cs:=by
 cases h with
 | imm0 a c _=>exact .inl ⟨a,c,rfl,rfl,rfl⟩
 | imm z a b c _=>exact .inr ⟨_,_,_,_,rfl,z,a,b,c⟩
theorem RL.cellsV {v d} (h:RL W φ w [v] [d]) (hd:d.cells.all AV.ck=true):RL W φ w v.cells.toList d.cells:=by
 cases h with
 | agg h _=>simpa [AV.cells,Value.cells] using h
 | junk=>simp [AV.cells,AV.ck,AV.one] at hd
 | tup=>simp [AV.cells,AV.ck,AV.one] at hd
 | gref v o h _=>cases v<;>first|(simp [Value.oneCell'] at o; done)|exact .gref _ o h .nil
 | gsl v o h _=>cases v<;>first|(simp [Value.oneCell'] at o; done)|exact .gsl _ o h .nil
 | @opq x us vs az _ _ h1 h2 h3 e1 e2 =>
   have hx:x.width=1:=by
    have:=congrArg List.length e2
    have:=x.width_pos
    simp at *; omega
   have hus:us=[v]:=by
    have:=congrArg List.length e1
    cases us with
    | nil=>simp [hx] at h1
    | cons u us=>cases us with
      | nil=>simp at e1; rw [e1.1]
      | cons=>simp at this
   cases x<;>simp [Pay.width] at hx
   subst hus
   have hc:v.cells.toList=[v]:=by
    rcases RL.imm_inv h2 with ⟨_,_,rfl,_⟩|⟨_,_,_,_,rfl,_⟩<;>rfl
   rw [hc]
   exact .opq h1 h2 h3 e1 e2
 | bool b t=>exact .bool b .nil
 | int k n t=>exact .int k n .nil
 | str s t=>exact .str s .nil
 | nilp t=>exact .nilp .nil
 | ref x t=>exact .ref x .nil
 | fref x y z t=>exact .fref x y z .nil
 | nils t=>exact .nils .nil
 | sl x y z t=>exact .sl x y z .nil
 | imm0 x y t=>exact .imm0 x y .nil
 | imm q x y z t=>exact .imm q x y z .nil
 | nilf t=>exact .nilf .nil
 | fn x y t=>exact .fn x y .nil
end
section
variable {W:Nat→Prop} {X:Nat→Prop} {φ:Nat→Option (Option Nat)} {s:St} {a:Act} {w:World} {P:Program} {T:Nat→Option TyD}
theorem run_sizeOf' {t:TypeId} {i:TypeInfo} (h:P.info? t=some i) (w:World):(sizeOf t).run P w = .ok i.size w:=by
 simp [sizeOf,typeInfo,h]
theorem run_isAgg' {t:TypeId} {u:TypeDesc} (h:P.underlying t=some u) (w:World):(isAgg t).run P w = .ok u.isRow w:=by
 unfold isAgg
 rw [Sem.run_bind,run_underlying h w]
 cases u<;>simp
theorem TyD.ok.row_eq {t d u i z} (h:TyD.ok P t d u i z):u.isRow=d.row:=by
 have:=h.k
 unfold TyD.row
 cases hk:d.k<;>rw [hk] at this<;>cases u<;>simp_all [TK.ok]
theorem run_part {t d u i z cs az off} (h:TyD.ok P t d u i z) (hr:RL W φ w cs az) (hp:(rd d az off).1) :
 ∃ v,(part t cs.toArray off).run P w = .ok v w∧RL W φ w [v] [(rd d az off).2]:=by
 unfold part
 rw [Sem.run_bind,run_isAgg' h.un,h.row_eq]
 unfold rd at hp ⊢
 cases hd:d.row
 · rw [hd] at hp
   simp at hp ⊢
   obtain ⟨h1,h2⟩:=hp
   obtain ⟨v,h3,h4⟩:=hr.at (i:=off) (a:=az[off]) (by simp) (by
    have:az[off]?.getD .junk=az[off]:=by simp [h1]
    rw [this] at h2
    revert h2; cases az[off]<;>simp [AV.one,AV.plain])
   rw [h3]
   refine ⟨v,rfl,?_⟩
   simpa [h1] using h4
 · rw [hd] at hp
   simp at hp ⊢
   rw [run_sizeOf' h.info,h.size]
   refine ⟨_,rfl,?_⟩
   have:=hr.cut hp
   exact .agg this .nil
def Reads (w:World) (b o:Nat) (us:List Value):Prop:=∀ j u,us[j]? = some u→w.cell? ⟨b,o+j,none⟩=some u
theorem run_loadVar' {t d u i z b o us az} (off:Nat) (h:TyD.ok P t d u i z) (hc:Reads w b o us) (hr:RL W φ w us az) (hp:(rd d az off).1) :
 ∃ v,(loadVar t ⟨b,o+off,none⟩).run P w = .ok v w∧RL W φ w [v] [(rd d az off).2]:=by
 unfold rd at hp ⊢
 cases hd:d.row
 · rw [hd] at hp
   simp at hp ⊢
   obtain ⟨h1,h2⟩:=hp
   obtain ⟨v,h3,h4⟩:=hr.at (i:=off) (a:=az[off]) (by simp) (by
    have:az[off]?.getD .junk=az[off]:=by simp [h1]
    rw [this] at h2
    revert h2; cases az[off]<;>simp [AV.one,AV.plain])
   refine ⟨v,?_,by simpa [h1] using h4⟩
   unfold loadVar
   rw [Sem.run_bind,run_isAgg' h.un,h.row_eq,hd]
   simp [load,Sem.run,hc _ _ h3]
 · rw [hd] at hp
   simp at hp ⊢
   have hl:=hr.length
   refine ⟨.agg ((us.drop off).take d.sz).toArray,?_,.agg (hr.cut hp) .nil⟩
   refine run_loadVar_mid w b (o+off) t _ u (fun j v hj=>?_) h.un (by rw [h.row_eq,hd]) ?_
   · rw [List.getElem?_take] at hj
     split at hj
     · rw [List.getElem?_drop] at hj
       rw [Nat.add_assoc]; exact hc _ _ hj
     · simp at hj
   · simp [h.info,h.size]
     have:=hp.1
     omega
theorem RelM.peek (R:RelM X φ s.m w) {x:AV} {cs off v} (hp:peek s.m x=some (cs,off)) (hx:RL (Wr X φ s.m) φ w [v] [x]) :
 ∃ b o us,v = .pointer (some ⟨b,o+off,none⟩)∧Reads w b o us∧RL (Wr X φ s.m) φ w us cs:=by
 cases x<;>simp [AM.peek] at hp
 case ref r off' =>
  obtain ⟨q,hc,rfl,rfl⟩:=hp
  have ho:=R.obj r
  cases hm:s.m r<;>rw [hm] at hc ho<;>simp [objCells] at hc
  all_goals
   subst hc
   obtain ⟨b,hb,c,e,hh,hl,hr,_⟩:=ho
   refine ⟨b,0,_,?_,?_,hr⟩
   · rw [RL.ref_inv hx hb]; simp
   · intro j u hj
     rw [List.getElem?_take] at hj
     split at hj
     · rw [cell_of_row w b _ c e _ hh]; simpa using hj
     · simp at hj
 case fref cs' =>
  obtain ⟨rfl,rfl⟩:=hp
  obtain ⟨b,o,us,rfl,h1,h2,h3⟩:=RL.fref_inv hx
  exact ⟨b,o,us,rfl,h2,h3⟩
theorem set_all (off:Nat):∀ (l:List Value) (k:Nat) (cs:Array Value),off+k+l.length≤cs.size →
 ((l.zipIdx k).foldl (fun cs (x:Value × Nat)=>cs.setIfInBounds (off+x.2) x.1) cs).toList=cs.toList.take (off+k)++l++cs.toList.drop (off+k+l.length)
 | [],k,cs,h=>by simp
 | v::l,k,cs,h=>by
   simp only [List.length_cons] at h
   rw [List.zipIdx_cons,List.foldl_cons,set_all off l (k+1) _ (by simp; omega)]
   simp only [Array.toList_setIfInBounds,List.length_cons]
   rw [List.take_set,List.drop_set_of_lt (by omega)]
   have e:(cs.toList.take (off+(k+1))).set (off+k) v=cs.toList.take (off+k)++[v]:=by
    have hlt:off+k<cs.toList.length:=by simp; omega
    rw [show off+(k+1)=off+k+1 by omega,List.take_succ_eq_append_getElem hlt,List.set_append_right _ _ (by simp; omega)]
    simp [Nat.min_eq_left (show off+k≤cs.size by omega)]
   rw [e]
   simp [show off+(k+1)+l.length=off+k+(l.length+1) by omega]
theorem AV.one_ck {v:AV} (h:v.one=true):v.ck=true:=by cases v<;>simp_all [AV.one,AV.ck]
theorem RL.one_cell {u v} (h:RL W φ w [u] [v]) (hv:v.one=true):u.cells=#[u]:=by
 have:=h.cells (by simp [AV.one_ck hv]) u (by simp)
 cases u<;>simp_all [Value.oneCell',Value.cells]
theorem wr_sound {d:TyD} {cs az off u v} (hd:d.row=false→d.sz=1) (hr:RL W φ w cs az) (hu:RL W φ w [u] [v]) (hp:(wr d az off v).1) :
 u.cells.size=d.sz∧off+d.sz≤cs.length∧RL W φ w (cs.take off++u.cells.toList++cs.drop (off+d.sz)) (wr d az off v).2∧(wr d az off v).2.length=az.length∧(∀ c ∈ u.cells.toList,c.oneCell'=true) ∧
  (az.all AV.ck=true→(wr d az off v).2.all AV.ck=true):=by
 have hl:=hr.length
 unfold wr at hp ⊢
 cases hrow:d.row<;>rw [hrow] at hp<;>simp at hp ⊢
 · obtain ⟨h1,h2,h3⟩:=hp
   have hc:=hu.one_cell h3
   rw [hc]
   have h2':az[off].plain=true:=by simpa [h1] using h2
   refine ⟨by simp [hd hrow],by rw [hd hrow]; omega,?_,?_,?_⟩
   · have:=hr.set (i:=off) (a:=az[off]) (by simp) h2' hu
     rw [List.set_eq_take_append_cons_drop,if_pos (by omega)] at this
     simpa [hd hrow] using this
   · have:=hu.cells (by simp [AV.one_ck h3]) u (by simp)
     simpa using this
   · intro hk x hx
     rcases List.mem_or_eq_of_mem_set hx with h|rfl
     · exact hk x h
     · exact AV.one_ck h3
 · obtain ⟨h1,h2,h3⟩:=hp
   have hu':=hu.cellsV (by simpa using h3)
   have hl':=hu'.length
   have hsz:u.cells.size=d.sz:=by simpa [h2] using hl'
   refine ⟨hsz,by have:=h1.1; omega,?_,?_,?_,?_⟩
   · have:=hr.over h1 hu' h2
     simpa [hsz] using this
   · unfold over; have:=h1.1; simp [h2]; omega
   · exact fun c hc=>hu'.cells (by simpa using h3) c (by simpa using hc)
   · intro hk x hx
     unfold over at hx
     simp only [List.mem_append] at hx
     rcases hx with (h|h)|h
     · exact hk x (List.mem_of_mem_take h)
     · exact h3 x h
     · exact hk x (List.mem_of_mem_drop h)
theorem fill_cond (pl:Nat→Option (Nat × TyD)):∀ (l:List (Nat × AV)) (p p':Prop) (az as':List AV),fill pl (p,az) l=some (p',as')→p'→p
 | [],p,p',az,as',h,hp=>by simp [fill] at h; rw [h.1]; exact hp
 | (i,v)::l,p,p',az,as',h,hp=>by
   simp only [fill] at h
   cases hi:pl i with
   | none=>simp [hi] at h
   | some y=>simp only [hi] at h; exact (fill_cond pl l _ _ _ _ h hp).1
theorem fill_sound (R:Rel X φ s a w) (place:Nat→Option (Nat × Nat)) (pl:Nat→Option (Nat × TyD))
 (hpl:∀ i x,pl i=some x→place i=some (x.1,x.2.sz)∧(x.2.row=false→x.2.sz=1)) :
 ∀ (l:List (Nat × Operand)) (cs:List Value) (az:List AV) (p p':Prop) (as':List AV),RL (Wr X φ s.m) φ w cs az→fill pl (p,az) (l.map fun x=>(x.1,aev s x.2))=some (p',as')→p' →
 p∧∃ cs',Instr.fill place cs.toArray (l.map fun x=>(x.1,a.eval x.2))=some cs'.toArray∧RL (Wr X φ s.m) φ w cs' as'∧as'.length=az.length∧(az.all AV.ck=true→as'.all AV.ck=true)
 | [],cs,az,p,p',as',hr,hf,hp=>by
   simp [fill] at hf
   obtain ⟨hpp,rfl⟩:=hf
   exact ⟨hpp.2 hp,cs,rfl,hr,rfl,id⟩
 | (i,x)::l,cs,az,p,p',as',hr,hf,hp=>by
   simp only [List.map_cons,fill] at hf
   cases hi:pl i with
   | none=>simp [hi] at hf
   | some y =>
     obtain ⟨off,d⟩:=y
     simp only [hi] at hf
     have hq:=fill_cond _ _ _ _ _ _ hf hp
     obtain ⟨h1,h2⟩:=hpl i _ hi
     obtain ⟨k1,k2,k3,k4,k5,k6⟩:=wr_sound h2 hr (R.ev x) hq.2
     obtain ⟨hq1,cs',hq2,hq3,hq4,hq5⟩:=fill_sound R place pl hpl l (cs.take off++(a.eval x).cells.toList++cs.drop (off+d.sz)) (wr d az off (aev s x)).2 (p∧(wr d az off (aev s x)).1) p' as' k3 hf hp
     refine ⟨hq1.1,cs',?_,hq3,by rw [hq4,k4],fun hk=>hq5 (k6 hk)⟩
     simp only [List.map_cons,Instr.fill,h1]
     rw [if_neg (by simp [k1]; omega)]
     rw [← hq2]
     congr 1
     apply Array.ext'
     rw [← Array.foldl_toList,Array.toList_zipIdx,set_all off _ 0 _ (by simp; omega)]
     simp [k1]
theorem place_struct {d:TyD} {fs} (hk:d.k = .struct fs) {j x} (hx:place T d j=some x):∃ o t',fs[j]? = some (o,t')∧T t'=some x.2∧x.1=o:=by
 simp only [place,hk,Option.bind_eq_some_iff,Option.map_eq_some_iff] at hx
 obtain ⟨⟨o,t'⟩,h1,y,h2,rfl⟩:=hx
 exact ⟨o,t',h1,h2,rfl⟩
theorem place_array {d:TyD} {n e} (hk:d.k = .array n e) {j x} (hx:place T d j=some x):j<n∧T e=some x.2∧x.1=j*x.2.sz:=by
 simp only [place,hk] at hx
 simp at hx
 obtain ⟨h1,y,h2,rfl⟩:=hx
 exact ⟨h1,h2,rfl⟩
theorem TyD.ok.struct {t d u i z fs} (h:TyD.ok P t d u i z) (hk:d.k = .struct fs):∃ gs,u = .struct gs∧gs.toList.map (fun f:Field=>(f.offset,f.type))=fs:=by
 have:=h.k; rw [hk] at this; cases u<;>simp [TK.ok] at this; exact ⟨_,rfl,this⟩
theorem TyD.ok.array {t d u i z n e} (h:TyD.ok P t d u i z) (hk:d.k = .array n e):u = .array n e:=by
 have:=h.k; rw [hk] at this; cases u<;>simp [TK.ok] at this; obtain ⟨rfl,rfl⟩:=this; rfl
theorem TyD.ok.slice {t d u i z e} (h:TyD.ok P t d u i z) (hk:d.k = .slice e):u = .slice e:=by
 have:=h.k; rw [hk] at this; cases u<;>simp [TK.ok] at this; subst this; rfl
theorem TyD.ok.string {t d u i z} (h:TyD.ok P t d u i z) (hk:d.k = .string):u = .string:=by
 have:=h.k; rw [hk] at this; cases u<;>simp [TK.ok] at this; rfl
theorem TyD.ok.int {t d u i z k} (h:TyD.ok P t d u i z) (hk:d.k = .int k):u = .int k:=by
 have:=h.k; rw [hk] at this; cases u<;>simp [TK.ok] at this; subst this; rfl
theorem TyD.ok.boolT {t d u i z} (h:TyD.ok P t d u i z) (hk:d.k = .bool):u = .bool:=by
 have:=h.k; rw [hk] at this; cases u<;>simp [TK.ok] at this; rfl
theorem get_map_fields {gs:Array Field} {fs:List (Nat × Nat)} (h:gs.toList.map (fun f:Field=>(f.offset,f.type))=fs) {j o t':Nat} (hj:fs[j]? = some (o,t')) :
 ∃ g:Field,gs[j]? = some g∧g.offset=o∧g.type=t':=by
 subst h
 rw [List.getElem?_map] at hj
 cases hg:gs.toList[j]? with
 | none=>simp [hg] at hj
 | some g=>simp [hg] at hj; exact ⟨g,by simpa using hg,hj.1,hj.2⟩
theorem build_sound (HT:TyOk P T) (R:Rel X φ s a w) {t d u i z} (h:TyD.ok P t d u i z) (ps:List (Nat × Operand)) {p cs} (hf:fill (place T d) (True,d.zero) (ps.map fun x=>(x.1,aev s x.2))=some (p,cs)) (hp:p) (hrow:d.row=true) (he:elemOk T d=true) :
 ∃ v,(Instr.build t (ps.map fun x=>(x.1,a.eval x.2)).toArray).run P w = .ok v w∧RL (Wr X φ s.m) φ w [v] [.agg cs]:=by
 have hz:=h.rep (Wr X φ s.m) φ w
 cases hk:d.k with
 | struct fs =>
   obtain ⟨gs,rfl,hgs⟩:=h.struct hk
   have hm:=mapM_some_of_forall (f:=fun f:Field=>(P.info? f.type).map fun i=>(f.offset,i.size)) (g:=fun f=>(f.offset,P.cellsOf f.type)) gs.toList (fun g hg=>by
    have:=List.all_eq_true.1 h.flds g hg
    obtain ⟨i,hi⟩:=Option.isSome_iff_exists.1 this
    simp [hi,Program.cellsOf])
   have hpl:∀ j x,place T d j=some x→(((gs.toList.map fun f:Field=>(f.offset,P.cellsOf f.type)).toArray:Array (Nat × Nat))[j]? : Option (Nat × Nat))=some (x.1,x.2.sz)∧(x.2.row=false→x.2.sz=1):=by
    intro j x hx
    obtain ⟨o,t',h1,h2,h3⟩:=place_struct hk hx
    obtain ⟨u',i',z',h4⟩:=HT _ _ h2
    obtain ⟨g,hg,rfl,rfl⟩:=get_map_fields hgs h1
    refine ⟨?_,h4.sz1⟩
    simp [hg,Program.cellsOf,h4.info,h4.size,h3]
   obtain ⟨_,cs',h1,h2,_,_⟩:=fill_sound R _ _ hpl ps _ _ _ _ _ hz hf hp
   refine ⟨_,Go.run_build w t _ cs'.toArray ?_,.agg h2 .nil⟩
   unfold Program.built
   simp only [h.info,h.un,h.zero,hm]
   exact h1
 | array n e =>
   have:=h.array hk
   subst this
   cases hTe:T e with
   | none=>simp [elemOk,hk,hTe] at he
   | some ed =>
     obtain ⟨u',i',z',h4⟩:=HT _ _ hTe
     have hpl:∀ j x,place T d j=some x→(fun i=>some (i*ed.sz,ed.sz)) j=some (x.1,x.2.sz)∧(x.2.row=false→x.2.sz=1):=by
      intro j x hx
      obtain ⟨h1,h2,h3⟩:=place_array hk hx
      rw [hTe] at h2; simp at h2; subst h2
      exact ⟨by simp [h3],h4.sz1⟩
     obtain ⟨_,cs',h1,h2,_,_⟩:=fill_sound R _ _ hpl ps _ _ _ _ _ hz hf hp
     refine ⟨_,Go.run_build w t _ cs'.toArray ?_,.agg h2 .nil⟩
     unfold Program.built
     simp only [h.info,h.un,h.zero,h4.info,h4.size]
     exact h1
 | _=>simp [TyD.row,hk] at hrow
theorem RL.z_nat:RL W φ w [.int .u64 0,.slice none 0 0] [.opq (.nat 0),.pad]:=.opq (us:=[.int .u64 0,.slice none 0 0]) (vs:=[]) rfl (.int _ _ (.nils .nil)) .nil rfl rfl
theorem RL.z_whole:RL W φ w [.bool false,.int .u64 0,.slice none 0 0] [.opq (.whole 0),.pad,.pad] :=
 .opq (us:=[.bool false,.int .u64 0,.slice none 0 0]) (vs:=[]) rfl (.bool false RL.z_nat) .nil rfl rfl
theorem RL.z_frac:RL W φ w [.bool false,.int .u64 0,.slice none 0 0,.int .u64 0,.slice none 0 0] [.opq (.frac 0),.pad,.pad,.pad,.pad] :=
 .opq (us:=[.bool false,.int .u64 0,.slice none 0 0,.int .u64 0,.slice none 0 0]) (vs:=[]) rfl (RL.z_whole.app RL.z_nat) .nil rfl rfl
end
section
variable {W:Nat→Prop} {X:Nat→Prop} {φ:Nat→Option (Option Nat)} {s:St} {a:Act} {w:World} {P:Program} {T:Nat→Option TyD}
theorem intOp_sound {op k x y p v} (h:intOp op k x y=some (p,v)) (hp:p) (t:TypeId) :
 ∃ u,(Go.binOp op t (.int k x) (.int k y)).run P w = .ok u w∧RL W φ w [u] [v]:=by
 cases op<;>simp only [intOp,Option.some.injEq,Prod.mk.injEq,reduceCtorEq] at h<;>obtain ⟨rfl,rfl⟩:=h
 case quo|rem=>simp [Go.binOp,Op.intDiv,hp]; exact .int _ _ .nil
 all_goals (simp [Go.binOp,Op.intArith,Op.intBits,Op.intCmp]; first|exact .bool _ .nil|exact .int _ _ .nil)
theorem shiftOp_sound {op k k' x y p v} (h:shiftOp op k x y=some (p,v)) (hp:p) (t:TypeId) :
 ∃ u,(Go.binOp op t (.int k x) (.int k' y)).run P w = .ok u w∧RL W φ w [u] [v]:=by
 cases op<;>simp only [shiftOp,Option.some.injEq,Prod.mk.injEq,reduceCtorEq] at h<;>obtain ⟨rfl,rfl⟩:=h <;>
  (have:¬ y<0:=by omega
   simp [Go.binOp,Op.shift,this]; exact .int _ _ .nil)
theorem strOp_sound {op x y p v} (h:strOp op x y=some (p,v)) (hp:p) (t:TypeId) :
 ∃ u,(Go.binOp op t (.string x) (.string y)).run P w = .ok u w∧RL W φ w [u] [v]:=by
 cases op<;>simp only [strOp,Option.some.injEq,Prod.mk.injEq,reduceCtorEq] at h<;>obtain ⟨rfl,rfl⟩:=h
 · have:¬ (9223372036854775807:Int)<(x.size:Int)+(y.size:Int):=by omega
   simp [Go.binOp,Op.stringOp,this]
   exact .str _ .nil
 · simp [Go.binOp,Op.stringOp]; exact .bool _ .nil
 · simp [Go.binOp,Op.stringOp]; exact .bool _ .nil
theorem isNil_sound {x v p b} (h:isNil x=some (p,b)) (hp:p) (hx:RL W φ w [v] [x]):∃ ad n c,v = .slice ad n c∧ad.isNone=b:=by
 cases x<;>simp only [isNil,Option.some.injEq,Prod.mk.injEq,reduceCtorEq] at h<;>obtain ⟨rfl,rfl⟩:=h
 · exact ⟨_,_,_,hx.nils_inv,rfl⟩
 · rcases hx.imm_inv with ⟨_,_,_,rfl,_⟩|⟨_,_,_,_,rfl,_⟩
   · exact absurd rfl hp
   · exact ⟨_,_,_,rfl,rfl⟩
theorem eqGuard_pure {op t x y} {u v:Value} (h:∀ cs,u ≠ .agg cs) (h':u ≠ .nilIface):(eqGuard op t x y u v).run P w = .ok () w:=by
 unfold eqGuard
 cases op<;>simp<;>cases u<;>simp_all
theorem run_part_str {t off v} {us:List Value} (h:P.underlying t=some .string) (hv:us[off]? = some v):(part t us.toArray off).run P w = .ok v w:=by
 unfold part
 rw [Sem.run_bind,run_isAgg' h]
 simp [TypeDesc.isRow,hv]
theorem run_eqStrs (d:Nat):∀ (gs:List Field) (k:Nat) (us vs:List Value) (az bs:List AV) (b:Bool),strF P k gs→gs.length=az.length→eqStrs az bs=some b→RL W φ w (us.drop k) az→RL W φ w (vs.drop k) bs→(Op.eqFields (d+1) us.toArray vs.toArray gs).run P w = .ok b w
 | [],k,us,vs,az,bs,b,_,hl,he,_,_=>by
   have:az=[]:=List.length_eq_zero_iff.1 hl.symm
   subst this
   cases bs with
   | nil =>
     simp only [eqStrs,Option.some.injEq] at he
     subst he
     simp [Op.eqFields]
   | cons _ _=>simp [eqStrs] at he
 | g::gs,k,us,vs,az,bs,b,hf,hl,he,h1,h2=>by
   obtain ⟨f1,f2,f3,f4⟩:=hf
   unfold eqStrs at he
   split at he
   · simp at hl
   · rename_i a x c y
     simp only [Option.map_eq_some_iff] at he
     obtain ⟨r,hr,rfl⟩:=he
     obtain ⟨v1,u1,e1,p1,q1⟩:=h1.uncons rfl
     obtain ⟨v2,u2,e2,p2,q2⟩:=h2.uncons rfl
     have k1:us[k]? = some (.string a):=by
      have:(us.drop k)[0]? = some v1:=by rw [e1]; rfl
      rw [p1.str_inv] at this
      simpa using this
     have k2:vs[k]? = some (.string c):=by
      have:(vs.drop k)[0]? = some v2:=by rw [e2]; rfl
      rw [p2.str_inv] at this
      simpa using this
     have d1:us.drop (k+1)=u1:=by
      have:=congrArg (List.drop 1) e1
      rw [List.drop_drop] at this
      simpa using this
     have d2:vs.drop (k+1)=u2:=by
      have:=congrArg (List.drop 1) e2
      rw [List.drop_drop] at this
      simpa using this
     have ih:=run_eqStrs d gs (k+1) us vs x y r f4 (by simpa using hl) hr (d1 ▸ q1) (d2 ▸ q2)
     unfold Op.eqFields
     rw [if_pos f1,f2,Sem.run_bind,run_part_str f3 k1,Result.andThen_ok,Sem.run_bind,run_part_str f3 k2,Result.andThen_ok,Sem.run_bind,run_equalIn_string w d g.type a c f3,Result.andThen_ok]
     cases hac:(a.toList == c.toList)
     · simp
     · simpa using ih
   · simp at he
theorem eqAgg_sound (HT:TyOk P T) {op t us vs xs ys p z} (h:(T t).bind (fun d=>eqAgg d op xs ys)=some (p,z)) (hp:p) (hu:RL W φ w us.toList xs) (hv:RL W φ w vs.toList ys) (xo yo:Operand) :
 ∃ r,(do eqGuard op t xo yo (.agg us) (.agg vs); Go.binOp op t (.agg us) (.agg vs):Sem Value).run P w = .ok r w∧RL W φ w [r] [z]:=by
 simp only [Option.bind_eq_some_iff] at h
 obtain ⟨d,hT,h⟩:=h
 obtain ⟨u,i,z',ht⟩:=HT _ _ hT
 have key:d.strs=true→∀ b,eqStrs xs ys=some b→xs.length=d.zero.length→(eqGuard op t xo yo (.agg us) (.agg vs)).run P w = .ok () w∧(Op.equalIn 10000 t (.agg us) (.agg vs)).run P w = .ok b w:=fun hs b hb hl=>by
  obtain ⟨s1,s2,gs,rfl,s3,s4⟩:=ht.strs hs
  have hf:P.fieldsOf t=gs:=by unfold Program.fieldsOf; rw [ht.un]
  refine ⟨run_eqGuard_agg w op t xo yo us vs s2,?_⟩
  rw [run_equalIn_struct w 9999 t us vs (by rw [hf]; exact ht.un) s1,hf]
  have:=run_eqStrs (P:=P) (w:=w) 9998 gs.toList 0 us.toList vs.toList xs ys b s4 (by omega) hb (by simpa using hu) (by simpa using hv)
  simpa using this
 unfold eqAgg at h
 split at h
 · rename_i hs
   simp only [Option.map_eq_some_iff,Prod.mk.injEq] at h
   obtain ⟨b,hb,rfl,rfl⟩:=h
   obtain ⟨k1,k2⟩:=key hs b hb hp
   refine ⟨.bool b,?_,.bool _ .nil⟩
   rw [Sem.run_bind,k1,Result.andThen_ok,run_eql_struct,k2,Result.andThen_ok]
 · rename_i hs
   simp only [Option.map_eq_some_iff,Prod.mk.injEq] at h
   obtain ⟨b,hb,rfl,rfl⟩:=h
   obtain ⟨k1,k2⟩:=key hs b hb hp
   refine ⟨.bool (!b),?_,.bool _ .nil⟩
   rw [Sem.run_bind,k1,Result.andThen_ok,run_neq_struct,k2,Result.andThen_ok]
 · simp at h
theorem binOp_sound (HT:TyOk P T) {op t u v x y p z} (h:binOp (T t) op x y=some (p,z)) (hp:p) (hu:RL W φ w [u] [x]) (hv:RL W φ w [v] [y]) (xo yo:Operand) :
 ∃ r,(do eqGuard op t xo yo u v; Go.binOp op t u v:Sem Value).run P w = .ok r w∧RL W φ w [r] [z]:=by
 unfold binOp at h
 split at h
 · rename_i k a k' b
   rw [hu.int_inv,hv.int_inv]
   rw [Sem.run_bind,eqGuard_pure (by simp) (by simp),Result.andThen_ok]
   split at h
   · exact shiftOp_sound h hp t
   · exact shiftOp_sound h hp t
   · split at h
     · rename_i e; subst e; exact intOp_sound h hp t
     · simp at h
 · rw [hu.str_inv,hv.str_inv]
   rw [Sem.run_bind,eqGuard_pure (by simp) (by simp),Result.andThen_ok]
   exact strOp_sound h hp t
 · rw [hu.bool_inv,hv.bool_inv]
   rw [Sem.run_bind,eqGuard_pure (by simp) (by simp),Result.andThen_ok]
   split at h
   · rename_i h1
     cases hT:T t with
     | none=>simp [hT] at h1
     | some d =>
       rw [hT] at h1; simp at h1
       obtain ⟨u',i,z',ht⟩:=HT _ _ hT
       simp only [Option.some.injEq,Prod.mk.injEq] at h; obtain ⟨rfl,rfl⟩:=h
       rw [run_eql_bool w t _ _ (ht.boolT h1 ▸ ht.un)]
       exact ⟨_,rfl,.bool _ .nil⟩
   · rename_i h1
     cases hT:T t with
     | none=>simp [hT] at h1
     | some d =>
       rw [hT] at h1; simp at h1
       obtain ⟨u',i,z',ht⟩:=HT _ _ hT
       simp only [Option.some.injEq,Prod.mk.injEq] at h; obtain ⟨rfl,rfl⟩:=h
       rw [run_neq_bool w t _ _ (ht.boolT h1 ▸ ht.un)]
       exact ⟨_,rfl,.bool _ .nil⟩
   · simp at h
 · obtain ⟨us,rfl,h1⟩:=hu.agg_inv
   obtain ⟨vs,rfl,h2⟩:=hv.agg_inv
   exact eqAgg_sound HT h hp h1 h2 xo yo
 · rw [hv.nils_inv]
   split at h
   all_goals
    first
    | (simp at h; done)
    | skip
   all_goals
    rename_i e h1
    cases hT:T t with
    | none=>simp [hT] at h1
    | some d =>
      rw [hT] at h1; simp at h1
      obtain ⟨u',i,z',ht⟩:=HT _ _ hT
      have hs:=ht.slice h1
      simp only [Option.map_eq_some_iff,Prod.exists] at h
      obtain ⟨q,b,h2,h3⟩:=h
      simp only [Prod.mk.injEq] at h3
      obtain ⟨rfl,rfl⟩:=h3
      obtain ⟨ad,n,c,rfl,rfl⟩:=isNil_sound h2 hp hu
      rw [Sem.run_bind,eqGuard_pure (by simp) (by simp),Result.andThen_ok]
      first
      | (rw [Lib.run_eql_slice_nil w t e ad n c 0 0 (hs ▸ ht.un)]; exact ⟨_,rfl,.bool _ .nil⟩)
      | (rw [Go.run_neq_slice_nil w t e ad n c (hs ▸ ht.un)]; exact ⟨_,rfl,.bool _ .nil⟩)
 · simp at h
theorem unOp_sound {op u x p z} (h:unOp op x=some (p,z)) (hu:RL W φ w [u] [x]):∃ r,(Op.unary op u).run P w = .ok r w∧RL W φ w [r] [z]:=by
 unfold unOp at h
 split at h<;>simp only [Option.some.injEq,Prod.mk.injEq,reduceCtorEq] at h
 · obtain ⟨rfl,rfl⟩:=h
   rw [hu.int_inv]
   simp [Op.unary,Op.intArith]; exact .int _ _ .nil
 · obtain ⟨rfl,rfl⟩:=h
   rw [hu.bool_inv]
   simp [Op.unary]; exact .bool _ .nil
theorem convert_sound {t t' d d' u i z u' i' z'} (h1:TyD.ok P t d u i z) (h2:TyD.ok P t' d' u' i' z') {v x p r} (h:convert d d' x=some (p,r)) (hp:p) (hv:RL W φ w [v] [x]) :
 ∃ y,(Go.convert t t' v).run P w = .ok y w∧RL W φ w [y] [r]:=by
 unfold AM.convert at h
 split at h
 · rename_i k q n hk
   simp only [Option.some.injEq,Prod.mk.injEq] at h
   obtain ⟨rfl,rfl⟩:=h
   rw [hv.int_inv]
   have e2:=h2.int hk
   subst e2
   refine ⟨_,?_,.int _ _ .nil⟩
   cases u<;>simp [Go.convert,run_underlying h1.un,run_underlying h2.un,Conv.intToInt]
 · split at h
   · rename_i hk' _ hk
     simp only [Option.some.injEq,Prod.mk.injEq] at h
     obtain ⟨rfl,rfl⟩:=h
     rw [hv.str_inv]
     have e2:=h2.string hk'
     have e1:=h1.string hk
     subst e1; subst e2
     exact ⟨_,by simp [Go.convert,run_underlying h1.un,run_underlying h2.un],.str _ .nil⟩
   · simp at h
 · simp at h
theorem run_fieldAt {t d u i z f off d'} (HT:TyOk P T) (hT:T t=some d) (h:TyD.ok P t d u i z) (hf:fieldOf T t f=some (off,d')) (b o:Nat) :
 (Instr.fieldAt t (.pointer (some ⟨b,o,none⟩)) f).run P w = .ok (.pointer (some ⟨b,o+off,none⟩)) w:=by
 unfold fieldOf at hf
 simp only [hT,Option.bind_some] at hf
 split at hf
 · rename_i fs hk
   simp only [Option.bind_eq_some_iff,Option.map_eq_some_iff,Prod.exists,Prod.mk.injEq] at hf
   obtain ⟨o',t',h1,e,h2,rfl,rfl⟩:=hf
   obtain ⟨gs,rfl,hgs⟩:=h.struct hk
   obtain ⟨g,hg,rfl,rfl⟩:=get_map_fields hgs h1
   obtain ⟨u',i',z',h4⟩:=HT _ _ h2
   have hs:(sizeOf g.type).run P w = .ok i'.size w:=run_sizeOf' h4.info w
   have hp:i'.size ≠ 0:=by have:=h4.pos; rw [h4.size]; omega
   simp [Instr.fieldAt,run_underlying h.un,hg,Instr.sureAddr,fieldPlace,hs,hp,Addr.add_mid]
 · simp at hf
theorem run_field {t d u i z f off d' cs az} (HT:TyOk P T) (hT:T t=some d) (h:TyD.ok P t d u i z) (hf:fieldOf T t f=some (off,d')) (hr:RL W φ w cs az) (hp:(rd d' az off).1) :
 ∃ y,(Instr.field t (.agg cs.toArray) f).run P w = .ok y w∧RL W φ w [y] [(rd d' az off).2]:=by
 unfold fieldOf at hf
 simp only [hT,Option.bind_some] at hf
 split at hf
 · rename_i fs hk
   simp only [Option.bind_eq_some_iff,Option.map_eq_some_iff,Prod.exists,Prod.mk.injEq] at hf
   obtain ⟨o',t',h1,e,h2,rfl,rfl⟩:=hf
   obtain ⟨gs,rfl,hgs⟩:=h.struct hk
   obtain ⟨g,hg,rfl,rfl⟩:=get_map_fields hgs h1
   obtain ⟨u',i',z',h4⟩:=HT _ _ h2
   obtain ⟨y,h5,h6⟩:=run_part h4 hr hp
   refine ⟨y,?_,h6⟩
   simp [Instr.field,run_underlying h.un,hg,asAgg,h5]
 · simp at hf
theorem index_sound {t d u i z} (HT:TyOk P T) (h:TyD.ok P t d u i z) {v x j k p r} (hx:index T x d j=some (p,r)) (hp:p) (hv:RL W φ w [v] [x]) :
 ∃ y,(Instr.index t v (.int k j)).run P w = .ok y w∧RL W φ w [y] [r]:=by
 unfold index at hx
 split at hx
 · rename_i cs n e hk
   simp only [Option.map_eq_some_iff,Prod.mk.injEq] at hx
   obtain ⟨ed,h1,rfl,rfl⟩:=hx
   obtain ⟨u',i',z',h4⟩:=HT _ _ h1
   obtain ⟨us,rfl,hr⟩:=hv.agg_inv
   obtain ⟨y,h5,h6⟩:=run_part h4 hr hp.2
   refine ⟨y,?_,h6⟩
   have hu:=h.array hk
   subst hu
   have hs:(sizeOf e).run P w = .ok i'.size w:=run_sizeOf' h4.info w
   simp [Instr.index,asIntOf,run_underlying h.un,hp.1.1,hp.1.2,hs,h4.size]
   simpa using h5
 · rename_i s hk
   simp only [Option.some.injEq,Prod.mk.injEq] at hx
   obtain ⟨rfl,rfl⟩:=hx
   rw [hv.str_inv]
   have hu:=h.string hk
   subst hu
   have hlt:j.toNat<s.size:=by omega
   refine ⟨_,?_,.int _ _ .nil⟩
   have e1:s[j.toNat]? = some s[j.toNat]:=getElem?_pos s _ hlt
   have e2:s.get! j.toNat=s[j.toNat]:=by
    show s.data[j.toNat]! = s.data[j.toNat]
    rw [getElem!_pos]
   simp only [Instr.index,asIntOf,Sem.run_bind,Sem.run_pure,run_underlying h.un,Result.andThen_ok,if_pos hp.1,e1,e2]
 · simp at hx
end
section
variable {W:Nat→Prop} {X:Nat→Prop} {φ:Nat→Option (Option Nat)} {s:St} {a:Act} {w:World} {P:Program} {T:Nat→Option TyD}
theorem RelM.alive {m} (R:RelM X φ m w) {r} (h:alive m r):∃ b cs c e,φ r=some (some b)∧objCells (m r)=some cs∧w.heap[b]? = some (.cells c e (0,0))∧cs.length≤c.size∧RL (Wr X φ m) φ w (c.toList.take cs.length) cs∧cs.all AV.ck=true:=by
 have ho:=R.obj r
 unfold AM.alive at h
 cases hm:m r<;>rw [hm] at h ho<;>simp [objCells] at h
 all_goals
  obtain ⟨b,hb,c,e,h1,h2,h3,h4⟩:=ho
  exact ⟨b,_,c,e,hb,rfl,h1,h2,h3,h4⟩
theorem alive_of {m:Nat→AObj} {r cs} (h:objCells (m r)=some cs):AM.alive m r:=by simp [AM.alive,h]
theorem indexAddr_sound {m t d u i z} (HT:TyOk P T) (h:TyD.ok P t d u i z) (R:RelM X φ m w) {v x j k p r} (hx:indexAddr T m x d j=some (p,r)) (hp:p) (hv:RL (Wr X φ m) φ w [v] [x]) :
 ∃ y,(Instr.indexAt t v (.int k j)).run P w = .ok y w∧RL (Wr X φ m) φ w [y] [r]:=by
 unfold indexAddr at hx
 split at hx
 · rename_i rr off n e hk
   simp only [Option.map_eq_some_iff,Prod.mk.injEq] at hx
   obtain ⟨ed,h1,rfl,rfl⟩:=hx
   obtain ⟨u',i',z',h4⟩:=HT _ _ h1
   obtain ⟨b,cs,c,e',hb,_⟩:=R.alive hp.2
   rw [hv.ref_inv hb]
   have hu:=h.array hk
   subst hu
   have hs:(sizeOf e).run P w = .ok i'.size w:=run_sizeOf' h4.info w
   refine ⟨_,?_,.ref hb .nil⟩
   simp [Instr.indexAt,asIntOf,run_underlying h.un,Instr.sureAddr,hp.1.1,hp.1.2,hs,h4.size,Addr.add_mid]
 · rename_i cs n e hk
   simp only [Option.map_eq_some_iff,Prod.mk.injEq] at hx
   obtain ⟨ed,h1,rfl,rfl⟩:=hx
   obtain ⟨u',i',z',h4⟩:=HT _ _ h1
   obtain ⟨b,o,us,rfl,h5,h6,h7⟩:=hv.fref_inv
   have hu:=h.array hk
   subst hu
   have hs:(sizeOf e).run P w = .ok i'.size w:=run_sizeOf' h4.info w
   refine ⟨_,?_,.fref (b:=b) (o:=o+j.toNat * ed.sz) (us:=us.drop (j.toNat * ed.sz)) (fun hne=>h5 (by rintro rfl; simp at hne)) (fun q u hq=>?_) (h7.split _ hp.2.1 hp.2.2).2 .nil⟩
   · simp [Instr.indexAt,asIntOf,run_underlying h.un,Instr.sureAddr,hp.1.1,hp.1.2,hs,h4.size,Addr.add_mid]
   · rw [Nat.add_assoc]; exact h6 _ _ (by simpa using hq)
 · rename_i rr off n sz e hk
   simp only [Option.map_eq_some_iff,Prod.mk.injEq] at hx
   obtain ⟨ed,h1,rfl,rfl⟩:=hx
   obtain ⟨u',i',z',h4⟩:=HT _ _ h1
   obtain ⟨b,cs,c,e',hb,_⟩:=R.alive hp.2.2
   obtain ⟨cap,rfl,_⟩:=hv.sl_inv hb
   have hu:=h.slice hk
   subst hu
   have hs:(sizeOf e).run P w = .ok i'.size w:=run_sizeOf' h4.info w
   refine ⟨_,?_,.ref hb .nil⟩
   simp [Instr.indexAt,asIntOf,run_underlying h.un,hp.1.1,hp.1.2,hs,h4.size,hp.2.1,Addr.add_mid]
 · rename_i n cs e hk
   simp only [Option.map_eq_some_iff,Prod.mk.injEq] at hx
   obtain ⟨ed,h1,rfl,rfl⟩:=hx
   obtain ⟨u',i',z',h4⟩:=HT _ _ h1
   have hu:=h.slice hk
   subst hu
   have hs:(sizeOf e).run P w = .ok i'.size w:=run_sizeOf' h4.info w
   rcases hv.imm_inv with ⟨_,_,rfl,rfl,rfl⟩|⟨b,o,cap,us,rfl,hcap,h5,h6,h7⟩
   · exfalso; have:=hp.1; omega
   · refine ⟨_,?_,.fref (b:=b) (o:=o+j.toNat * ed.sz) (us:=us.drop (j.toNat * ed.sz)) (fun hne=>h5 (by rintro rfl; simp at hne)) (fun q u hq=>?_) (h7.split _ hp.2.1 hp.2.2).2 .nil⟩
     · simp [Instr.indexAt,asIntOf,run_underlying h.un,hp.1.1,hp.1.2,hs,h4.size,Addr.add_mid]
     · rw [Nat.add_assoc]; exact h6 _ _ (by simpa using hq)
 · simp at hx
theorem bound_sound {d:Int} {x:Option AV} {l:Int} {xv:Option Value} (h:bound d x=some l) (hx:∀ q,x=some q→∃ y,xv=some y∧RL W φ w [y] [q]) (hn:x=none→xv=none) :
 (xv=none∧x=none∧l=d)∨∃ k,xv=some (.int k l):=by
 unfold bound at h
 split at h
 · rename_i k i
   obtain ⟨y,hy,hr⟩:=hx _ rfl
   simp at h; subst h
   exact .inr ⟨k,by rw [hy,hr.int_inv]⟩
 · simp at h
   exact .inl ⟨hn rfl,rfl,h.symm⟩
 · simp at h
theorem run_sliceBound {k} {i:Int} (y:Nat) {c} (h:0≤i∧i≤(y:Int)):(Instr.sliceBound (.int k i) y c).run P w = .ok i.toNat w:=by
 simp [Instr.sliceBound,asIntOf,h]
theorem run_sliceBounds {b:Bool} {len cap:Nat} {lo hi mx:Option Value} {l h q:Int} (hl:(lo=none∧l=0)∨∃ k,lo=some (.int k l)) (hh:(hi=none∧h=len)∨∃ k,hi=some (.int k h))
 (hm:(mx=none∧q=cap)∨(∃ k,mx=some (.int k q))∧hi ≠ none) (h0:0≤l) (h1:l≤h) (h2:h≤q) (h3:q≤cap) :
 (Instr.sliceBounds b len cap lo hi mx).run P w = .ok (l.toNat,h.toNat,q.toNat) w:=by
 have e1:∀ {k c},(Instr.sliceBound (.int k h) cap c).run P w = .ok h.toNat w:=run_sliceBound cap (by omega)
 have e2:∀ {k c},(Instr.sliceBound (.int k l) h.toNat c).run P w = .ok l.toNat w:=run_sliceBound h.toNat (by omega)
 have e3:∀ {k c},(Instr.sliceBound (.int k q) cap c).run P w = .ok q.toNat w:=run_sliceBound cap (by omega)
 have e4:∀ {k c},(Instr.sliceBound (.int k h) q.toNat c).run P w = .ok h.toNat w:=run_sliceBound q.toNat (by omega)
 unfold Instr.sliceBounds
 rcases hm with ⟨rfl,rfl⟩|⟨⟨k,rfl⟩,hne⟩
 · rcases hh with ⟨rfl,rfl⟩|⟨k',rfl⟩<;>rcases hl with ⟨rfl,rfl⟩|⟨k'',rfl⟩<;>simp [e1]
   · have:=@e2 k'' (if false=true then BoundsCode.slice3C else BoundsCode.sliceB)
     simp at this
     simp [this]
   · have:=@e2 k'' (if false=true then BoundsCode.slice3C else BoundsCode.sliceB)
     simp at this
     simp [this]
 · rcases hh with ⟨rfl,rfl⟩|⟨k',rfl⟩
   · exact absurd rfl hne
   · rcases hl with ⟨rfl,rfl⟩|⟨k'',rfl⟩<;>simp [e3,e4]
     simp [e2]
theorem slice_sound {m t d u i z} (HT:TyOk P T) (h:TyD.ok P t d u i z) (R:RelM X φ m w) {v x p r} {lo hi mx:Option AV} {lov hiv mxv:Option Value} (hx:sliceOp T m x d lo hi mx=some (p,r)) (hp:p) (hv:RL (Wr X φ m) φ w [v] [x])
 (hlo:∀ q,lo=some q→∃ y,lov=some y∧RL (Wr X φ m) φ w [y] [q]) (hlo':lo=none→lov=none) (hhi:∀ q,hi=some q→∃ y,hiv=some y∧RL (Wr X φ m) φ w [y] [q]) (hhi':hi=none→hiv=none)
 (hmx:∀ q,mx=some q→∃ y,mxv=some y∧RL (Wr X φ m) φ w [y] [q]) (hmx':mx=none→mxv=none) (hmh:hiv=none→mxv=none) :
 ∃ y,(Instr.sliceAt t v lov hiv mxv).run P w = .ok y w∧RL (Wr X φ m) φ w [y] [r]:=by
 unfold sliceOp at hx
 split at hx
 · rename_i s hk
   simp only [Option.bind_eq_some_iff,Option.map_eq_some_iff,Prod.mk.injEq] at hx
   obtain ⟨l,h1,h',h2,rfl,rfl⟩:=hx
   obtain ⟨h3,h4,h5,h6⟩:=hp
   have hm:mx=none:=by simpa using h3
   have hu:=h.string hk
   subst hu
   rw [hv.str_inv,hmx' hm]
   have b:=run_sliceBounds (P:=P) (w:=w) (b:=false) (len:=s.size) (cap:=s.size) (mx:=none) (q:=s.size) (by rcases bound_sound h1 hlo hlo' with ⟨a,_,b⟩|h; exact .inl ⟨a,b⟩; exact .inr h) (by rcases bound_sound h2 hhi hhi' with ⟨a,_,b⟩|h; exact .inl ⟨a,b⟩; exact .inr h) (.inl ⟨rfl,rfl⟩) h4 h5 h6 (Int.le_refl _)
   refine ⟨_,?_,.str _ .nil⟩
   simp [Instr.sliceAt,Instr.slice,run_underlying h.un,b]
 · rename_i rr off n sz e hk
   simp only [Option.bind_eq_some_iff,Option.map_eq_some_iff,Prod.mk.injEq] at hx
   obtain ⟨d',h0,l,h1,h',h2,q,h3,rfl,rfl⟩:=hx
   obtain ⟨⟨k1,k2,k3,k4,k5⟩,k6,k7⟩:=hp
   obtain ⟨u',i',z',h4⟩:=HT _ _ h0
   obtain ⟨b,cs,c,e',hb,_⟩:=R.alive k6
   obtain ⟨cap,rfl,hcap,c',e'',fr,hh,hsz⟩:=hv.sl_inv hb
   have hu:=h.slice hk
   subst hu
   subst k5
   have hs:(sizeOf e).run P w = .ok i'.size w:=run_sizeOf' h4.info w
   have hlov:=bound_sound h1 hlo hlo'
   have hhiv:=bound_sound h2 hhi hhi'
   rcases bound_sound h3 hmx hmx' with ⟨m1,m2,m3⟩|⟨k,hk'⟩
   · have b1:=run_sliceBounds (P:=P) (w:=w) (b:=true) (len:=n) (cap:=cap) (lo:=lov) (hi:=hiv) (mx:=mxv) (l:=l) (h:=q) (q:=cap) (by rcases hlov with ⟨a,_,b⟩|h; exact .inl ⟨a,b⟩; exact .inr h) (by rcases hhiv with ⟨a,_,b⟩|h; exact .inl ⟨a,b⟩; exact .inr h) (.inl ⟨m1,rfl⟩) k1 k3 (by omega) (Int.le_refl _)
     refine ⟨.slice (some ⟨b,off+l.toNat * sz,none⟩) (q.toNat-l.toNat) (cap-l.toNat),?_,?_⟩
     · simp only [Instr.sliceAt,Instr.slice,Sem.run_bind,run_underlying h.un,Result.andThen_ok,b1,hs,Sem.run_pure,Int.toNat_natCast,h4.size,k7,Option.map_some,Addr.add_mid]
       congr 2
       split
       · have:l=0:=by omega
         simp [this]
       · rfl
     · rw [show (q-l).toNat=q.toNat-l.toNat by omega]
       refine .sl hb (by omega) ⟨c',e'',fr,hh,?_⟩ .nil
       have:(l.toNat+(cap-l.toNat))*sz=cap*sz:=by congr 1; omega
       rw [Nat.add_mul] at this
       omega
   · have b1:=run_sliceBounds (P:=P) (w:=w) (b:=true) (len:=n) (cap:=cap) (lo:=lov) (hi:=hiv) (mx:=mxv) (l:=l) (h:=q) (q:=q) (by rcases hlov with ⟨a,_,b⟩|h; exact .inl ⟨a,b⟩; exact .inr h) (by rcases hhiv with ⟨a,_,b⟩|h; exact .inl ⟨a,b⟩; exact .inr h) (.inr ⟨⟨k,hk'⟩,fun hn=>by rw [hmh hn] at hk'; simp at hk'⟩) k1 k3 (Int.le_refl _) (by omega)
     refine ⟨.slice (some ⟨b,off+l.toNat * sz,none⟩) (q.toNat-l.toNat) (q.toNat-l.toNat),?_,?_⟩
     · simp only [Instr.sliceAt,Instr.slice,Sem.run_bind,run_underlying h.un,Result.andThen_ok,b1,hs,Sem.run_pure,h4.size,k7,Option.map_some,Addr.add_mid]
       congr 2
       split
       · have:l=0:=by omega
         simp [this]
       · rfl
     · rw [show (q-l).toNat=q.toNat-l.toNat by omega]
       refine .sl hb (by omega) ⟨c',e'',fr,hh,?_⟩ .nil
       have:(l.toNat+(q.toNat-l.toNat))*sz≤cap*sz:=Nat.mul_le_mul_right _ (by omega)
       rw [Nat.add_mul] at this
       omega
 · rename_i n cs e hk
   simp only [Option.bind_eq_some_iff,Option.map_eq_some_iff,Prod.mk.injEq] at hx
   obtain ⟨d',h0,l,h1,h',h2,q,h3,rfl,rfl⟩:=hx
   obtain ⟨⟨k1,k3,k4,k5,k6⟩,k7⟩:=hp
   obtain ⟨u',i',z',h4⟩:=HT _ _ h0
   have hu:=h.slice hk
   subst hu
   subst k5
   have hs:(sizeOf e).run P w = .ok i'.size w:=run_sizeOf' h4.info w
   have hlov:=bound_sound h1 hlo hlo'
   have hhiv:=bound_sound h2 hhi hhi'
   have fin:∀ (cap:Nat) (ad:Option Addr) (Q:Int),n≤cap→q≤Q→Q≤cap→((mxv=none∧Q=cap)∨(∃ k,mxv=some (.int k Q))∧hiv ≠ none) →
    (Instr.sliceAt t (.slice ad n cap) lov hiv mxv).run P w = .ok (.slice (if Q.toNat=l.toNat then ad else ad.map (·.add (l.toNat * d'.sz))) (q.toNat-l.toNat) (Q.toNat-l.toNat)) w:=by
    intro cap ad Q hcap hQ1 hQ2 hQ3
    have b1:=run_sliceBounds (P:=P) (w:=w) (b:=true) (len:=n) (cap:=cap) (lo:=lov) (hi:=hiv) (mx:=mxv) (l:=l) (h:=q) (q:=Q) (by rcases hlov with ⟨a,_,b⟩|h; exact .inl ⟨a,b⟩; exact .inr h) (by rcases hhiv with ⟨a,_,b⟩|h; exact .inl ⟨a,b⟩; exact .inr h) hQ3 k1 k3 hQ1 hQ2
    simp only [Instr.sliceAt,Instr.slice,Sem.run_bind,run_underlying h.un,Result.andThen_ok,b1,hs,Sem.run_pure,h4.size]
   have fin':∀ (cap:Nat) (ad:Option Addr),n≤cap→∃ Q:Int,q≤Q∧Q≤cap∧((mxv=none∧Q=cap)∨(∃ k,mxv=some (.int k Q))∧hiv ≠ none):=by
    intro cap ad hcap
    rcases bound_sound h3 hmx hmx' with ⟨m1,m2,m3⟩|⟨k,hk'⟩
    · exact ⟨cap,by omega,by omega,.inl ⟨m1,rfl⟩⟩
    · exact ⟨q,by omega,by omega,.inr ⟨⟨k,hk'⟩,fun hn=>by rw [hmh hn] at hk'; simp at hk'⟩⟩
   rw [show (q-l).toNat=q.toNat-l.toNat by omega] at k7 ⊢
   rcases hv.imm_inv with ⟨ad,cap,rfl,rfl,rfl⟩|⟨b,o,cap,us,rfl,hcap,h5,h6,h7⟩
   · obtain ⟨Q,q1,q2,q3⟩:=fin' cap ad (by omega)
     refine ⟨_,fin cap ad Q (by omega) q1 q2 q3,?_⟩
     rw [show q.toNat-l.toNat=0 by omega]
     simp
     exact .imm0 _ _ .nil
   · obtain ⟨Q,q1,q2,q3⟩:=fin' cap (some ⟨b,o,none⟩) (by omega)
     refine ⟨_,fin cap _ Q (by omega) q1 q2 q3,?_⟩
     by_cases hz:q.toNat-l.toNat=0
     · rw [hz]; simp; exact .imm0 _ _ .nil
     · rw [if_neg (by omega)]
       simp only [Option.map_some,Addr.add_mid]
       refine .imm (us:=(us.drop (l.toNat * d'.sz)).take ((q.toNat-l.toNat)*d'.sz)) (by omega) (fun hne=>h5 (by rintro rfl; simp at hne)) (fun j u hj=>?_) (h7.cut k7) .nil
       rw [List.getElem?_take] at hj
       split at hj
       · rw [Nat.add_assoc]; exact h6 _ _ (by simpa using hj)
       · simp at hj
 · rename_i rr off n e hk
   split at hx
   · rename_i hnn
     have hmn:mx=none:=by simpa using hnn
     simp only [Option.bind_eq_some_iff,Option.map_eq_some_iff,Prod.mk.injEq] at hx
     obtain ⟨ed,h0,l,h1,h',h2,cs,h3,rfl,rfl⟩:=hx
     obtain ⟨⟨k1,k2,k3,k4⟩,k6⟩:=hp
     obtain ⟨u',i',z',h4⟩:=HT _ _ h0
     obtain ⟨b,cs',c,e',hb,hc',hh,hlen,_⟩:=R.alive (alive_of h3)
     obtain rfl:cs=cs':=Option.some.inj (h3.symm.trans hc')
     rw [hv.ref_inv hb,hmx' hmn]
     have hu:=h.array hk
     subst hu
     have hs:(sizeOf e).run P w = .ok i'.size w:=run_sizeOf' h4.info w
     have hlov:=bound_sound h1 hlo hlo'
     have hhiv:=bound_sound h2 hhi hhi'
     have b1:=run_sliceBounds (P:=P) (w:=w) (b:=false) (len:=n) (cap:=n) (lo:=lov) (hi:=hiv) (mx:=none) (l:=l) (h:=h') (q:=n) (by rcases hlov with ⟨a,_,b⟩|h; exact .inl ⟨a,b⟩; exact .inr h) (by rcases hhiv with ⟨a,_,b⟩|h; exact .inl ⟨a,b⟩; exact .inr h) (.inl ⟨rfl,rfl⟩) k1 k2 k3 (Int.le_refl _)
     refine ⟨.slice (some ⟨b,off+l.toNat * ed.sz,none⟩) (h'.toNat-l.toNat) (n-l.toNat),?_,?_⟩
     · simp only [Instr.sliceAt,Instr.sureAddr,Sem.run_bind,run_underlying h.un,Result.andThen_ok,b1,hs,Sem.run_pure,Int.toNat_natCast,h4.size,Option.map_some,Addr.add_mid]
       congr 2
       split
       · have:l=0:=by omega
         simp [this]
       · rfl
     · rw [show (h'-l).toNat=h'.toNat-l.toNat by omega]
       refine .sl hb (by omega) ⟨c,e',_,hh,?_⟩ .nil
       have:(l.toNat+(n-l.toNat))*ed.sz=n*ed.sz:=by congr 1; omega
       rw [Nat.add_mul] at this
       omega
   · simp at hx
 · simp at hx
theorem len_sound {m t d u i z e ty} (h:TyD.ok P t d u i z) (R:RelM X φ m w) {v x p n} (hk:d.k = .slice e) (hx:lenOp m x=some (p,n)) (hp:p) (hv:RL (Wr X φ m) φ w [v] [x]) :
 (Builtin.len_ #[t] ty #[v]).run P w = .ok (.int .i64 n) w:=by
 have hu:=h.slice hk
 subst hu
 have key:∀ ad c,v = .slice ad n c→(Builtin.len_ #[t] ty #[v]).run P w = .ok (.int .i64 n) w:=by
  rintro ad c rfl
  simp [Builtin.len_,run_underlying h.un,goInt]
 cases x<;>simp only [lenOp,Option.some.injEq,Prod.mk.injEq,reduceCtorEq] at hx
 · obtain ⟨rfl,rfl⟩:=hx; exact key _ _ hv.nils_inv
 · obtain ⟨rfl,rfl⟩:=hx
   obtain ⟨b,_,_,_,hb,_⟩:=R.alive hp
   obtain ⟨cap,rfl,_⟩:=hv.sl_inv hb
   exact key _ _ rfl
 · obtain ⟨rfl,rfl⟩:=hx
   rcases hv.imm_inv with ⟨_,_,rfl,rfl,_⟩|⟨_,_,_,_,rfl,_⟩
   · exact key _ _ rfl
   · exact key _ _ rfl
 · rename_i x
   cases x<;>simp only [lenP,Option.map_none,Option.map_some,Option.some.injEq,Prod.mk.injEq,reduceCtorEq] at hx
   obtain ⟨rfl,rfl⟩:=hx
   cases hv with
   | opq h1 h2 h3 e1 e2 =>
     rename_i us vs _
     have hus:us=[v]:=by
      obtain ⟨y,rfl⟩:=List.length_eq_one_iff.1 h1
      simp at e1; rw [e1.1]
     subst hus
     rcases RL.imm_inv h2 with ⟨_,_,rfl,h4,_⟩|⟨_,_,_,_,rfl,_⟩
     · rw [h4] at key ⊢; exact key _ _ rfl
     · exact key _ _ rfl
theorem RL.bytes:∀ (cs:List AV) (us:List Value),RL W φ w us cs→cs.all isB=true→∃ ns:List Int,us=ns.map (Value.int .u8)∧cs=ns.map (AV.int .u8)
 | [],us,h,_=>⟨[],by have:=h.length; simp at this; exact this,rfl⟩
 | c::cs,us,h,hb=>by
   simp only [List.all_cons,Bool.and_eq_true] at hb
   obtain ⟨hb1,hb2⟩:=hb
   cases c<;>try (simp [isB] at hb1)
   rename_i k n
   cases k<;>simp [isB] at hb1
   obtain ⟨v,vs,rfl,h1,h2⟩:=h.uncons rfl
   obtain ⟨ns,rfl,e2⟩:=RL.bytes cs vs h2 hb2
   rw [h1.int_inv]
   exact ⟨n::ns,rfl,by rw [e2]; rfl⟩
theorem push_all:∀ (ns:List Int) (r:ByteArray),ns.foldl (fun r n=>r.push (UInt8.ofNat n.toNat)) r=⟨r.data++(ns.map fun n=>UInt8.ofNat n.toNat).toArray⟩
 | [],r=>by simp
 | n::ns,r=>by
   rw [List.foldl_cons,push_all ns]
   simp [ByteArray.push]
theorem bytesS_push (ns:List Int):ns.foldl (fun r n=>r.push (UInt8.ofNat n.toNat)) ByteArray.empty=bytesS (ns.map (AV.int .u8)):=by
 rw [push_all]; unfold bytesS
 congr 1
 rw [List.map_map]
 simp [ByteArray.empty,ByteArray.emptyWithCapacity]
 rfl
theorem strM_sound {m t t' d d' u i z u' i' z'} (HT:TyOk P T) (h1:TyD.ok P t d u i z) (h2:TyD.ok P t' d' u' i' z') (R:RelM X φ m w) {v x p r} (h:strM T m d d' x=some (p,r)) (hp:p) (hv:RL (Wr X φ m) φ w [v] [x]) :
 ∃ y,(Go.convert t t' v).run P w = .ok y w∧RL (Wr X φ m) φ w [y] [r]:=by
 cases x<;>try exact convert_sound h1 h2 h hp hv
 rename_i o off n k
 simp only [strM] at h
 split at h
 · rename_i e hk hk'
   split at h
   · rename_i hu
     simp only [Option.map_eq_some_iff,Prod.mk.injEq] at h
     obtain ⟨cs,hc,rfl,rfl⟩:=h
     obtain ⟨hcut,rfl,hb⟩:=hp
     have e1:=h1.slice hk
     have e2:=h2.string hk'
     subst e1; subst e2
     obtain ⟨ed,hT,hed⟩:∃ ed,T e=some ed∧ed.k = .int .u8:=by
      unfold isU8 at hu
      split at hu
      · rename_i d hd
        split at hu
        · rename_i hk; exact ⟨d,hd,hk⟩
        · simp at hu
      · simp at hu
     obtain ⟨ue,ie,ze,hte⟩:=HT _ _ hT
     have e3:=hte.int hed
     subst e3
     have ho:=R.obj o
     have hread:∃ b us,φ o=some (some b)∧Reads w b 0 us∧RL (Wr X φ m) φ w us cs:=by
      cases hm:m o<;>rw [hm] at hc ho<;>simp [objCells] at hc
      all_goals
       subst hc
       obtain ⟨b,hb,c,e,hh,hl,hr,_⟩:=ho
       refine ⟨b,_,hb,?_,hr⟩
       intro j u hj
       rw [List.getElem?_take] at hj
       split at hj
       · rw [cell_of_row w b _ c e _ hh]; simpa using hj
       · simp at hj
     obtain ⟨b,us,hb',hre,hrl⟩:=hread
     obtain ⟨cap,rfl,_⟩:=hv.sl_inv hb'
     have hcl:=hrl.cut hcut
     obtain ⟨ns,hns,hcs⟩:=RL.bytes _ _ hcl hb
     have hll:((us.drop off).take n).length=n:=by
      have:=hrl.length
      have h3:=hcut.1
      rw [List.length_take,List.length_drop]; omega
     have hrun:(loadCells ⟨b,off,none⟩ n).run P w = .ok (ns.map (Value.int .u8)).toArray w:=by
      have:=run_loadCells_list (P:=P) w ⟨b,off,none⟩ ((us.drop off).take n) (fun j v hj=>by
       rw [Addr.add_mid]
       rw [List.getElem?_take] at hj
       split at hj
       · rw [List.getElem?_drop] at hj
         have:=hre _ _ hj
         simpa using this
       · simp at hj)
      rw [hll,hns] at this; exact this
     refine ⟨_,?_,.str _ .nil⟩
     rw [run_convert_bytes_string w t t' e _ _ _ h1.un hte.un h2.un,run_bytesToString w _ _ _ _ hrun,bytesS_push,hcs]
   · simp at h
 · simp at h
theorem pev_sound (HT:TyOk P T) {o:Oper} (R:Rel X φ s a w) {p v} (h:pev T s o=some (p,v)) (hp:p) :
 ∃ u,(execOp a.eval o).run P w = .ok (.value u) w∧RL (Wr X φ s.m) φ w [u] [v]:=by
 unfold pev at h
 unfold execOp
 split at h
 · rename_i x ho
   simp only [Option.some.injEq,Prod.mk.injEq] at h
   obtain ⟨rfl,rfl⟩:=h
   rw [ho]
   exact ⟨_,rfl,R.ev x⟩
 · rename_i x ho
   simp only [Option.some.injEq,Prod.mk.injEq] at h
   obtain ⟨rfl,rfl⟩:=h
   rw [ho]
   exact ⟨_,rfl,R.ev x⟩
 · rename_i c x y ho
   split at h
   · rename_i b hb
     simp only [Option.some.injEq,Prod.mk.injEq] at h
     obtain ⟨rfl,rfl⟩:=h
     have:=R.ev c
     rw [hb] at this
     simp only [ho,this.bool_inv,asBool,Sem.run_bind,Sem.run_pure,Result.andThen_ok]
     cases b
     · exact ⟨_,rfl,R.ev y⟩
     · exact ⟨_,rfl,R.ev x⟩
   · simp at h
 · rename_i t ps ho
   simp only [Option.bind_eq_some_iff,Option.map_eq_some_iff,Prod.exists,Prod.mk.injEq] at h
   obtain ⟨d,hT,q,cs,hf,rfl,rfl⟩:=h
   obtain ⟨u,i,z,ht⟩:=HT _ _ hT
   obtain ⟨y,h1,h2⟩:=build_sound HT R ht ps.toList hf hp.1 hp.2.1 hp.2.2
   refine ⟨y,?_,h2⟩
   have e:(ps.map fun (i,x)=>(i,a.eval x))=(ps.toList.map fun x=>(x.1,a.eval x.2)).toArray:=by
    apply Array.ext'; simp
   simp only [ho,Sem.run_bind,e,h1,Result.andThen_ok]
   rfl
 · rename_i t x ho
   simp only [Option.bind_eq_some_iff,Option.map_eq_some_iff,Prod.exists] at h
   obtain ⟨d,hT,cs,off,hq,h⟩:=h
   obtain ⟨u,i,z,ht⟩:=HT _ _ hT
   obtain ⟨b,o',us,hv,h1,h2⟩:=R.mem.peek hq (R.ev x)
   have hr:(rd d cs off).1:=by rw [h]; exact hp
   obtain ⟨y,h3,h4⟩:=run_loadVar' off ht h1 h2 hr
   refine ⟨y,?_,by rw [h] at h4; exact h4⟩
   simp only [ho,hv,Instr.loadAt,Instr.sureAddr,Sem.run_bind,Sem.run_pure,Result.andThen_ok,h3]
 · rename_i x ho
   have hx:=R.ev x
   split at h
   · rename_i f gs ds he
     simp only [Option.some.injEq,Prod.mk.injEq] at h
     obtain ⟨rfl,rfl⟩:=h
     rw [he] at hx
     obtain ⟨fs,cs,hv,_⟩:=hx.fn_inv
     refine ⟨_,?_,hx⟩
     simp only [ho,hv]; rfl
   · rename_i r off he
     simp only [Option.some.injEq,Prod.mk.injEq] at h
     obtain ⟨rfl,rfl⟩:=h
     obtain ⟨b,_,_,_,hb,_⟩:=R.mem.alive hp
     rw [he] at hx
     refine ⟨_,?_,hx⟩
     simp only [ho,hx.ref_inv hb]; rfl
   · rename_i cs he
     simp only [Option.some.injEq,Prod.mk.injEq] at h
     obtain ⟨rfl,rfl⟩:=h
     rw [he] at hx
     obtain ⟨b,o',us,hv,_⟩:=hx.fref_inv
     refine ⟨_,?_,hx⟩
     simp only [ho,hv]; rfl
   · simp at h
 · rename_i op t x y t' ho
   obtain ⟨r,h1,h2⟩:=binOp_sound HT h hp (R.ev x) (R.ev y) x y
   refine ⟨r,?_,h2⟩
   simp only [ho]
   rw [Sem.run_bind,h1]; rfl
 · rename_i op t x ho
   obtain ⟨r,h1,h2⟩:=unOp_sound (P:=P) h (R.ev x)
   refine ⟨r,?_,h2⟩
   simp only [ho,Sem.run_bind,h1]; rfl
 · rename_i t t' x ho
   simp only [Option.bind_eq_some_iff] at h
   obtain ⟨d,hT,d',hT',h⟩:=h
   obtain ⟨u,i,z,ht⟩:=HT _ _ hT
   obtain ⟨u',i',z',ht'⟩:=HT _ _ hT'
   obtain ⟨r,h1,h2⟩:=strM_sound HT ht ht' R.mem h hp (R.ev x)
   refine ⟨r,?_,h2⟩
   simp only [ho,Sem.run_bind,h1]; rfl
 · rename_i f fs cs ho
   simp only [Option.some.injEq,Prod.mk.injEq] at h
   obtain ⟨rfl,rfl⟩:=h
   refine ⟨.func (.func f) (fs.map a.eval) (cs.map a.eval),?_,?_⟩
   · simp only [ho,Instr.makeFunc]; rfl
   · have e:∀ l:Array Operand,l.map a.eval=(l.toList.map a.eval).toArray:=fun l=>by apply Array.ext'; simp
     rw [e fs,e cs]
     exact .fn (R.evL _) (R.evL _) .nil
 · rename_i t x lo hi mx ho
   have k:∀ l:Option Operand,(∀ q,l.map (aev s)=some q→∃ y,l.map a.eval=some y∧RL (Wr X φ s.m) φ w [y] [q])∧(l.map (aev s)=none→l.map a.eval=none):=by
    intro l
    cases l with
    | none=>simp
    | some l=>simp; exact R.ev l
   split at h
   · simp at h
   · rename_i hh
     simp only [Option.bind_eq_some_iff] at h
     obtain ⟨d,hT,h⟩:=h
     obtain ⟨u,i,z,ht⟩:=HT _ _ hT
     obtain ⟨y,h1,h2⟩:=slice_sound HT ht R.mem h hp (R.ev x) (k lo).1 (k lo).2 (k hi).1 (k hi).2 (k mx).1 (k mx).2 (fun hn=>by cases hi<;>cases mx<;>simp_all)
     refine ⟨y,?_,h2⟩
     simp only [ho,Sem.run_bind,h1]; rfl
 · rename_i t x f ho
   simp only [Option.bind_eq_some_iff,Prod.exists] at h
   obtain ⟨off,d',hf,h⟩:=h
   have hT:∃ d,T t=some d:=by
    unfold fieldOf at hf
    cases hT:T t with
    | none=>simp [hT] at hf
    | some d=>exact ⟨d,rfl⟩
   obtain ⟨d,hT⟩:=hT
   obtain ⟨u,i,z,ht⟩:=HT _ _ hT
   have hx:=R.ev x
   split at h
   · rename_i r o' he
     simp only [Option.some.injEq,Prod.mk.injEq] at h
     obtain ⟨rfl,rfl⟩:=h
     obtain ⟨b,_,_,_,hb,_⟩:=R.mem.alive hp
     rw [he] at hx
     refine ⟨_,?_,.ref hb .nil⟩
     simp only [ho,hx.ref_inv hb,Sem.run_bind,run_fieldAt HT hT ht hf b o']; rfl
   · rename_i cs he
     simp only [Option.some.injEq,Prod.mk.injEq] at h
     obtain ⟨rfl,rfl⟩:=h
     rw [he] at hx
     obtain ⟨b,o',us,hv,h1,h2,h3⟩:=hx.fref_inv
     refine ⟨_,?_,.fref (b:=b) (o:=o'+off) (us:=us.drop off) (fun hne=>h1 (by rintro rfl; simp at hne)) (fun j u hj=>?_) (h3.split _ hp.1 hp.2).2 .nil⟩
     · simp only [ho,hv,Sem.run_bind,run_fieldAt HT hT ht hf b o']; rfl
     · rw [Nat.add_assoc]; exact h2 _ _ (by simpa using hj)
   · simp at h
 · rename_i t x f ho
   simp only [Option.bind_eq_some_iff,Prod.exists] at h
   obtain ⟨off,d',hf,h⟩:=h
   have hT:∃ d,T t=some d:=by
    unfold fieldOf at hf
    cases hT:T t with
    | none=>simp [hT] at hf
    | some d=>exact ⟨d,rfl⟩
   obtain ⟨d,hT⟩:=hT
   obtain ⟨u,i,z,ht⟩:=HT _ _ hT
   have hx:=R.ev x
   split at h
   · rename_i cs he
     simp only [Option.some.injEq] at h
     rw [he] at hx
     obtain ⟨us,hv,hr⟩:=hx.agg_inv
     obtain ⟨y,h1,h2⟩:=run_field HT hT ht hf hr (by rw [h]; exact hp)
     refine ⟨y,?_,by rw [h] at h2; exact h2⟩
     simp at h1
     simp only [ho,hv,Sem.run_bind,h1]; rfl
   · simp at h
 · rename_i t x ix ho
   simp only [Option.bind_eq_some_iff] at h
   obtain ⟨d,hT,h⟩:=h
   obtain ⟨u,i,z,ht⟩:=HT _ _ hT
   split at h
   · rename_i k j he
     have hi:=R.ev ix
     rw [he] at hi
     obtain ⟨y,h1,h2⟩:=indexAddr_sound (k:=k) HT ht R.mem h hp (R.ev x)
     refine ⟨y,?_,h2⟩
     simp only [ho,hi.int_inv,Sem.run_bind,h1]; rfl
   · simp at h
 · rename_i t x ix ho
   simp only [Option.bind_eq_some_iff] at h
   obtain ⟨d,hT,h⟩:=h
   obtain ⟨u,i,z,ht⟩:=HT _ _ hT
   split at h
   · rename_i k j he
     have hi:=R.ev ix
     rw [he] at hi
     obtain ⟨y,h1,h2⟩:=index_sound (k:=k) HT ht h hp (R.ev x)
     refine ⟨y,?_,h2⟩
     simp only [ho,hi.int_inv,Sem.run_bind,h1]; rfl
   · simp at h
 · rename_i x i ho
   split at h
   · rename_i vs he
     simp only [Option.map_eq_some_iff,Prod.mk.injEq] at h
     obtain ⟨v',h1,rfl,rfl⟩:=h
     have hx:=R.ev x
     rw [he] at hx
     obtain ⟨us,hv,hr⟩:=hx.tup_inv
     obtain ⟨y,h2,h3⟩:=hr.at h1 hp
     refine ⟨y,?_,h3⟩
     have h2':us[i]? = some y:=by simpa using h2
     simp only [ho,hv,Sem.run_bind,Instr.extract,h2',Sem.run_pure]; rfl
   · simp at h
 · rename_i c ho
   split at h
   · rename_i x hc hx
     split at h
     · rename_i t hts
       simp only [Option.bind_eq_some_iff] at h
       obtain ⟨d,hT,h⟩:=h
       obtain ⟨u,i,z,ht⟩:=HT _ _ hT
       have ha:c.args=#[x]:=by apply Array.ext'; simpa using hx
       have hat:c.argTypes=#[t]:=by apply Array.ext'; simpa using hts
       have key:∀ y,(Builtin.len_ #[t] o.type #[a.eval x]).run P w = .ok y w→((do let d ← resolve a.eval c o.type; invoke d.target d.args:Sem Next)).run P w = .ok (.value y) w:=by
        intro y hy
        simp [resolve,hc,ha,hat,invoke,builtin,hy]
       split at h
       · rename_i hk
         split at h
         · rename_i sx he
           simp only [Option.some.injEq,Prod.mk.injEq] at h
           obtain ⟨rfl,rfl⟩:=h
           have hv:=R.ev x
           rw [he] at hv
           refine ⟨.int .i64 sx.size,?_,.int _ _ .nil⟩
           simp only [ho]
           refine key _ ?_
           have hu:=ht.string hk
           subst hu
           rw [hv.str_inv]
           simp [Builtin.len_,run_underlying ht.un,goInt]
         · simp at h
       · rename_i e hk
         simp only [Option.map_eq_some_iff,Prod.exists,Prod.mk.injEq] at h
         obtain ⟨q,n,h1,rfl,rfl⟩:=h
         refine ⟨.int .i64 n,?_,.int _ _ .nil⟩
         simp only [ho]
         exact key _ (len_sound ht R.mem hk h1 hp (R.ev x))
       · simp at h
     · simp at h
   · rename_i x y hc hx
     have ha:c.args=#[x,y]:=by apply Array.ext'; simpa using hx
     have h1:=R.ev x
     have h2:=R.ev y
     unfold maxV at h
     split at h
     · rename_i k a k' b e1 e2
       simp only [Option.some.injEq,Prod.mk.injEq] at h
       obtain ⟨rfl,rfl⟩:=h
       rw [e1] at h1
       rw [e2] at h2
       refine ⟨.int k _,?_,.int _ _ .nil⟩
       have hk:(Builtin.max_ c.argTypes o.type #[.int k a,.int k' b]).run P w = .ok (.int k (if b > a then b else a)) w:=run_max_int2 w _ _ k k' a b
       simp only [ho]
       simp [resolve,hc,ha,invoke,builtin,h1.int_inv,h2.int_inv,hk]
     · simp at h
   · rename_i x y hc hx
     have ha:c.args=#[x,y]:=by apply Array.ext'; simpa using hx
     have h1:=R.ev x
     have h2:=R.ev y
     unfold minV at h
     split at h
     · rename_i k a k' b e1 e2
       simp only [Option.some.injEq,Prod.mk.injEq] at h
       obtain ⟨rfl,rfl⟩:=h
       rw [e1] at h1
       rw [e2] at h2
       refine ⟨.int k _,?_,.int _ _ .nil⟩
       have hk:(Builtin.min_ c.argTypes o.type #[.int k a,.int k' b]).run P w = .ok (.int k (if b<a then b else a)) w:=run_min_int2 w _ _ k k' a b
       simp only [ho]
       simp [resolve,hc,ha,invoke,builtin,h1.int_inv,h2.int_inv,hk]
     · simp at h
   · simp at h
 · simp at h
end
section
variable {W:Nat→Prop} {X:Nat→Prop} {φ:Nat→Option (Option Nat)} {m:Nat→AObj} {s:St} {a:Act} {w w':World} {P:Program} {T:Nat→Option TyD}
theorem ObjOk.mono {W' φ' x o} (h:ObjOk W φ w x o) (E:Ext W φ w W' φ' w') (hb:∀ b,x=some (some b)→w'.heap[b]? = w.heap[b]?):ObjOk W' φ' w' x o:=by
 cases o with
 | unused=>exact h
 | gone=>exact h
 | live cs =>
   obtain ⟨b,h1,c,e,h2,h3,h4,h5⟩:=h
   exact ⟨b,h1,c,e,by rw [hb b h1]; exact h2,h3,h4.mono E,h5⟩
 | ro cs =>
   obtain ⟨b,h1,c,e,h2,h3,h4,h5⟩:=h
   exact ⟨b,h1,c,e,by rw [hb b h1]; exact h2,h3,h4.mono E,h5⟩
theorem RelM.block (R:RelM X φ m w) {r b} (h:φ r=some (some b)):b<w.heap.size∧∃ c e,w.heap[b]? = some (.cells c e (0,0)):=by
 have ho:=R.obj r
 cases hm:m r<;>rw [hm] at ho<;>simp only [ObjOk,h] at ho
 · simp at ho
 · simp at ho
 all_goals
  obtain ⟨b',hb,c,e,h1,_⟩:=ho
  simp at hb; subst hb
  exact ⟨(Array.getElem?_eq_some_iff.1 h1).1,c,e,h1⟩
theorem RelM.unused (R:RelM X φ m w) {r} (h:m r = .unused):φ r=none:=by
 have ho:=R.obj r
 rw [h] at ho; exact ho
theorem RelM.wlt (R:RelM X φ m w) {b} (h:Wr X φ m b):b<w.heap.size:=by
 rcases h with h|⟨r,cs,h,_⟩
 · exact R.xlt b h
 · exact (R.block h).1
theorem alloc_rel (R:RelM X φ m w) {nx:Nat} (hu:m nx = .unused) {C:Array Value} {e:TypeId} {cs:List AV} (hC:RL (Wr X φ m) φ w (C.toList.take cs.length) cs) (hl:cs.length≤C.size) (hk:cs.all AV.ck=true)
 (hh:w'.heap=w.heap.push (.cells C e)) (h1:w'.os=w.os) (h2:w'.tape=w.tape) (h3:w'.output=w.output) :
 RelM X (upd φ nx (some (some w.heap.size))) (upd m nx (.live cs)) w'∧Stp X φ m w (upd φ nx (some (some w.heap.size))) (upd m nx (.live cs)) w':=by
 have hφ:=R.unused hu
 have hold:∀ b,b<w.heap.size→w'.heap[b]? = w.heap[b]?:=fun b hb=>by rw [hh,Array.getElem?_push,if_neg (by omega)]
 have hsz:w'.heap.size=w.heap.size+1:=by rw [hh]; simp
 have E:Ext (Wr X φ m) φ w (Wr X (upd φ nx (some (some w.heap.size))) (upd m nx (.live cs))) (upd φ nx (some (some w.heap.size))) w':=by
  refine ⟨fun r x hx=>?_,fun b hb _=>hold b hb,fun b hb hW=>?_,fun r b c e fr h4 h5 h6=>⟨c,e,fr,?_,Nat.le_refl _⟩⟩
  · left
    unfold upd
    split
    · rename_i e'; rw [e',hφ] at hx; simp at hx
    · exact hx
  · rcases hW with h|⟨r,cs',h,h'⟩
    · exact .inl h
    · unfold upd at h h'
      split at h
      · simp at h; omega
      · rename_i hne
        rw [if_neg hne] at h'
        exact .inr ⟨r,cs',h,h'⟩
  · rw [hold b (R.block h4).1]; exact h6
 refine ⟨⟨fun r=>?_,fun r r' b h4 h5=>?_,fun r b h4=>?_,fun b hb=>?_⟩,E,⟨h1,h2,h3,by omega,fun b hb _=>hold b hb,fun r b h4=>?_⟩⟩
 · by_cases hr:r=nx
   · subst hr
     simp only [upd,if_true]
     refine ⟨w.heap.size,rfl,C,e,by rw [hh]; simp,hl,hC.mono E,hk⟩
   · simp only [upd,if_neg hr]
     exact (R.obj r).mono E (fun b hb=>hold b (R.block hb).1)
 · unfold upd at h4 h5
   split at h4<;>split at h5
   · simp_all
   · simp at h4; have:=(R.block h5).1; omega
   · simp at h5; have:=(R.block h4).1; omega
   · exact R.inj _ _ _ h4 h5
 · unfold upd at h4
   split at h4
   · simp at h4; intro hX; have:=R.xlt b hX; omega
   · exact R.ext _ _ h4
 · have:=R.xlt b hb; omega
 · unfold upd at h4
   split at h4
   · simp at h4; left; omega
   · exact .inr ⟨r,h4⟩
theorem upd_same {β:Type} (f:Nat→β) (i:Nat) (v:β):upd f i v i=v:=by simp [upd]
theorem write_rel (R:RelM X φ m w) {r b:Nat} {cs cs':List AV} {c c':Array Value} {e:TypeId} (hm:m r = .live cs) (hb:φ r=some (some b)) (hc:w.heap[b]? = some (.cells c e (0,0)))
 (hh:w'.heap[b]? = some (.cells c' e (0,0))) (ho:∀ k,k ≠ b→w'.heap[k]? = w.heap[k]?) (hs:w'.heap.size=w.heap.size) (hsz:c'.size=c.size) (hl:cs'.length≤c.size) (hr:RL (Wr X φ m) φ w (c'.toList.take cs'.length) cs') (hk:cs'.all AV.ck=true)
 (h1:w'.os=w.os) (h2:w'.tape=w.tape) (h3:w'.output=w.output) :
 RelM X φ (upd m r (.live cs')) w'∧Stp X φ m w φ (upd m r (.live cs')) w':=by
 have E:Ext (Wr X φ m) φ w (Wr X φ (upd m r (.live cs'))) φ w':=by
  refine ⟨fun _ _ hx=>.inl hx,fun k _ hW=>ho k (fun e=>hW (e ▸ .inr ⟨r,cs,hb,hm⟩)),fun k _ hW=>?_,fun r' k d e' fr h4 _ h6=>?_⟩
  · rcases hW with h|⟨r',cs'',h,h'⟩
    · exact .inl h
    · unfold upd at h'
      split at h'
      · rename_i e'; subst e'; exact .inr ⟨r',cs,h,hm⟩
      · exact .inr ⟨r',cs'',h,h'⟩
  · by_cases hkb:k=b
    · subst hkb
      rw [hc] at h6; simp at h6
      exact ⟨c',e,(0,0),hh,by rw [← h6.1]; omega⟩
    · exact ⟨d,e',fr,by rw [ho k hkb]; exact h6,Nat.le_refl _⟩
 refine ⟨⟨fun r'=>?_,R.inj,R.ext,fun k hk'=>by rw [hs]; exact R.xlt k hk'⟩,E,⟨h1,h2,h3,by omega,fun k hk' hn=>ho k (fun e=>hn r (e ▸ hb)),fun r' k h4=>.inr ⟨r',h4⟩⟩⟩
 by_cases hr':r'=r
 · subst hr'
   simp only [upd,if_true]
   exact ⟨b,hb,c',e,hh,by omega,hr.mono E,hk⟩
 · simp only [upd,if_neg hr']
   exact (R.obj r').mono E (fun k hk'=>ho k (fun e=>hr' (R.inj r' r b (e ▸ hk') hb)))
theorem setCells_heap (b:Nat) (e:TypeId):∀ (us:List Value) (off:Nat) (w:World) (c:Array Value),w.heap[b]? = some (.cells c e (0,0))→off+us.length≤c.size →
 (w.setCells b off us).heap[b]? = some (.cells (c.toList.take off++us++c.toList.drop (off+us.length)).toArray e (0,0))∧(∀ k,k ≠ b→(w.setCells b off us).heap[k]? = w.heap[k]?) ∧
   (w.setCells b off us).heap.size=w.heap.size∧(w.setCells b off us).os=w.os∧(w.setCells b off us).tape=w.tape∧(w.setCells b off us).output=w.output
 | [],off,w,c,h,_=>by
   refine ⟨?_,fun _ _=>rfl,rfl,rfl,rfl,rfl⟩
   simp [World.setCells,h]
 | u::us,off,w,c,h,hl=>by
   simp only [List.length_cons] at hl
   have h1:=heap_setCell_same w b off c e u h
   obtain ⟨i1,i2,i3,i4,i5,i6⟩:=setCells_heap b e us (off+1) (w.setCell ⟨b,off,none⟩ u) _ h1 (by simp; omega)
   refine ⟨?_,fun k hk=>?_,?_,?_,?_,?_⟩
   · rw [World.setCells,i1]
     congr 2
     apply Array.ext'
     simp only [Array.toList_setIfInBounds,List.length_cons]
     have e1:(c.toList.set off u).take (off+1)=c.toList.take off++[u]:=by
      have hlt:off<c.toList.length:=by simp; omega
      rw [List.take_set,List.take_succ_eq_append_getElem hlt,List.set_append_right _ _ (by simp; omega)]
      simp [Nat.min_eq_left (show off≤c.size by omega)]
     rw [e1,List.drop_set_of_lt (by omega)]
     simp [show off+1+us.length=off+(us.length+1) by omega]
   · rw [World.setCells,i2 k hk,heap_setCell_other _ _ _ _ (by simpa using hk)]
   · rw [World.setCells,i3]; simp [World.setCell]
   · rw [World.setCells,i4]; rfl
   · rw [World.setCells,i5]; rfl
   · rw [World.setCells,i6]; rfl
theorem there_of {b off n:Nat} {c:Array Value} {e:TypeId} (h:w.heap[b]? = some (.cells c e (0,0))) (hl:off+n≤c.size):w.there b off n:=fun j hj=>by
 refine ⟨?_,frozen_of_row w b _ c e h⟩
 rw [cell_of_row w b _ c e _ h]
 simp; omega
theorem zeros_eq (z:Array Value) (n:Nat):((Array.range (n*z.size)).map (z[· % z.size]!)).toList=(List.replicate n z.toList).flatten:=by
 induction n with
 | zero=>simp
 | succ n ih =>
   rw [List.replicate_succ,List.flatten_cons,← ih]
   simp only [Array.toList_map,Array.toList_range]
   rw [show (n+1)*z.size=z.size+n*z.size by rw [Nat.add_mul]; omega,List.range_add,List.map_append,List.map_map]
   congr 1
   · apply List.ext_getElem
     · simp
     · intro i h1 h2
       simp at h1 h2 ⊢
       rw [Nat.mod_eq_of_lt h1]
       simp [h1]
   · apply List.map_congr_left
     intro i hi
     simp [Nat.add_mod_left]
theorem RL.repl {vs az} (h:RL W φ w vs az) (n:Nat):RL W φ w (List.replicate n vs).flatten (List.replicate n az).flatten:=by
 induction n with
 | zero=>exact .nil
 | succ n ih=>rw [List.replicate_succ,List.replicate_succ,List.flatten_cons,List.flatten_cons]; exact h.app ih
theorem length_repl {β:Type} (l:List β) (n:Nat):(List.replicate n l).flatten.length=n*l.length:=by
 induction n with
 | zero=>simp
 | succ n ih=>rw [List.replicate_succ,List.flatten_cons,List.length_append,ih,Nat.add_mul]; omega
end
def Invk (P:Program) (f:Nat) (vs:Array Value) (w:World) (R:Value→World→Prop):Prop :=
 match (callFunc f vs).run P w with
 | .ok (.value v) w'=>R v w'
 | .ok (.enter g az) w'=>Calls P g az w' fun e w''=>∃ v,e = .returned v∧R v w''
 | _=>False
theorem Invk.mono {P f vs w R R'} (h:Invk P f vs w R) (hr:∀ v w',R v w'→R' v w'):Invk P f vs w R':=by
 unfold Invk at *
 split at h
 · exact hr _ _ h
 · exact h.mono fun e w'' ⟨v,he,hv⟩=>⟨v,he,hr _ _ hv⟩
 · exact h.elim
def CSpec (P:Program) (f:Nat) (args:List AV) (r:AV):Prop :=
 ∀ X φ w vs,(∀ b,X b→b<w.heap.size)→RL X φ w vs args→Invk P f vs.toArray w fun v w'=>RL X φ w' [v] [r]∧RowKit.Below w.heap.size w w'
structure EnvOk (P:Program) (E:Env):Prop where
 ty:TyOk P E.T
 sp:∀ f args p r,E.S f args=some (p,r)→p→CSpec P f args r
section
variable {W:Nat→Prop} {X:Nat→Prop} {φ:Nat→Option (Option Nat)} {m:Nat→AObj} {s:St} {a:Act} {w w':World} {P:Program} {T:Nat→Option TyD} {E:Env} {o:Oper}
theorem upon_call {f:Operand} {args:Array Operand} {ts} {g:Nat} {fs cs:Array Value} {K:Act→World→Prop} {Q:Exit→Act→World→Prop} (ho:o.op = .call { callee:=.value f,args:=args,argTypes:=ts })
 (hf:a.eval f = .func (.func g) fs cs) {R:Value→World→Prop} (h:Invk P g (fs++args.map a.eval++cs) w R) (hk:∀ v w',R v w'→K (a.put o.dst v) w'):o.wp P a w K Q:=by
 have e:(execOp a.eval o)=callFunc g (fs++args.map a.eval++cs):=by
  simp only [execOp,ho,resolve,hf,Deferred.ofValue]
  rfl
 unfold Oper.wp
 rw [e]
 unfold Invk at h
 split at h
 · rename_i v w' he
   rw [he]; exact hk _ _ h
 · rename_i g' az w' he
   rw [he]
   exact h.mono fun e w'' ⟨v,he',hv⟩=>by subst he'; exact hk _ _ hv
 · exact h.elim
theorem aal_sound (HT:TyOk P T) (R:Rel X φ s a w) {p cs f} (h:aal T s o=some (p,cs,f)) (hp:p) :
 ∃ C e v,(execOp a.eval o).run P w = .ok (.value v) (w.alloc (.cells C e))∧RL (Wr X φ s.m) φ w (C.toList.take cs.length) cs∧cs.length≤C.size ∧
   (∀ W' φ' w' r,φ' r=some (some w.heap.size)→w'.heap[w.heap.size]? = some (.cells C e (0,0))→RL W' φ' w' [v] [f r]):=by
 unfold aal at h
 split at h
 · rename_i t ho
   simp only [Option.map_eq_some_iff,Prod.mk.injEq] at h
   obtain ⟨d,hT,rfl,rfl,rfl⟩:=h
   obtain ⟨u,i,z,ht⟩:=HT _ _ hT
   have hr:=ht.rep (Wr X φ s.m) φ w
   have hlen:=hr.length
   refine ⟨z.cells,t,.pointer (some ⟨w.heap.size,0,none⟩),?_,?_,?_,fun W' φ' w' r h1 _=>.ref h1 .nil⟩
   · simp [execOp,ho,Instr.alloc,zeroValue,typeInfo,ht.info,ht.zero,newVar,newRow]
   · rw [← hlen,List.take_length]; exact hr
   · rw [← hlen]; simp
 · rename_i t x ho
   simp only [Option.map_eq_some_iff,Prod.mk.injEq] at h
   obtain ⟨d,hT,rfl,rfl,rfl⟩:=h
   have hr:=(R.ev x).cellsV hp.2
   have hlen:=hr.length
   refine ⟨(a.eval x).cells,t,.pointer (some ⟨w.heap.size,0,none⟩),?_,?_,?_,fun W' φ' w' r h1 _=>.ref h1 .nil⟩
   · simp [execOp,ho,Instr.box,newVar,newRow]
   · rw [← hlen,List.take_length]; exact hr
   · rw [← hlen]; simp
 · rename_i t n ps ho
   simp only [Option.bind_eq_some_iff] at h
   obtain ⟨d,hT,h⟩:=h
   obtain ⟨u,i,z,ht⟩:=HT _ _ hT
   split at h
   · rename_i e hk
     simp only [Option.bind_eq_some_iff,Option.map_eq_some_iff,Prod.exists,Prod.mk.injEq] at h
     obtain ⟨ed,hTe,q,cs',hf,rfl,rfl,rfl⟩:=h
     obtain ⟨u',i',z',he⟩:=HT _ _ hTe
     have hu:=ht.slice hk
     subst hu
     have hz:=(he.rep (Wr X φ s.m) φ w).repl n
     have hzl:z'.cells.size=ed.sz:=he.len
     obtain ⟨_,cs2,h1,h2,h3,_⟩:=fill_sound R (fun j=>some (j*i'.size,i'.size)) _ (fun j x hx=>by
      simp at hx
      obtain ⟨_,rfl⟩:=hx
      exact ⟨by simp [he.size],he.sz1⟩) ps.toList _ _ _ _ _ hz hf hp.1
     have h2l:=h2.length
     rw [h3,length_repl,← (he.rep (Wr X φ s.m) φ w).length] at h2l
     simp only [Array.length_toList,hzl] at h2l
     refine ⟨cs2.toArray,e,.slice (some ⟨w.heap.size,0,none⟩) n n,?_,?_,?_,fun W' φ' w' r h1 h4=>?_⟩
     · have hpp:(ps.map fun (i,x)=>(i,a.eval x)).toList=(ps.toList.map fun x=>(x.1,a.eval x.2)):=by simp
       have hsz:(sizeOf e).run P w = .ok i'.size w:=run_sizeOf' he.info w
       have hn:¬ (2^24:Nat)<n*i'.size:=by rw [he.size]; have:=hp.2; omega
       have hn':¬ (16777216:Nat)<n*i'.size:=by rw [he.size]; have:=hp.2; omega
       have hzero:(zeroValue e).run P w = .ok z' w:=by simp [zeroValue,typeInfo,he.info,he.zero]
       have hrow:(if n*i'.size=0 then (pure #[]:Sem (Array Value)) else (do pure (← zeroValue e).cells)).run P w = .ok (if n*i'.size=0 then #[] else z'.cells) w:=by
        split
        · rfl
        · rw [Sem.run_bind,hzero]; rfl
       have hfill:Instr.fill (fun j=>some (j*i'.size,i'.size)) ((Array.range (n*i'.size)).map ((if n*i'.size=0 then #[] else z'.cells)[· % (if n*i'.size=0 then #[] else z'.cells).size]!)) (ps.map fun (i,x)=>(i,a.eval x)).toList=some cs2.toArray:=by
        rw [hpp,← h1]
        congr 1
        apply Array.ext'
        by_cases hz0:n*i'.size=0
        · have:n=0:=by have:=he.pos; rw [he.size] at hz0; rcases Nat.mul_eq_zero.1 hz0 with h|h<;>omega
          subst this
          simp
        · rw [if_neg hz0,show i'.size=z'.cells.size by rw [he.size,hzl],zeros_eq]
       have hb:(Instr.buildSlice t n (ps.map fun (i,x)=>(i,a.eval x))).run P w = .ok (.slice (some ⟨w.heap.size,0,none⟩) n n) (w.alloc (.cells cs2.toArray e)):=by
        simp only [Instr.buildSlice,Sem.run_bind,run_underlying ht.un,Result.andThen_ok,hsz,if_neg hn]
        by_cases hz0:n*i'.size=0
        · simp only [hz0,if_true] at hfill ⊢
          simp only [Sem.run_pure,Sem.run_bind,Result.andThen_ok,hfill]
          simp [newRow]
        · simp only [hz0,if_false] at hfill ⊢
          simp only [Sem.run_pure,Sem.run_bind,Result.andThen_ok,hzero,hfill]
          simp [newRow]
       simp only [execOp,ho,Sem.run_bind,hb]
       rfl
     · have e1:cs'.length=cs2.length:=h2.length.symm
       simp [e1]; exact h2
     · simp [h2.length]
     · refine .sl h1 (Nat.le_refl _) ⟨_,_,_,h4,?_⟩ .nil
       simp; rw [h2l]; exact Nat.le_refl _
   · simp at h
 · rename_i t l c ho
   simp only [Option.bind_eq_some_iff] at h
   obtain ⟨d,hT,h⟩:=h
   obtain ⟨u,i,z,ht⟩:=HT _ _ hT
   split at h
   · rename_i e l' c' hk hl hc
     simp only [Option.map_eq_some_iff,Prod.mk.injEq] at h
     obtain ⟨ed,hTe,rfl,rfl,rfl⟩:=h
     obtain ⟨rfl,h0,hmax,hby⟩:=hp
     obtain ⟨u',i',z',he⟩:=HT _ _ hTe
     have hu:=ht.slice hk
     subst hu
     have hL:=R.ev l
     have hC:=R.ev c
     rw [hl] at hL; rw [hc] at hC
     have hzl:z'.cells.size=ed.sz:=he.len
     have hzr:=he.rep (Wr X φ s.m) φ w
     have hb:i'.bytes≤128:=by rw [he.bytes]; exact hby
     have hwr:IntKind.i64.wrap l'=l':=by
      unfold IntKind.wrap
      simp [IntKind.bits,IntKind.signed]
      omega
     have hbl:(i'.bytes:Int)*l'≤140737488355328:=by
      have:(i'.bytes:Int)*l'≤128*1099511627776:=Int.mul_le_mul (by omega) hmax h0 (by omega)
      omega
     have hsz:(sizeOf e).run P w = .ok i'.size w:=run_sizeOf' he.info w
     have hzero:(zeroValue e).run P w = .ok z' w:=by simp [zeroValue,typeInfo,he.info,he.zero]
     have hlen:(List.replicate l'.toNat ed.zero).flatten.length=l'.toNat * ed.sz:=by
      rw [length_repl,← hzr.length]; simp [hzl]
     refine ⟨(List.replicate l'.toNat z'.cells.toList).flatten.toArray,e,.slice (some ⟨w.heap.size,0,none⟩) l'.toNat l'.toNat,?_,?_,?_,fun W' φ' w' r h1 h4=>?_⟩
     · have hm:(Instr.makeSlice t (.int .i64 l') (.int .i64 l')).run P w = .ok (.slice (some ⟨w.heap.size,0,none⟩) l'.toNat l'.toNat) (w.alloc (.cells (List.replicate l'.toNat z'.cells.toList).flatten.toArray e)):=by
        have hroom:¬ (l'.toNat * i'.bytes > roomBytes):=by
         have:((l'.toNat * i'.bytes:Nat):Int)≤140737488355328:=by
          rw [Int.natCast_mul,Int.toNat_of_nonneg h0,Int.mul_comm]; exact hbl
         unfold roomBytes
         omega
        have hrow:((Array.range (l'.toNat * i'.size)).map ((if l'.toNat * i'.size=0 then #[] else z'.cells)[· % (if l'.toNat * i'.size=0 then #[] else z'.cells).size]!))=(List.replicate l'.toNat z'.cells.toList).flatten.toArray:=by
         apply Array.ext'
         by_cases hz0:l'.toNat * i'.size=0
         · have:l'.toNat=0:=by have:=he.pos; rw [he.size] at hz0; rcases Nat.mul_eq_zero.1 hz0 with h|h<;>omega
           rw [this]; simp
         · rw [if_neg hz0,show i'.size=z'.cells.size by rw [he.size,hzl],zeros_eq]
        have hneg:¬ (l'<0):=by omega
        have hbig:¬ ((i'.bytes:Int)*l' > 2^48):=by omega
        have hbig':¬ (281474976710656<(i'.bytes:Int)*l'):=by omega
        by_cases hz0:l'.toNat * i'.size=0
        · simp only [hz0,if_true] at hrow
          simp [Instr.makeSlice,run_underlying ht.un,asInt,asIntOf,typeInfo,he.info,hwr,hneg,hbig',askRoom,sizeOf,hz0,newRow]
          rw [← hrow]
          simp
        · simp only [hz0,if_false] at hrow
          simp [Instr.makeSlice,run_underlying ht.un,asInt,asIntOf,typeInfo,he.info,hwr,hneg,hbig',askRoom,sizeOf,hz0,newRow,zeroValue,he.zero]
          rw [← hrow]
       simp only [execOp,ho,Sem.run_bind,hL.int_inv,hC.int_inv,hm]
       rfl
     · rw [hlen]
       have:=hzr.repl l'.toNat
       show RL _ _ _ (List.take _ (List.replicate l'.toNat z'.cells.toList).flatten) _
       rw [List.take_of_length_le (by rw [length_repl,Array.length_toList,hzl]; exact Nat.le_refl _)]
       exact this
     · rw [hlen,List.size_toArray,length_repl,Array.length_toList,hzl]; exact Nat.le_refl _
     · refine .sl h1 (Nat.le_refl _) ⟨_,_,_,h4,?_⟩ .nil
       rw [List.size_toArray,length_repl,Array.length_toList,hzl]; omega
   · simp at h
 · simp at h
theorem ast_sound (HT:TyOk P T) (R:Rel X φ s a w) {p r cs'} (h:ast T s o=some (p,r,cs')) (hp:p) :
 ∃ b cs c c' e w',(execOp a.eval o).run P w = .ok .skip w'∧s.m r = .live cs∧φ r=some (some b)∧w.heap[b]? = some (.cells c e (0,0))∧w'.heap[b]? = some (.cells c' e (0,0)) ∧
   (∀ k,k ≠ b→w'.heap[k]? = w.heap[k]?)∧w'.heap.size=w.heap.size∧c'.size=c.size∧cs'.length≤c.size∧RL (Wr X φ s.m) φ w (c'.toList.take cs'.length) cs'∧cs'.all AV.ck=true∧w'.os=w.os∧w'.tape=w.tape∧w'.output=w.output:=by
 unfold ast at h
 split at h
 · rename_i t x y ho
   simp only [Option.bind_eq_some_iff] at h
   obtain ⟨d,hT,h⟩:=h
   obtain ⟨u,i,z,ht⟩:=HT _ _ hT
   split at h
   · rename_i r' off hx
     split at h
     · rename_i cs hm
       simp only [Option.some.injEq,Prod.mk.injEq] at h
       obtain ⟨rfl,rfl,rfl⟩:=h
       have ho':=R.mem.obj r'
       rw [hm] at ho'
       obtain ⟨b,hb,c,e,hc,hl,hr,hk⟩:=ho'
       have hxr:=R.ev x
       rw [hx] at hxr
       obtain ⟨k1,k2,k3,k4,k5,k6⟩:=wr_sound ht.sz1 hr (R.ev y) hp
       have hlen:(c.toList.take cs.length).length=cs.length:=by simp; omega
       rw [hlen] at k2
       obtain ⟨s1,s2,s3,s4,s5,s6⟩:=setCells_heap b e (a.eval y).cells.toList off w c hc (by simp [k1]; omega)
       refine ⟨b,cs,c,_,e,w.setCells b off (a.eval y).cells.toList,?_,hm,hb,hc,s1,s2,s3,?_,?_,?_,k6 hk,s4,s5,s6⟩
       · have hst:(storeVar t ⟨b,off,none⟩ (a.eval y)).run P w = .ok () (w.setCells b off (a.eval y).cells.toList):=by
          have:=run_storeCells_cells (P:=P) b off (a.eval y).cells.toList 0 w (fun j hj=>by
           have:=(there_of (off:=off) (n:=d.sz) hc (by omega) j (by simp [k1] at hj; exact hj)).1; simpa using this) (fun j hj=>by
           have:=(there_of (off:=off) (n:=d.sz) hc (by omega) j (by simp [k1] at hj; exact hj)).2; simpa using this) k5
          simp only [Nat.add_zero] at this
          simp [storeVar,run_sizeOf' ht.info,k1,ht.size,this]
         simp [execOp,ho,hxr.ref_inv hb,Instr.storeAt,Instr.sureAddr,hst]
       · simp [k1]; omega
       · rw [k4]; exact hl
       · have e1:(List.take (wr d cs off (aev s y)).2.length ((c.toList.take off++(a.eval y).cells.toList++c.toList.drop (off+(a.eval y).cells.toList.length)).toArray).toList) =
          (c.toList.take cs.length).take off++(a.eval y).cells.toList++(c.toList.take cs.length).drop (off+d.sz):=by
          rw [k4]
          simp only [Array.length_toList,k1]
          rw [List.take_append,List.take_append,List.take_of_length_le (l:=c.toList.take off) (by simp; omega),List.take_of_length_le (l:=(a.eval y).cells.toList) (by simp [k1]; omega)]
          simp only [List.length_append,List.length_take,Array.length_toList,k1,Nat.min_eq_left (show off≤c.size by omega)]
          rw [List.take_take,Nat.min_eq_left (by omega),List.drop_take]
         rw [e1]; exact k3
     · simp at h
   · simp at h
 · simp at h
end
end Go.Proofs.Ytapddfjimhohcaa.AM
