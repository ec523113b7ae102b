/- The library's functions that the program calls; the program has all that was asked of it. -/
import Derived.Test.YtapddfjimhohcaaB2
import Derived.Shelf.Small.Bits
import Derived.Shelf.Strconv.Itoa0
import Derived.Shelf.Bits.Mul64
import Derived.Laws.Externs
import Derived.Lib.ItoaNum
import Derived.OpenShut
import Derived.Test.YtapddfjimhohcaaRows
import Derived.ProofKit
import Derived.ChangeBears2
import Derived.JoinedOf
import Derived.Handed
import Derived.Carry
namespace Go.Proofs.Ytapddfjimhohcaa.AM
set_option linter.all false
set_option autoImplicit true
set_option relaxedAutoImplicit true
open Go Go.Proofs Go.Shelf
set_option maxRecDepth 100000
def shl134_ren:Go.Shelf.Ren:=⟨fun|134=>83|129=>62|n=>n,fun|53=>22|3=>3|4=>4|46=>89|5=>5|9=>9|n=>n,fun|n=>n⟩
theorem shl134:Go.Proofs.Lays.n134 Try.prog shl134_ren:={
 mixed:=by kernel_rfl
 f129:=Try.func62.trans (congrArg some (by kernel_rfl))
 f134:=Try.func83.trans (congrArg some (by kernel_rfl))
 t3:=Try.underlying3
 a3:=Try.isAgg3
 z3:=Try.sizeOf3
 v3:=Try.zeroValue3
 t4:=Try.underlying4
 a4:=Try.isAgg4
 z4:=Try.sizeOf4
 v4:=Try.zeroValue4
 t5:=Try.underlying5
 a5:=Try.isAgg5
 z5:=Try.sizeOf5
 v5:=Try.zeroValue5
 t9:=Try.underlying9
 a9:=Try.isAgg9
 z9:=Try.sizeOf9
 v9:=Try.zeroValue9
 t46:=Try.underlying89
 a46:=Try.isAgg89
 z46:=Try.sizeOf89
 v46:=Try.zeroValue89
 t53:=Try.underlying22
 a53:=Try.isAgg22
 z53:=Try.sizeOf22
 v53:=Try.zeroValue22 }
theorem sh_LeadingZeros64 (x:Int) (w:World) (h0:0≤x) (h1:x≤18446744073709551615) :
 Calls Try.prog 83 #[.int .u64 x] w fun e w'=>e = .returned (.int .i64 (64-(Lib.bitLen x.toNat:Int)))∧w'=w:=Any.bits_LeadingZeros64 shl134 x w h0 h1
def shl129_ren:Go.Shelf.Ren:=⟨fun|129=>62|n=>n,fun|53=>22|3=>3|4=>4|46=>89|5=>5|9=>9|n=>n,fun|n=>n⟩
theorem shl129:Go.Proofs.Lays.n129 Try.prog shl129_ren:={
 mixed:=by kernel_rfl
 f129:=Try.func62.trans (congrArg some (by kernel_rfl))
 t3:=Try.underlying3
 a3:=Try.isAgg3
 z3:=Try.sizeOf3
 v3:=Try.zeroValue3
 t4:=Try.underlying4
 a4:=Try.isAgg4
 z4:=Try.sizeOf4
 v4:=Try.zeroValue4
 t5:=Try.underlying5
 a5:=Try.isAgg5
 z5:=Try.sizeOf5
 v5:=Try.zeroValue5
 t9:=Try.underlying9
 a9:=Try.isAgg9
 z9:=Try.sizeOf9
 v9:=Try.zeroValue9
 t46:=Try.underlying89
 a46:=Try.isAgg89
 z46:=Try.sizeOf89
 v46:=Try.zeroValue89
 t53:=Try.underlying22
 a53:=Try.isAgg22
 z53:=Try.sizeOf22
 v53:=Try.zeroValue22 }
theorem sh_Len64 (x:Int) (w:World) (h0:0≤x) (h1:x≤18446744073709551615) :
 Calls Try.prog 62 #[.int .u64 x] w fun e w'=>e = .returned (.int .i64 (Lib.bitLen x.toNat))∧w'=w:=Any.bits_Len64 shl129 x w h0 h1
def shl264_ren:Go.Shelf.Ren:=⟨fun|264=>72|n=>n,fun|53=>22|46=>89|n=>n,fun|n=>n⟩
theorem shl264:Go.Proofs.Lays.n264 Try.prog shl264_ren:={
 mixed:=by kernel_rfl
 f264:=Try.func72.trans (congrArg some (by kernel_rfl))
 t46:=Try.underlying89
 a46:=Try.isAgg89
 z46:=Try.sizeOf89
 v46:=Try.zeroValue89
 t53:=Try.underlying22
 a53:=Try.isAgg22
 z53:=Try.sizeOf22
 v53:=Try.zeroValue22 }
open Go.RowKit Go.Lib in
theorem sh_Mul64 (x y:Nat) (hx:x<18446744073709551616) (hy:y<18446744073709551616) (w:World) :
 Calls Try.prog 72 #[.int .u64 x,.int .u64 y] w fun e w'=>e = .returned (.tuple #[.int .u64 ((x*y / 18446744073709551616:Nat):Int),.int .u64 ((x*y % 18446744073709551616:Nat):Int)])∧w'=w:=Any.bits_Mul64 shl264 x y hx hy w
theorem enter_of {P:Program} {f fn c} (hf:P.funcs[f]? = some fn) (hb:fn.body=some c) (hn:(fn.name == "runtime.NumGoroutine")=false) {vs w R} (h:Calls P f vs w fun e w'=>∃ v,e = .returned v∧R v w'):Invk P f vs w R:=by
 unfold Invk; rw [callFunc_enter hf hb hn]; exact h
theorem blen_eq (x:Nat) (h:x<18446744073709551616):Lib.bitLen x=blen x:=by
 unfold blen
 split
 · rename_i e; subst e; exact Lib.bitLenAux_zero _
 · rename_i e
   obtain ⟨h1,h2,h3⟩:=Lib.bitLenAux_bounds 64 x (by simpa using h) e
   have k1:=Nat.log2_self_le e
   have k2:x<2^(x.log2+1):=Nat.lt_log2_self
   have a1:Lib.bitLen x-1<x.log2+1:=(Nat.pow_lt_pow_iff_right (by decide:1<2)).1 (Nat.lt_of_le_of_lt h2 k2)
   have a2:x.log2<Lib.bitLen x:=(Nat.pow_lt_pow_iff_right (by decide:1<2)).1 (Nat.lt_of_le_of_lt k1 h3)
   unfold Lib.bitLen at *
   omega
theorem blen_le (x:Nat) (h:x<18446744073709551616):blen x≤64:=by
 unfold blen; split
 · omega
 · rename_i e
   have:x.log2<64:=(Nat.log2_lt e).2 (by simpa using h)
   omega
theorem Below.rfl' {w:World}:RowKit.Below w.heap.size w w:=RowKit.Below.refl _ _
theorem sh_len64 (x:Nat) (h:x<18446744073709551616):CSpec Try.prog 62 [.int .u64 (x:Int)] (.int .i64 (blen x:Nat)):=by
 intro X φ w vs _ hr
 obtain ⟨v,vs',rfl,h1,h2⟩:=hr.uncons rfl
 obtain rfl:=h1.int_inv
 obtain rfl:=h2.nil_of
 refine enter_of Try.func62 rfl rfl ((sh_Len64 x w (by omega) (by omega)).mono fun e w' he=>⟨_,he.1,?_⟩)
 obtain ⟨_,rfl⟩:=he
 rw [Int.toNat_natCast,blen_eq x h]
 exact ⟨.int _ _ .nil,Below.rfl'⟩
theorem sh_lz64 (x:Nat) (h:x<18446744073709551616):CSpec Try.prog 83 [.int .u64 (x:Int)] (.int .i64 ((64-blen x:Nat):Int)):=by
 intro X φ w vs _ hr
 obtain ⟨v,vs',rfl,h1,h2⟩:=hr.uncons rfl
 obtain rfl:=h1.int_inv
 obtain rfl:=h2.nil_of
 refine enter_of Try.func83 rfl rfl ((sh_LeadingZeros64 x w (by omega) (by omega)).mono fun e w' he=>⟨_,he.1,?_⟩)
 obtain ⟨_,rfl⟩:=he
 have:=blen_le x h
 rw [Int.toNat_natCast,blen_eq x h,show (64:Int)-(blen x:Int)=((64-blen x:Nat):Int) by omega]
 exact ⟨.int _ _ .nil,Below.rfl'⟩
theorem sh_mul64 (x y:Nat) (hx:x<18446744073709551616) (hy:y<18446744073709551616):CSpec Try.prog 72 [.int .u64 (x:Int),.int .u64 (y:Int)] (.tup [.int .u64 ((mulh x y:Nat):Int),.int .u64 ((mull x y:Nat):Int)]):=by
 rw [mulh_eq,mull_eq]
 intro X φ w vs _ hr
 obtain ⟨v,vs',rfl,h1,h2⟩:=hr.uncons rfl
 obtain rfl:=h1.int_inv
 obtain ⟨v,vs',rfl,h1,h3⟩:=h2.uncons rfl
 obtain rfl:=h1.int_inv
 obtain rfl:=h3.nil_of
 refine enter_of Try.func72 rfl rfl ((sh_Mul64 x y hx hy w).mono fun e w' he=>⟨_,he.1,?_⟩)
 obtain ⟨_,rfl⟩:=he
 exact ⟨.tup (.int _ _ (.int _ _ .nil)) .nil,Below.rfl'⟩
theorem sh_add64 (x y c:Nat) (_:x<18446744073709551616) (hc:c≤1):CSpec Try.prog 74 [.int .u64 (x:Int),.int .u64 (y:Int),.int .u64 (c:Int)] (.tup [.int .u64 ((addl x y c:Nat):Int),.int .u64 ((addh x y c:Nat):Int)]):=by
 rw [addl_eq,addh_eq]
 intro X φ w vs _ hr
 obtain ⟨v,vs',rfl,h1,h2⟩:=hr.uncons rfl
 obtain rfl:=h1.int_inv
 obtain ⟨v,vs',rfl,h1,h3⟩:=h2.uncons rfl
 obtain rfl:=h1.int_inv
 obtain ⟨v,vs',rfl,h1,h4⟩:=h3.uncons rfl
 obtain rfl:=h1.int_inv
 obtain rfl:=h4.nil_of
 unfold Invk
 rw [run_callFunc_extern Try.func74 (by kernel_rfl) (by kernel_rfl) (by kernel_rfl) (e:=add64Entry) (by kernel_rfl),run_add64 x y c (by omega) (by omega) (by omega) (by omega)]
 simp only [Result.andThen]
 rw [show ((x:Int)+y+c) % 18446744073709551616=(((x+y+c) % 18446744073709551616:Nat):Int) by omega,show ((x:Int)+y+c) / 18446744073709551616=(((x+y+c) / 18446744073709551616:Nat):Int) by omega]
 exact ⟨.tup (.int _ _ (.int _ _ .nil)) .nil,Below.rfl'⟩
theorem sh_sub64 (x y c:Nat) (_:x<18446744073709551616) (hc:c≤1):CSpec Try.prog 81 [.int .u64 (x:Int),.int .u64 (y:Int),.int .u64 (c:Int)] (.tup [.int .u64 ((subd x y c:Nat):Int),.int .u64 ((bor x y c:Nat):Int)]):=by
 intro X φ w vs _ hr
 obtain ⟨v,vs',rfl,h1,h2⟩:=hr.uncons rfl
 obtain rfl:=h1.int_inv
 obtain ⟨v,vs',rfl,h1,h3⟩:=h2.uncons rfl
 obtain rfl:=h1.int_inv
 obtain ⟨v,vs',rfl,h1,h4⟩:=h3.uncons rfl
 obtain rfl:=h1.int_inv
 obtain rfl:=h4.nil_of
 unfold Invk
 rw [run_callFunc_extern Try.func81 (by kernel_rfl) (by kernel_rfl) (by kernel_rfl) (e:=(Extern.find Try.f81).getD fun _=>pure (.bool true)) (by kernel_rfl)]
 have key:(((Extern.find Try.f81).getD fun _=>pure (.bool true)) #[.int .u64 x,.int .u64 y,.int .u64 c]).run Try.prog w =
  .ok (.tuple #[.int .u64 (((x+18446744073709551616-y-c) % 18446744073709551616:Nat):Int),.int .u64 ((if x<y+c then 1 else 0:Nat):Int)]) w:=by
  have:c=0∨c=1:=by omega
  rcases this with rfl|rfl
  · refine of_eq_true (eq_true ?_); rfl
  · rfl
 rw [show ([Value.int .u64 (x:Int),Value.int .u64 (y:Int),Value.int .u64 (c:Int)].toArray)=#[.int .u64 (x:Int),.int .u64 (y:Int),.int .u64 (c:Int)] from rfl,key]
 rw [subd_eq,bor_eq]
 exact ⟨.tup (.int _ _ (.int _ _ .nil)) .nil,Below.rfl'⟩
theorem prg_ok:PrgOk Try.prog:={ mix:=by kernel_rfl,t0:=T0_ok,t1:=T1_ok,t2:=T2_ok,tF:=TF_ok,len64:=sh_len64,lz64:=sh_lz64,mul64:=sh_mul64,add64:=sh_add64,sub64:=sh_sub64,f3:=Try.func3,f4:=Try.func4,f5:=Try.func5,f6:=Try.func6,f7:=Try.func7,f8:=Try.func8,f9:=Try.func9,f10:=Try.func10,f11:=Try.func11,f12:=Try.func12,f13:=Try.func13,f14:=Try.func14,f15:=Try.func15,f16:=Try.func16,f17:=Try.func17,f18:=Try.func18,f19:=Try.func19,f20:=Try.func20,f21:=Try.func21,f22:=Try.func22,f23:=Try.func23,f24:=Try.func24,f25:=Try.func25,f26:=Try.func26,f27:=Try.func27,f28:=Try.func28,f29:=Try.func29,f30:=Try.func30,f31:=Try.func31,f32:=Try.func32,f33:=Try.func33,f34:=Try.func34,f35:=Try.func35,f36:=Try.func36,f37:=Try.func37,f38:=Try.func38,f39:=Try.func39,f40:=Try.func40,f41:=Try.func41,f42:=Try.func42,f43:=Try.func43,f44:=Try.func44,f45:=Try.func45,f46:=Try.func46,f47:=Try.func47,f48:=Try.func48,f49:=Try.func49,f50:=Try.func50,f51:=Try.func51,f52:=Try.func52,f53:=Try.func53,f54:=Try.func54,f55:=Try.func55,f56:=Try.func56,f57:=Try.func57,f58:=Try.func58,f59:=Try.func59,f60:=Try.func60,f61:=Try.func61,f62:=Try.func62,f63:=Try.func63,f64:=Try.func64,f65:=Try.func65,f66:=Try.func66,f67:=Try.func67,f68:=Try.func68,f69:=Try.func69,f70:=Try.func70,f71:=Try.func71,f72:=Try.func72,f73:=Try.func73,f74:=Try.func74,f75:=Try.func75,f76:=Try.func76,f77:=Try.func77,f78:=Try.func78,f79:=Try.func79,f80:=Try.func80,f81:=Try.func81,f82:=Try.func82,f83:=Try.func83,f84:=Try.func84,f85:=Try.func85,f86:=Try.func86,f87:=Try.func87,f88:=Try.func88,f104:=Try.func104 }
end Go.Proofs.Ytapddfjimhohcaa.AM
/- What is handed in az data,az the machine sees it. -/
namespace Go.Proofs.Ytapddfjimhohcaa.AM
set_option linter.all false
set_option autoImplicit true
set_option relaxedAutoImplicit true
open Go
inductive Sha where
 | bool
 | int (k:IntKind)
 | str
 | slice (e:Sha)
 | row (l:List Sha)
mutual
def Sha.width:Sha→Nat
 | .row l=>widthL l
 | _=>1
def widthL:List Sha→Nat
 | []=>0
 | s::l=>s.width+widthL l
end
mutual
def Sha.chk (P:Program):Sha→TypeId→Bool
 | .bool,t=>match P.underlying t with
   | some .bool=>true
   | _=>false
 | .int k,t=>match P.underlying t with
   | some (.int k')=>decide (k'=k)
   | _=>false
 | .str,t=>match P.underlying t with
   | some .string=>true
   | _=>false
 | .slice e,t=>match P.underlying t with
   | some (.slice u)=>e.chk P u && P.cellsOf u == e.width && Nat.blt 0 e.width
   | _=>false
 | .row l,t=>P.cellsOf t == widthL l && match P.underlying t with
   | some (.struct fs)=>chkF P l fs.toList 0
   | some (.array n u)=>l.length == n && chkA P l u (P.cellsOf u)
   | _=>false
def chkF (P:Program):List Sha→List Field→Nat→Bool
 | [],[],_=>true
 | s::l,f::fs,o=>f.offset == o && P.cellsOf f.type == s.width && s.chk P f.type && chkF P l fs (o+s.width)
 | _,_,_=>false
def chkA (P:Program):List Sha→TypeId→Nat→Bool
 | [],_,_=>true
 | s::l,u,c=>c == s.width && s.chk P u && chkA P l u c
end
mutual
def Sha.Ok:Sha→List AV→Prop
 | .bool,az=>∃ b,az=[.bool b]
 | .int k,az=>∃ n,(Lit.int k n).wf=true∧az=[.int k n]
 | .str,az=>∃ s:ByteArray,s.size≤maxLen∧az=[.str s]
 | .slice e,az=>az=[.nils]∨∃ l:List (List AV),l.length≤maxLen∧(∀ x ∈ l,e.Ok x)∧az=[.imm l.length l.flatten]
 | .row l,az=>okL l az
def okL:List Sha→List AV→Prop
 | [],az=>az=[]
 | s::l,az=>∃ a b,s.Ok a∧okL l b∧az=a++b
end
section
variable {H:Type} {enc:TypeId × Value→H} {P:Program} {w:World}
abbrev RL0 (w:World):=RL (fun _=>False) (fun _=>none) w
theorem cut_app {vs:List Value} {o k:Nat} (h:o+k≤vs.length):vs.drop o=(vs.drop o).take k++vs.drop (o+k):=by
 rw [← List.drop_drop,List.take_append_drop]
theorem rl_slice {e:Sha} {k n:Nat} {a:Addr} {len:Nat} {elems:List (DataW H × List MemPlace)} {u:TypeId} (hk:0<k) (hl:elems.length=len)
 (ih:∀ fuel cs x,DataW.trod enc P w 0 (fun _=>true) true fuel u cs=some x→∃ az,RL0 w cs az∧e.Ok az)
 (hel:∀ i,i<len→(w.cells? 0 (a.add (i*k)) k).bind (DataW.trod enc P w 0 (fun _=>true) true n u)=elems[i]?) (hlen:0<len) :
 a.spot=none∧∀ m,m≤len→∃ (us:List Value) (l:List (List AV)),l.length=m∧us.length=m*k∧(∀ j v,us[j]? = some v→w.cell? ⟨a.block,a.off+j,none⟩=some v)∧RL0 w us l.flatten∧∀ x ∈ l,e.Ok x:=by
 have get:∀ i,i<len→∃ cs x,w.cells? 0 (a.add (i*k)) k=some cs∧DataW.trod enc P w 0 (fun _=>true) true n u cs=some x:=fun i hi=>by
  have:=hel i hi
  rw [List.getElem?_eq_getElem (by omega),Option.bind_eq_some_iff] at this
  obtain ⟨cs,h1,h2⟩:=this
  exact ⟨cs,_,h1,h2⟩
 have hs:a.spot=none:=by
  obtain ⟨cs,x,h1,_⟩:=get 0 hlen
  obtain ⟨_,h2,h3⟩:=World.cells?_some h1
  have:=h3 0 hk
  rw [List.getElem?_eq_getElem (by omega)] at this
  have h4:=World.cell?_spot this
  rw [Nat.zero_mul] at h4
  simpa [Addr.add] using h4
 refine ⟨hs,fun m=>?_⟩
 induction m with
 | zero=>exact fun _=>⟨[],[],rfl,by simp,by simp,.nil,by simp⟩
 | succ m im =>
   intro hm
   obtain ⟨us,l,h1,h2,h3,h4,h5⟩:=im (by omega)
   obtain ⟨cs,x,g1,g2⟩:=get m (by omega)
   obtain ⟨az,g3,g4⟩:=ih _ _ _ g2
   obtain ⟨_,g5,g6⟩:=World.cells?_some g1
   refine ⟨us++cs,l++[az],by simp [h1],by rw [List.length_append,h2,g5,Nat.succ_mul],?_,?_,?_⟩
   · intro j v hj
     rcases Nat.lt_or_ge j us.length with hlt|hge
     · rw [List.getElem?_append_left hlt] at hj; exact h3 j v hj
     · rw [List.getElem?_append_right hge] at hj
       have hlt:j-us.length<k:=by have:=(List.getElem?_eq_some_iff.1 hj).1; omega
       have g7:=g6 _ hlt
       rw [hj] at g7
       obtain ⟨b,o,sp⟩:=a
       simp only at hs
       subst hs
       rw [Go.WideShapes.add_plain,Go.WideShapes.add_plain] at g7
       rw [← g7]
       have e3:o+j=o+m*k+(j-us.length):=by rw [← h2,Nat.add_assoc,Nat.add_sub_cancel' hge]
       simp only [e3]
   · rw [List.flatten_append]; simpa using h4.app g3
   · intro y hy
     rcases List.mem_append.1 hy with h|h
     · exact h5 y h
     · simp at h; exact h ▸ g4
mutual
theorem Sha.rl:∀ (sp:Sha) (t:TypeId),sp.chk P t=true→∀ fuel cs x,DataW.trod enc P w 0 (fun _=>true) true fuel t cs=some x→∃ az,RL0 w cs az∧sp.Ok az
 | .bool,t,hc,fuel,cs,x,h=>by
   have ht:P.underlying t=some .bool:=by simp only [Sha.chk] at hc; split at hc<;>simp_all
   cases fuel with
   | zero=>simp [DataW.trod] at h
   | succ n =>
     unfold DataW.trod at h
     rw [ht] at h
     split at h<;>simp_all
     exact ⟨_,.bool _ .nil,_,rfl⟩
 | .int k,t,hc,fuel,cs,x,h=>by
   have ht:P.underlying t=some (.int k):=by simp only [Sha.chk] at hc; split at hc<;>simp_all
   cases fuel with
   | zero=>simp [DataW.trod] at h
   | succ n =>
     unfold DataW.trod at h
     rw [ht] at h
     split at h<;>simp_all
     obtain ⟨⟨rfl,hw⟩,_⟩:=h
     exact ⟨_,.int _ _ .nil,_,hw,rfl⟩
 | .str,t,hc,fuel,cs,x,h=>by
   have ht:P.underlying t=some .string:=by simp only [Sha.chk] at hc; split at hc<;>simp_all
   cases fuel with
   | zero=>simp [DataW.trod] at h
   | succ n =>
     unfold DataW.trod at h
     rw [ht] at h
     split at h<;>simp_all
     exact ⟨_,.str _ .nil,_,h.1,rfl⟩
 | .slice e,t,hc,fuel,cs,x,h=>by
   obtain ⟨u,ht,h1,h2,h3⟩:∃ u,P.underlying t=some (.slice u)∧e.chk P u=true∧P.cellsOf u=e.width∧0<e.width:=by
    simp only [Sha.chk] at hc
    split at hc
    · rename_i u hu
      simp only [Bool.and_eq_true,beq_iff_eq] at hc
      exact ⟨u,hu,hc.1.1,hc.1.2,Nat.le_of_ble_eq_true hc.2⟩
    · simp at hc
   have ih:=Sha.rl e u h1
   rcases DataW.trod_slice ht h with ⟨rfl,_⟩|⟨a,len,cap,elems,rest,n,_,rfl,_,_,hlc,hm,hlen,hel,_,_⟩
   · exact ⟨[.nils],.nils .nil,.inl rfl⟩
   · rw [h2] at hel
     rcases Nat.eq_zero_or_pos len with h0|h0
     · subst h0; exact ⟨[.imm 0 []],.imm0 _ _ .nil,.inr ⟨[],by simp [maxLen],by simp,rfl⟩⟩
     · obtain ⟨hs,hall⟩:=rl_slice h3 hlen ih hel h0
       obtain ⟨us,l,g1,g2,g3,g4,g5⟩:=hall len (Nat.le_refl _)
       obtain ⟨b,o,sp⟩:=a
       simp only at hs
       subst hs
       exact ⟨[.imm len l.flatten],.imm hlc (fun _ h=>h) g3 g4 .nil,.inr ⟨l,by omega,g5,by rw [g1]⟩⟩
 | .row l,t,hc,fuel,cs,x,h=>by
   simp only [Sha.chk,Bool.and_eq_true,beq_iff_eq] at hc
   obtain ⟨hw,hc⟩:=hc
   split at hc
   · rename_i fs hu
     obtain ⟨xs,n,_,_,hl,hx,hall⟩:=DataW.trod_struct hu h
     have:=rlF l fs.toList 0 hc n cs (fun i f hf=>by
      have:=hall i f (by simpa using hf)
      rw [this]
      have:i<fs.size:=by have:=(List.getElem?_eq_some_iff.1 hf).1; simpa using this
      exact ⟨xs[i]'(by omega),List.getElem?_eq_getElem _⟩) (by rw [hl,hw]; omega)
     simpa [Sha.Ok] using this
   · rename_i n u hu
     simp only [Bool.and_eq_true,beq_iff_eq] at hc
     obtain ⟨xs,m,_,_,hl,hx,hall⟩:=DataW.trod_array hu h
     have:=rlA l u (P.cellsOf u) hc.2 m cs 0 0 (Nat.zero_mul _).symm (fun i hi=>by
      rw [Nat.zero_add,hall i (by omega)]
      exact ⟨xs[i]'(by omega),List.getElem?_eq_getElem _⟩) (by rw [hl,hw]; omega)
     simpa [Sha.Ok] using this
   · simp at hc
theorem rlF:∀ (l:List Sha) (fs:List Field) (o:Nat),chkF P l fs o=true→∀ (n:Nat) (cs:List Value),(∀ (i:Nat) (f:Field),fs[i]? = some f→∃ y,DataW.trod enc P w 0 (fun _=>true) true n f.type ((cs.drop f.offset).take (P.cellsOf f.type))=some y)→cs.length=o+widthL l→∃ az,RL0 w (cs.drop o) az∧okL l az
 | [],[],o,_,n,cs,_,hl=>⟨[],by rw [List.drop_of_length_le (by simp [widthL] at hl; omega)]; exact .nil,rfl⟩
 | [],_::_,_,hc,_,_,_,_=>by simp [chkF] at hc
 | _::_,[],_,hc,_,_,_,_=>by simp [chkF] at hc
 | s::l,f::fs,o,hc,n,cs,hall,hl=>by
   simp only [chkF,Bool.and_eq_true,beq_iff_eq] at hc
   obtain ⟨⟨⟨h1,h2⟩,h3⟩,h4⟩:=hc
   simp only [widthL] at hl
   obtain ⟨y,hy⟩:=hall 0 f rfl
   obtain ⟨a,ha,oa⟩:=Sha.rl s f.type h3 _ _ _ hy
   obtain ⟨b,hb,ob⟩:=rlF l fs (o+s.width) h4 n cs (fun i g hg=>hall (i+1) g (by simpa using hg)) (by omega)
   refine ⟨a++b,?_,a,b,oa,ob,rfl⟩
   rw [cut_app (k:=s.width) (by omega)]
   rw [h1,h2] at ha
   exact ha.app hb
theorem rlA:∀ (l:List Sha) (u:TypeId) (c:Nat),chkA P l u c=true→∀ (n:Nat) (cs:List Value) (j o:Nat),o=j*c→(∀ i,i<l.length→∃ y,DataW.trod enc P w 0 (fun _=>true) true n u ((cs.drop ((j+i)*c)).take c)=some y)→cs.length=o+widthL l→∃ az,RL0 w (cs.drop o) az∧okL l az
 | [],_,_,_,_,cs,_,o,_,_,hl=>⟨[],by rw [List.drop_of_length_le (by simp [widthL] at hl; omega)]; exact .nil,rfl⟩
 | s::l,u,c,hc,n,cs,j,o,ho,hall,hl=>by
   simp only [chkA,Bool.and_eq_true,beq_iff_eq] at hc
   obtain ⟨⟨h1,h2⟩,h3⟩:=hc
   simp only [widthL] at hl
   obtain ⟨y,hy⟩:=hall 0 (by simp)
   obtain ⟨a,ha,oa⟩:=Sha.rl s u h2 _ _ _ hy
   obtain ⟨b,hb,ob⟩:=rlA l u c h3 n cs (j+1) (o+c) (by rw [ho,Nat.succ_mul]) (fun i hi=>by
    have:=hall (i+1) (by simp; omega)
    rwa [show j+(i+1)=j+1+i by omega] at this) (by omega)
   refine ⟨a++b,?_,a,b,oa,ob,rfl⟩
   rw [cut_app (k:=c) (by omega)]
   rw [Nat.add_zero,← ho] at ha
   exact ha.app hb
end
end
end Go.Proofs.Ytapddfjimhohcaa.AM
/- What all rows share: a call by its specification; arguments that are data. -/
namespace Go.Proofs.Ytapddfjimhohcaa
set_option linter.all false
set_option autoImplicit true
set_option relaxedAutoImplicit true
open Go Go.Proofs Go.ChangeShapes Go.WideShapes Go.ChangeAt Go.RowKit
theorem CSpec.calls {P:Program} {f:Nat} {fn:Func} {c:Code} {args:List AM.AV} {b:Bool} (h:AM.CSpec P f args (.bool b)) (hf:P.funcs[f]? = some fn) (hb:fn.body=some c) (hn:(fn.name == "runtime.NumGoroutine")=false) {vs:List Value} {w:World}
 (hr:AM.RL (fun _=>False) (fun _=>none) w vs args):Calls P f vs.toArray w fun e w'=>e = .returned (.bool b)∧Below w.heap.size w w':=by
 have:=h (fun _=>False) (fun _=>none) w vs (fun _ h=>h.elim) hr
 unfold AM.Invk at this
 rw [AM.callFunc_enter hf hb hn] at this
 simp only [] at this
 refine this.mono fun e w' ⟨v,he,hv,hB⟩=>?_
 rw [he,hv.bool_inv]; exact ⟨rfl,hB⟩
theorem Try.own:ownKnob Try.prog.godebug=none:=by kernel_rfl
end Go.Proofs.Ytapddfjimhohcaa
/- Package nat: making numbers,their digits. -/
namespace Go.Proofs.Ytapddfjimhohcaa.AM
set_option linter.all false
set_option autoImplicit true
set_option relaxedAutoImplicit true
open Go Go.Proofs
set_option maxRecDepth 100000
set_option maxHeartbeats 4000000
set_option linter.unusedSimpArgs false
variable {P:Program}
theorem Of_spec (hP:PrgOk P) (n:Nat) (hn:n<18446744073709551616):CSpec P 49 [.int .u64 n] (.agg [.opq (.nat (n)),.pad]):=by
 have HE:=EnvOk.no hP.t0
 refine CSpec_go (E:=⟨T0,noS⟩) (fn49 hP) HE hP.mix ?_
 simp only [go_sem]
 exact Conv.nat1 hn
theorem cut_spec (hP:PrgOk P) (l:List Nat) (hd:∀ d ∈ l,d<18446744073709551616) (hn:l.length<4611686018427387904):CSpec P 75 [.imm l.length (List.map (fun d:Nat=>AV.int .u64 (d:Int)) (l))] (.agg [.opq (.nat (dOf 18446744073709551616 l)),.pad]):=by
 have HE:=EnvOk.no hP.t0
 refine CSpec_go (E:=⟨T0,noS⟩) (fn75 hP) HE hP.mix ?_
 simp only [go_sem]
 refine trX_loop HE hP.mix [0] (fun k:Nat=>⟨upd (upd (upd (fun _=>.junk) 0 (.imm l.length (List.map (fun d:Nat=>AV.int .u64 (d:Int)) (l)))) 2 (.ref 0 0)) 3 (.int .i64 (k:Int)),upd (fun _=>.unused) 0 (.live [.int .u64 0,.nils]),33⟩) (fun k=>k≤l.length∧dOf 18446744073709551616 (l.take k)=dOf 18446744073709551616 l) (fun k=>k) l.length 1
  Has.z (Kept.of rfl KT.z (KM.one rfl rfl)) ⟨Nat.le_refl _,by simp⟩ 33 (by kernel_rfl) ?_
 intro k ⟨hk,he⟩
 cases k with
 | zero =>
   simp only [go_sem]
   have:dOf 18446744073709551616 l=0:=by rw [← he]; rfl
   rw [this]; exact Conv.nat1 (a:=0) (by decide)
 | succ k =>
   have h2:=wi_nat k (by omega)
   have hk':k<l.length:=by omega
   have hk2:k≤l.length:=by omega
   have htk:=take_snoc hk'
   simp only [go_sem,h2,gU' hk',hk',hk2]
   refine if_split (fun hz=>?_) (fun hz=>?_)
   · simp only [go_sem,h2]
     have hz:=eq_of_beq hz
     refine ⟨k,Kept.of rfl KT.z (KM.one rfl rfl),⟨by omega,?_⟩,by omega⟩
     rw [← he,htk,hz,dOf_append]; simp [dOf]
   · have hz:l.getD k 0 ≠ 0:=by simpa using hz
     simp only [go_sem]
     have hcan:Canon (l.take (k+1)):=by
      intro h; rw [List.getLast_eq_getElem]
      have:(l.take (k+1)).length-1=k:=by simp; omega
      simp only [this]
      simpa [hk'] using hz
     refine if_split (fun hk1=>?_) (fun hk1=>?_)
     · obtain rfl:=eq_of_beq hk1
       have hd0:dOf 18446744073709551616 l=l.getD 0 0:=by rw [← he,htk]; simp [dOf]
       simp only [go_sem,gU' hk',gU hk',hk']
       rw [hd0]
       exact Conv.nat1 (hd _ (getD_mem hk'))
     · simp only [go_sem,hk]
       rw [← he]
       have hk3:k ≠ 0:=fun e=>by rw [e] at hk1; simp at hk1
       exact Conv.natL (fun d hd'=>hd d (List.mem_of_mem_take hd')) hcan (by simp; omega) (by simp; omega)
def cutS:List AV→Option (Prop × AV)
 | [.imm n cs]=>some (cs=(List.map (fun d:Nat=>AV.int .u64 (d:Int)) (cs.map ud))∧n=cs.length∧(∀ d ∈ cs.map ud,d<18446744073709551616)∧n<4611686018427387904,(.agg [.opq (.nat (dOf 18446744073709551616 (cs.map ud))),.pad]))
 | _=>none
theorem cutS_ok (hP:PrgOk P) (args p r) (h:cutS args=some (p,r)) (hp:p):CSpec P 75 args r:=by
 unfold cutS at h
 split at h
 · simp only [Option.some.injEq,Prod.mk.injEq] at h
   obtain ⟨rfl,rfl⟩:=h
   obtain ⟨h1,h2,h3,h4⟩:=hp
   have:=cut_spec hP _ h3 (by simp; omega)
   rw [← h1,List.length_map,← h2] at this
   exact this
 · simp at h
theorem digits_spec (hP:PrgOk P) (a:Nat):CSpec P 73 [(.agg [.opq (.nat (a)),.pad])] (sv (digs 18446744073709551616 a)):=by
 have HE:=EnvOk.no hP.t0
 refine CSpec.cv ?_ (CvL.natIn a .nil)
 by_cases ha:a<18446744073709551616
 · rw [natC_small ha]
   refine CSpec_go (E:=⟨T0,noS⟩) (fn73 hP) HE hP.mix ?_
   simp only [go_sem]
   refine if_split (fun h=>?_) (fun h=>?_)
   · rw [eq_of_beq h,digs_zero,sv_nil]
     simp only [go_sem]
     exact .refl _
   · have h:a ≠ 0:=by simpa using h
     rw [digs_small _ _ (by decide) ha h,sv_ne (by simp)]
     simp only [go_sem]
     exact .refl _
 · have h:a ≠ 0:=by omega
   rw [natC_great ha,sv_ne (by rw [digs_eq _ _ (by decide) h]; simp)]
   refine CSpec_go (E:=⟨T0,noS⟩) (fn73 hP) HE hP.mix ?_
   simp only [go_sem]
   exact ⟨by have:=digs_length_gt 18446744073709551616 a 1 (by decide) (by omega); omega,.refl _⟩
def digitsS:List AV→Option (Prop × AV):=on1 fun a=>(True,sv (digs 18446744073709551616 a))
theorem digitsS_ok (hP:PrgOk P) (args p r):digitsS args=some (p,r)→p→CSpec P 73 args r:=on1_ok (fun a _=>digits_spec hP a) args p r
def OfS:List AV→Option (Prop × AV)
 | [.int .u64 n]=>some (0≤n∧n<18446744073709551616,(.agg [.opq (.nat (n.toNat)),.pad]))
 | _=>none
theorem OfS_ok (hP:PrgOk P) (args p r) (h:OfS args=some (p,r)) (hp:p):CSpec P 49 args r:=by
 unfold OfS at h
 split at h
 · simp only [Option.some.injEq,Prod.mk.injEq] at h
   obtain ⟨rfl,rfl⟩:=h
   obtain ⟨n',e⟩:=Int.eq_ofNat_of_zero_le hp.1
   subst e
   have:=Of_spec hP n' (by omega)
   exact this
 · simp at h
attribute [go_sem] cutS digitsS OfS
def len64S:List AV→Option (Prop × AV)
 | [.int .u64 x]=>some (0≤x∧x.toNat<18446744073709551616,.int .i64 (blen x.toNat:Nat))
 | _=>none
theorem len64S_ok (hP:PrgOk P) (args p r) (h:len64S args=some (p,r)) (hp:p):CSpec P 62 args r:=by
 unfold len64S at h
 split at h
 · simp only [Option.some.injEq,Prod.mk.injEq] at h
   obtain ⟨rfl,rfl⟩:=h
   exact (by have:=hP.len64 _ hp.2; rw [nn hp.1] at this; exact this)
 · simp at h
def lz64S:List AV→Option (Prop × AV)
 | [.int .u64 x]=>some (0≤x∧x.toNat<18446744073709551616,.int .i64 ((64-blen x.toNat:Nat):Int))
 | _=>none
theorem lz64S_ok (hP:PrgOk P) (args p r) (h:lz64S args=some (p,r)) (hp:p):CSpec P 83 args r:=by
 unfold lz64S at h
 split at h
 · simp only [Option.some.injEq,Prod.mk.injEq] at h
   obtain ⟨rfl,rfl⟩:=h
   exact (by have:=hP.lz64 _ hp.2; rw [nn hp.1] at this; exact this)
 · simp at h
noncomputable def mul64S:List AV→Option (Prop × AV)
 | [.int .u64 x,.int .u64 y]=>some ((0≤x∧0≤y)∧x.toNat<18446744073709551616∧y.toNat<18446744073709551616,.tup [.int .u64 ((mulh x.toNat y.toNat:Nat):Int),.int .u64 ((mull x.toNat y.toNat:Nat):Int)])
 | _=>none
theorem mul64S_ok (hP:PrgOk P) (args p r) (h:mul64S args=some (p,r)) (hp:p):CSpec P 72 args r:=by
 unfold mul64S at h
 split at h
 · simp only [Option.some.injEq,Prod.mk.injEq] at h
   obtain ⟨rfl,rfl⟩:=h
   exact (by have:=hP.mul64 _ _ hp.2.1 hp.2.2; rw [nn hp.1.1,nn hp.1.2] at this; exact this)
 · simp at h
noncomputable def add64S:List AV→Option (Prop × AV)
 | [.int .u64 x,.int .u64 y,.int .u64 c]=>some ((0≤x∧0≤y∧0≤c)∧x.toNat<18446744073709551616∧c.toNat≤1,.tup [.int .u64 ((addl x.toNat y.toNat c.toNat:Nat):Int),.int .u64 ((addh x.toNat y.toNat c.toNat:Nat):Int)])
 | _=>none
theorem add64S_ok (hP:PrgOk P) (args p r) (h:add64S args=some (p,r)) (hp:p):CSpec P 74 args r:=by
 unfold add64S at h
 split at h
 · simp only [Option.some.injEq,Prod.mk.injEq] at h
   obtain ⟨rfl,rfl⟩:=h
   exact (by rename_i x y c; have:=hP.add64 x.toNat y.toNat c.toNat hp.2.1 hp.2.2; rw [nn hp.1.1,nn hp.1.2.1,nn hp.1.2.2] at this; exact this)
 · simp at h
noncomputable def sub64S:List AV→Option (Prop × AV)
 | [.int .u64 x,.int .u64 y,.int .u64 c]=>some ((0≤x∧0≤y∧0≤c)∧x.toNat<18446744073709551616∧c.toNat≤1,.tup [.int .u64 ((subd x.toNat y.toNat c.toNat:Nat):Int),.int .u64 ((bor x.toNat y.toNat c.toNat:Nat):Int)])
 | _=>none
theorem sub64S_ok (hP:PrgOk P) (args p r) (h:sub64S args=some (p,r)) (hp:p):CSpec P 81 args r:=by
 unfold sub64S at h
 split at h
 · simp only [Option.some.injEq,Prod.mk.injEq] at h
   obtain ⟨rfl,rfl⟩:=h
   exact (by rename_i x y c; have:=hP.sub64 x.toNat y.toNat c.toNat hp.2.1 hp.2.2; rw [nn hp.1.1,nn hp.1.2.1,nn hp.1.2.2] at this; exact this)
 · simp at h
attribute [go_sem] len64S lz64S mul64S add64S sub64S
noncomputable def Sa:Nat→List AV→Option (Prop × AV):=addS (addS (addS (addS (addS (addS (addS (addS noS 75 cutS) 73 digitsS) 49 OfS) 62 len64S) 83 lz64S) 72 mul64S) 74 add64S) 81 sub64S
theorem Sa_ok (hP:PrgOk P):EnvOk P ⟨T0,Sa⟩:=(((((((((EnvOk.no hP.t0).add (cutS_ok hP)).add (digitsS_ok hP)).add (OfS_ok hP)).add (len64S_ok hP)).add (lz64S_ok hP)).add (mul64S_ok hP)).add (add64S_ok hP)).add (sub64S_ok hP))
theorem Sa_at (f a):Sa f a=(addS (addS (addS (addS (addS (addS (addS (addS noS 75 cutS) 73 digitsS) 49 OfS) 62 len64S) 83 lz64S) 72 mul64S) 74 add64S) 81 sub64S) f a:=rfl
attribute [go_sem] Sa_at
theorem Bits_spec (hP:PrgOk P) (a:Nat) (hb:blen a≤68719476736):CSpec P 52 [(.agg [.opq (.nat (a)),.pad])] (.int .i64 (blen a:Nat)):=by
 have HE:=Sa_ok hP
 refine CSpec.cv ?_ (CvL.natIn a .nil)
 by_cases ha:a<18446744073709551616
 · rw [natC_small ha]
   refine CSpec_go (E:=⟨T0,Sa⟩) (fn52 hP) HE hP.mix ?_
   simp only [go_sem,ha]
   exact .refl _
 · have h:a ≠ 0:=by omega
   have hl:=digs_length_gt 18446744073709551616 a 1 (by decide) (by omega)
   have hl2:=digs_len_blen a
   have he:=blen_digs a h
   have hd:∀ d ∈ digs 18446744073709551616 a,d<18446744073709551616:=digs_lt 18446744073709551616 a (by decide)
   obtain ⟨k,hk⟩:∃ k,(digs 18446744073709551616 a).length=k+1:=⟨(digs 18446744073709551616 a).length-1,by omega⟩
   rw [hk,Nat.add_sub_cancel] at he
   have hkl:k<(digs 18446744073709551616 a).length:=by omega
   rw [natC_great ha,hk]
   refine CSpec_go (E:=⟨T0,Sa⟩) (fn52 hP) HE hP.mix ?_
   have h2:=wi_nat k (by omega)
   have h3:IntKind.i64.wrap (64*(k:Int))=((64*k:Nat):Int):=by rw [IntKind.wrap_i64]; omega
   have h4:IntKind.i64.wrap (((64*k:Nat):Int)+((blen ((digs 18446744073709551616 a).getD k 0):Nat):Int))=((blen a:Nat):Int):=by rw [IntKind.wrap_i64]; omega
   have hd1:=hd _ (getD_mem hkl)
   have hd2:k≤(digs 18446744073709551616 a).length:=by omega
   have hd3:k<k+1:=by omega
   simp only [go_sem,h2,h3,h4,gU' hkl,hkl,hd1,hd2,hd3]
   exact ⟨by omega,.refl _⟩
def BitsS:List AV→Option (Prop × AV):=on1 fun a=>(blen a≤68719476736,.int .i64 (blen a:Nat))
theorem BitsS_ok (hP:PrgOk P) (args p r):BitsS args=some (p,r)→p→CSpec P 52 args r:=on1_ok (fun a h=>Bits_spec hP a h) args p r
theorem Cmp_spec (hP:PrgOk P) (a b:Nat) (ha:blen a≤68719476736) (hb:blen b≤68719476736):CSpec P 59 [(.agg [.opq (.nat (a)),.pad]),(.agg [.opq (.nat (b)),.pad])] (.int .i64 (cmpI a b)):=by
 have HE:=Sa_ok hP
 have hxd:∀ d ∈ digs 18446744073709551616 a,d<18446744073709551616:=digs_lt 18446744073709551616 a (by decide)
 have hyd:∀ d ∈ digs 18446744073709551616 b,d<18446744073709551616:=digs_lt 18446744073709551616 b (by decide)
 have hx:=dOf_digs 18446744073709551616 a (by decide)
 have hy:=dOf_digs 18446744073709551616 b (by decide)
 have hlx:=digs_len_blen a
 have hly:=digs_len_blen b
 have hlt:=digs_len_lt 18446744073709551616 a b (by decide)
 have hgt:=digs_len_lt 18446744073709551616 b a (by decide)
 refine CSpec_go (E:=⟨T0,Sa⟩) (fn59 hP) HE hP.mix ?_
 simp only [go_sem]
 generalize digs 18446744073709551616 a=x at *
 generalize digs 18446744073709551616 b=y at *
 refine if_split (fun h=>?_) (fun h=>?_)
 · simp only [go_sem]
   refine if_split (fun h=>?_) (fun h'=>?_)
   · simp only [go_sem]
     rw [cmpI_lt (hlt (of_decide_eq_true h))]; exact .refl _
   · simp only [go_sem]
     have h':=of_decide_eq_false h'
     have h:x.length ≠ y.length:=by simpa using h
     rw [cmpI_gt (hgt (by omega))]; exact .refl _
 · have hxy:y.length=x.length:=by simpa using Eq.symm (by simpa using h)
   have hw:=wi_pred' x.length (by omega)
   simp only [go_sem,hw]
   refine trX_loop HE hP.mix [0,1] (fun k:Nat=>⟨upd (upd (upd (upd (fun _=>.junk) 4 (.int .i64 0)) 5 (sv x)) 6 (sv y)) 7 (.int .i64 ((k:Int)-1)),upd (upd (fun _=>.unused) 0 (.live [.opq (.nat a),.pad])) 1 (.live [.opq (.nat b),.pad]),49⟩) (fun k=>k≤x.length∧x.drop k=y.drop k) (fun k=>k) x.length 2
    Has.z (Kept.of rfl KT.z (KM.two rfl rfl rfl rfl rfl)) ⟨Nat.le_refl _,by rw [List.drop_length,← hxy,List.drop_length]⟩ 49 (by kernel_rfl) ?_
   intro k ⟨hk,he⟩
   cases k with
   | zero =>
     have h0:((0:Int)≤((0:Nat):Int)-1)=False:=by simp
     simp only [go_sem,h0]
     have:a=b:=by rw [← hx,← hy]; simp at he; rw [he]
     rw [this,cmpI_eq]; exact .refl _
   | succ k =>
     have k1:k<x.length:=by omega
     have k2:k<y.length:=by omega
     have k3:k≤x.length:=by omega
     have k4:k≤y.length:=by omega
     have e1:x ≠ []:=by intro e; rw [e] at k1; simp at k1
     have e2:y ≠ []:=by intro e; rw [e] at k2; simp at k2
     simp only [go_sem,sv_ia e1,sv_ia e2,k1,k2,k3,k4,gU' k1,gU' k2]
     refine if_split (fun h=>?_) (fun h=>?_)
     · simp only [go_sem]
       have:=dOf_cmp 18446744073709551616 x y hxd k k1 k2 he (of_decide_eq_true h)
       rw [cmpI_lt (by omega)]; exact .refl _
     · simp only [go_sem,sv_ia e1,sv_ia e2,k1,k2,k3,k4,gU' k1,gU' k2]
       refine if_split (fun h'=>?_) (fun h'=>?_)
       · simp only [go_sem]
         have:=dOf_cmp 18446744073709551616 y x hyd k k2 k1 he.symm (of_decide_eq_true h')
         rw [cmpI_gt (by omega)]; exact .refl _
       · have hw:=wi_pred' k (by omega)
         simp only [go_sem,hw]
         refine ⟨k,Kept.of rfl KT.z (KM.two rfl rfl rfl rfl rfl),⟨by omega,?_⟩,by omega⟩
         have e1:=List.drop_eq_getElem_cons k1
         have e2:=List.drop_eq_getElem_cons k2
         have h:=of_decide_eq_false h
         have h':=of_decide_eq_false h'
         rw [getD_get k1,getD_get k2] at h
         rw [getD_get k1,getD_get k2] at h'
         rw [e1,e2,he,show x[k]=y[k] by omega]
def CmpS:List AV→Option (Prop × AV):=on2 fun a b=>(blen a≤68719476736∧blen b≤68719476736,.int .i64 (cmpI a b))
theorem CmpS_ok (hP:PrgOk P) (args p r):CmpS args=some (p,r)→p→CSpec P 59 args r:=on2_ok (fun a b h=>by exact Cmp_spec hP a b h.1 h.2) args p r
attribute [go_sem] BitsS CmpS
end Go.Proofs.Ytapddfjimhohcaa.AM
/- Package nat: sums. -/
namespace Go.Proofs.Ytapddfjimhohcaa.AM
set_option linter.all false
set_option autoImplicit true
set_option relaxedAutoImplicit true
open Go Go.Proofs
set_option maxRecDepth 100000
set_option maxHeartbeats 8000000
set_option linter.unusedSimpArgs false
variable {P:Program}
noncomputable def Sb:Nat→List AV→Option (Prop × AV):=addS (addS Sa 52 BitsS) 59 CmpS
theorem Sb_ok (hP:PrgOk P):EnvOk P ⟨T0,Sb⟩:=(((Sa_ok hP).add (BitsS_ok hP)).add (CmpS_ok hP))
theorem Sb_at (f a):Sb f a=(addS (addS Sa 52 BitsS) 59 CmpS) f a:=rfl
attribute [go_sem] Sb_at
theorem Add_small (hP:PrgOk P) (a b:Nat) (ha:a<18446744073709551616) (hb:b<18446744073709551616):CSpec P 60 [.agg [.int .u64 (a:Int),.nils],.agg [.int .u64 (b:Int),.nils]] (.agg [.opq (.nat (a+b)),.pad]):=by
 have HE:=Sb_ok hP
 refine CSpec_go (E:=⟨T0,Sb⟩) (fn60 hP) HE hP.mix ?_
 simp only [go_sem,ha]
 have h2:=add_all a b 0
 have h3:=addl_lt a b 0
 have h4:=addh_le ha hb (c:=0) (by decide)
 refine if_split (fun h=>?_) (fun h=>?_)
 · simp only [go_sem]
   have h:=eq_of_beq h
   have e:addl a b 0=a+b:=by omega
   rw [e]; exact Conv.nat1 (by omega)
 · simp only [go_sem]
   have h:addh a b 0 ≠ 0:=by simpa using h
   have e:dOf 18446744073709551616 [addl a b 0,addh a b 0]=a+b:=by simp only [dOf]; omega
   have:=Conv.natL (l:=[addl a b 0,addh a b 0]) (n:=2) ?_ ?_ (by simp) rfl
   · rw [e] at this; exact this
   · intro d hd
     simp only [List.mem_cons,List.not_mem_nil,or_false] at hd
     rcases hd with rfl|rfl<;>omega
   · intro _; simpa using h
theorem Add_great (hP:PrgOk P) (a b:Nat) (ha:blen a≤68719476736) (hb:blen b≤68719476736) (hg:¬ (a<18446744073709551616∧b<18446744073709551616)):CSpec P 60 [.agg (natC a),.agg (natC b)] (.agg [.opq (.nat (a+b)),.pad]):=by
 have HE:=Sb_ok hP
 have hxd:∀ d ∈ digs 18446744073709551616 a,d<18446744073709551616:=digs_lt 18446744073709551616 a (by decide)
 have hyd:∀ d ∈ digs 18446744073709551616 b,d<18446744073709551616:=digs_lt 18446744073709551616 b (by decide)
 have hx:=dOf_digs 18446744073709551616 a (by decide)
 have hy:=dOf_digs 18446744073709551616 b (by decide)
 have hlx:=digs_len_blen a
 have hly:=digs_len_blen b
 have hlt:=digs_len_lt 18446744073709551616 a b (by decide)
 have hgt:=digs_len_lt 18446744073709551616 b a (by decide)
 by_cases h1:a<18446744073709551616
 · rw [natC_small h1,natC_great (by omega)]
   have hl:=digs_length_gt 18446744073709551616 b 1 (by decide) (by omega)
   have hl1:=digs_length_le 18446744073709551616 a 1 (by decide) (by omega)
   have hl':(digs 18446744073709551616 a).length<(digs 18446744073709551616 b).length:=by omega
   have hl2:2≤(digs 18446744073709551616 b).length:=by omega
   have hl3:((digs 18446744073709551616 b).length ≠ 0)=True:=eq_true (by omega)
   refine CSpec_go (E:=⟨T0,Sb⟩) (fn60 hP) HE hP.mix ?_
   simp only [go_sem,h1,hl',hl2,hl3]
   generalize digs 18446744073709551616 a=x at *
   generalize digs 18446744073709551616 b=y at *
   have hi:=wi_add1 y.length (by omega)
   have hi2:y.length+1≤1099511627776:=by omega
   have hi3:y.length≤y.length+1:=by omega
   simp only [go_sem,hi,hi2,hi3]
   have hyx:x.length≤y.length:=by omega
   refine trX_loop HE hP.mix [29,2,1,0] (fun q:Nat × List Nat × Nat=>⟨upd (upd (upd (upd (upd (upd (fun _=>.junk) 4 (.ref 2 0)) 8 (sv x)) 9 (.sl 29 0 (y.length+1) 1)) 10 (.int .u64 (q.2.2:Int))) 56 (.int .i64 ((y.length+1:Nat):Int))) 57 (.int .i64 (q.1:Int)),upd (upd (upd (upd (fun _=>.unused) 0 (.live [.int .u64 (a:Int),.nils])) 1 (.live [.int .u64 0,.imm y.length (List.map (fun d:Nat=>AV.int .u64 (d:Int)) (y))])) 2 (.live [.int .u64 0,.nils])) 29 (.live (List.map (fun d:Nat=>AV.int .u64 (d:Int)) (q.2.1))),86⟩)
    (fun q=>q.1≤y.length+1∧q.2.1.length=y.length+1∧(∀ d ∈ q.2.1,d<18446744073709551616)∧q.2.2≤1∧dOf 18446744073709551616 q.2.1+18446744073709551616^q.1*q.2.2=dOf 18446744073709551616 y+dOf 18446744073709551616 (x.take q.1)) (fun q=>y.length+1-q.1) (0,y++[0],0) 40
    Has.z (Kept.of rfl KT.z KM.z) ⟨by simp,by simp,by intro d hd; rcases List.mem_append.1 hd with hd|hd; exact (hyd d hd); simp at hd; omega,by simp,by simp [dOf_append,dOf]⟩ 86 (by kernel_rfl) ?_
   rintro ⟨k,z,c⟩ ⟨q1,q2,q3,q4,q5⟩
   simp only [] at q1 q2 q3 q4 q5
   have fin:dOf 18446744073709551616 z=a+b→CSpec P 75 [.imm z.length (List.map (fun d:Nat=>AV.int .u64 (d:Int)) (z))] (.agg [.opq (.nat (a+b)),.pad]):=fun h=>h ▸ cut_spec hP z q3 (by omega)
   have htk:z.take (y.length+1)=z:=List.take_of_length_le (by omega)
   have hsl:y.length+1<4611686018427387904:=by omega
   have hz3:(∀ d ∈ z,d<18446744073709551616)=True:=eq_true q3
   have hall:=hyd
   by_cases hk:k<y.length+1
   · have hkz:k<z.length:=by omega
     have hzd:=q3 _ (getD_mem hkz)
     have hw:=wi_add1 k (by omega)
     have hset:=dOf_set 18446744073709551616 z k
     by_cases hky:k<x.length
     · have e1:x ≠ []:=by intro e; rw [e] at hky; simp at hky
       have hky':k≤x.length:=by omega
       simp only [go_sem,hk,hky,hky',hkz,gU hkz,gU' hky,q4,hzd,hw,sv_ia e1]
       have hs:=hset (addl (z.getD k 0) (x.getD k 0) c) hkz
       have hst:=add_step (18446744073709551616^k) (z.getD k 0) (x.getD k 0) c _ _ _ q5 hs
       have hyk:=hxd _ (getD_mem hky)
       refine ⟨(k+1,z.set k (addl (z.getD k 0) (x.getD k 0) c),addh (z.getD k 0) (x.getD k 0) c),Kept.of rfl KT.z KM.z,⟨by simp only []; omega,by simp only [List.length_set]; omega,?_,addh_le hzd hyk q4,?_⟩,by simp only []; omega⟩
       · intro d hd
         rcases List.mem_or_eq_of_mem_set hd with hd|rfl
         · exact q3 d hd
         · exact addl_lt _ _ _
       · simp only []
         rw [dOf_take_succ 18446744073709551616 x k hky,Nat.pow_succ]; exact hst
     · have htke:x.take k=x:=List.take_of_length_le (by omega)
       have htke1:x.take (k+1)=x:=List.take_of_length_le (by omega)
       by_cases hc:c=0
       · have hc':(c == 0)=true:=by rw [hc]; rfl
         simp only [go_sem,hk,hky,hc',htk,q2,hz3,hsl]
         rw [hc,htke,hy,hx] at q5
         have e:dOf 18446744073709551616 z=a+b:=by simp only [Nat.mul_zero,Nat.add_zero] at q5; omega
         rw [e]; exact .refl _
       · have hc':(c == 0)=false:=by simpa using hc
         simp only [go_sem,hk,hky,hc',hkz,gU hkz,q4,hzd,hw]
         have hs:=hset (addl (z.getD k 0) 0 c) hkz
         have hst:=add_step (18446744073709551616^k) (z.getD k 0) 0 c _ _ _ q5 hs
         refine ⟨(k+1,z.set k (addl (z.getD k 0) 0 c),addh (z.getD k 0) 0 c),Kept.of rfl KT.z KM.z,⟨by simp only []; omega,by simp only [List.length_set]; omega,?_,addh_le hzd (by decide) q4,?_⟩,by simp only []; omega⟩
         · intro d hd
           rcases List.mem_or_eq_of_mem_set hd with hd|rfl
           · exact q3 d hd
           · exact addl_lt _ _ _
         · simp only []
           rw [htke] at hst
           rw [htke1,Nat.pow_succ]; exact hst
   · simp only [go_sem,hk,htk,q2,hz3,hsl]
     have hkn:k=y.length+1:=by omega
     have htke:x.take k=x:=List.take_of_length_le (by omega)
     rw [htke] at q5
     have l1:=dOf_lt 18446744073709551616 y hyd
     have l2:=dOf_lt 18446744073709551616 x hxd
     have l3:=Nat.pow_le_pow_right (by decide:0<18446744073709551616) hyx
     have l4:18446744073709551616^k=18446744073709551616^y.length*18446744073709551616:=by rw [hkn,Nat.pow_succ]
     have hc:c=0:=by
      rcases Nat.eq_zero_or_pos c with h|h
      · exact h
      · obtain rfl:c=1:=by omega
        omega
     have e:dOf 18446744073709551616 z=a+b:=by rw [hc,hy,hx] at q5; simp only [Nat.mul_zero,Nat.add_zero] at q5; omega
     rw [e]; exact .refl _
 · have hl:=digs_length_gt 18446744073709551616 a 1 (by decide) (by omega)
   have hl2:2≤(digs 18446744073709551616 a).length:=by omega
   have hl3:((digs 18446744073709551616 a).length ≠ 0)=True:=eq_true (by omega)
   by_cases h2:b<18446744073709551616
   · rw [natC_great h1,natC_small h2]
     have hl1:=digs_length_le 18446744073709551616 b 1 (by decide) (by omega)
     have hl':¬ (digs 18446744073709551616 a).length<(digs 18446744073709551616 b).length:=by omega
     refine CSpec_go (E:=⟨T0,Sb⟩) (fn60 hP) HE hP.mix ?_
     simp only [go_sem,h2,hl',hl2,hl3]
     generalize digs 18446744073709551616 a=x at *
     generalize digs 18446744073709551616 b=y at *
     have hi:=wi_add1 x.length (by omega)
     have hi2:x.length+1≤1099511627776:=by omega
     have hi3:x.length≤x.length+1:=by omega
     simp only [go_sem,hi,hi2,hi3]
     have hyx:y.length≤x.length:=by omega
     refine trX_loop HE hP.mix [22,2,1,0] (fun q:Nat × List Nat × Nat=>⟨upd (upd (upd (upd (upd (upd (fun _=>.junk) 4 (.ref 2 0)) 8 (sv y)) 9 (.sl 22 0 (x.length+1) 1)) 10 (.int .u64 (q.2.2:Int))) 56 (.int .i64 ((x.length+1:Nat):Int))) 57 (.int .i64 (q.1:Int)),upd (upd (upd (upd (fun _=>.unused) 0 (.live [.int .u64 0,.imm x.length (List.map (fun d:Nat=>AV.int .u64 (d:Int)) (x))])) 1 (.live [.int .u64 (b:Int),.nils])) 2 (.live [.int .u64 0,.nils])) 22 (.live (List.map (fun d:Nat=>AV.int .u64 (d:Int)) (q.2.1))),86⟩)
      (fun q=>q.1≤x.length+1∧q.2.1.length=x.length+1∧(∀ d ∈ q.2.1,d<18446744073709551616)∧q.2.2≤1∧dOf 18446744073709551616 q.2.1+18446744073709551616^q.1*q.2.2=dOf 18446744073709551616 x+dOf 18446744073709551616 (y.take q.1)) (fun q=>x.length+1-q.1) (0,x++[0],0) 40
      Has.z (Kept.of rfl KT.z KM.z) ⟨by simp,by simp,by intro d hd; rcases List.mem_append.1 hd with hd|hd; exact (hxd d hd); simp at hd; omega,by simp,by simp [dOf_append,dOf]⟩ 86 (by kernel_rfl) ?_
     rintro ⟨k,z,c⟩ ⟨q1,q2,q3,q4,q5⟩
     simp only [] at q1 q2 q3 q4 q5
     have fin:dOf 18446744073709551616 z=a+b→CSpec P 75 [.imm z.length (List.map (fun d:Nat=>AV.int .u64 (d:Int)) (z))] (.agg [.opq (.nat (a+b)),.pad]):=fun h=>h ▸ cut_spec hP z q3 (by omega)
     have htk:z.take (x.length+1)=z:=List.take_of_length_le (by omega)
     have hsl:x.length+1<4611686018427387904:=by omega
     have hz3:(∀ d ∈ z,d<18446744073709551616)=True:=eq_true q3
     have hall:=hxd
     by_cases hk:k<x.length+1
     · have hkz:k<z.length:=by omega
       have hzd:=q3 _ (getD_mem hkz)
       have hw:=wi_add1 k (by omega)
       have hset:=dOf_set 18446744073709551616 z k
       by_cases hky:k<y.length
       · have e1:y ≠ []:=by intro e; rw [e] at hky; simp at hky
         have hky':k≤y.length:=by omega
         simp only [go_sem,hk,hky,hky',hkz,gU hkz,gU' hky,q4,hzd,hw,sv_ia e1]
         have hs:=hset (addl (z.getD k 0) (y.getD k 0) c) hkz
         have hst:=add_step (18446744073709551616^k) (z.getD k 0) (y.getD k 0) c _ _ _ q5 hs
         have hyk:=hyd _ (getD_mem hky)
         refine ⟨(k+1,z.set k (addl (z.getD k 0) (y.getD k 0) c),addh (z.getD k 0) (y.getD k 0) c),Kept.of rfl KT.z KM.z,⟨by simp only []; omega,by simp only [List.length_set]; omega,?_,addh_le hzd hyk q4,?_⟩,by simp only []; omega⟩
         · intro d hd
           rcases List.mem_or_eq_of_mem_set hd with hd|rfl
           · exact q3 d hd
           · exact addl_lt _ _ _
         · simp only []
           rw [dOf_take_succ 18446744073709551616 y k hky,Nat.pow_succ]; exact hst
       · have htke:y.take k=y:=List.take_of_length_le (by omega)
         have htke1:y.take (k+1)=y:=List.take_of_length_le (by omega)
         by_cases hc:c=0
         · have hc':(c == 0)=true:=by rw [hc]; rfl
           simp only [go_sem,hk,hky,hc',htk,q2,hz3,hsl]
           rw [hc,htke,hx,hy] at q5
           have e:dOf 18446744073709551616 z=a+b:=by simp only [Nat.mul_zero,Nat.add_zero] at q5; omega
           rw [e]; exact .refl _
         · have hc':(c == 0)=false:=by simpa using hc
           simp only [go_sem,hk,hky,hc',hkz,gU hkz,q4,hzd,hw]
           have hs:=hset (addl (z.getD k 0) 0 c) hkz
           have hst:=add_step (18446744073709551616^k) (z.getD k 0) 0 c _ _ _ q5 hs
           refine ⟨(k+1,z.set k (addl (z.getD k 0) 0 c),addh (z.getD k 0) 0 c),Kept.of rfl KT.z KM.z,⟨by simp only []; omega,by simp only [List.length_set]; omega,?_,addh_le hzd (by decide) q4,?_⟩,by simp only []; omega⟩
           · intro d hd
             rcases List.mem_or_eq_of_mem_set hd with hd|rfl
             · exact q3 d hd
             · exact addl_lt _ _ _
           · simp only []
             rw [htke] at hst
             rw [htke1,Nat.pow_succ]; exact hst
     · simp only [go_sem,hk,htk,q2,hz3,hsl]
       have hkn:k=x.length+1:=by omega
       have htke:y.take k=y:=List.take_of_length_le (by omega)
       rw [htke] at q5
       have l1:=dOf_lt 18446744073709551616 x hxd
       have l2:=dOf_lt 18446744073709551616 y hyd
       have l3:=Nat.pow_le_pow_right (by decide:0<18446744073709551616) hyx
       have l4:18446744073709551616^k=18446744073709551616^x.length*18446744073709551616:=by rw [hkn,Nat.pow_succ]
       have hc:c=0:=by
        rcases Nat.eq_zero_or_pos c with h|h
        · exact h
        · obtain rfl:c=1:=by omega
          omega
       have e:dOf 18446744073709551616 z=a+b:=by rw [hc,hx,hy] at q5; simp only [Nat.mul_zero,Nat.add_zero] at q5; omega
       rw [e]; exact .refl _
   · rw [natC_great h1,natC_great h2]
     have hl4:=digs_length_gt 18446744073709551616 b 1 (by decide) (by omega)
     have hl5:2≤(digs 18446744073709551616 b).length:=by omega
     have hl6:((digs 18446744073709551616 b).length ≠ 0)=True:=eq_true (by omega)
     by_cases hl':(digs 18446744073709551616 a).length<(digs 18446744073709551616 b).length
     · refine CSpec_go (E:=⟨T0,Sb⟩) (fn60 hP) HE hP.mix ?_
       simp only [go_sem,hl',hl2,hl3,hl5,hl6]
       generalize digs 18446744073709551616 a=x at *
       generalize digs 18446744073709551616 b=y at *
       have hi:=wi_add1 y.length (by omega)
       have hi2:y.length+1≤1099511627776:=by omega
       have hi3:y.length≤y.length+1:=by omega
       simp only [go_sem,hi,hi2,hi3]
       have hyx:x.length≤y.length:=by omega
       refine trX_loop HE hP.mix [26,2,1,0] (fun q:Nat × List Nat × Nat=>⟨upd (upd (upd (upd (upd (upd (fun _=>.junk) 4 (.ref 2 0)) 8 (sv x)) 9 (.sl 26 0 (y.length+1) 1)) 10 (.int .u64 (q.2.2:Int))) 56 (.int .i64 ((y.length+1:Nat):Int))) 57 (.int .i64 (q.1:Int)),upd (upd (upd (upd (fun _=>.unused) 0 (.live [.int .u64 0,.imm x.length (List.map (fun d:Nat=>AV.int .u64 (d:Int)) (x))])) 1 (.live [.int .u64 0,.imm y.length (List.map (fun d:Nat=>AV.int .u64 (d:Int)) (y))])) 2 (.live [.int .u64 0,.nils])) 26 (.live (List.map (fun d:Nat=>AV.int .u64 (d:Int)) (q.2.1))),86⟩)
        (fun q=>q.1≤y.length+1∧q.2.1.length=y.length+1∧(∀ d ∈ q.2.1,d<18446744073709551616)∧q.2.2≤1∧dOf 18446744073709551616 q.2.1+18446744073709551616^q.1*q.2.2=dOf 18446744073709551616 y+dOf 18446744073709551616 (x.take q.1)) (fun q=>y.length+1-q.1) (0,y++[0],0) 40
        Has.z (Kept.of rfl KT.z KM.z) ⟨by simp,by simp,by intro d hd; rcases List.mem_append.1 hd with hd|hd; exact (hyd d hd); simp at hd; omega,by simp,by simp [dOf_append,dOf]⟩ 86 (by kernel_rfl) ?_
       rintro ⟨k,z,c⟩ ⟨q1,q2,q3,q4,q5⟩
       simp only [] at q1 q2 q3 q4 q5
       have fin:dOf 18446744073709551616 z=a+b→CSpec P 75 [.imm z.length (List.map (fun d:Nat=>AV.int .u64 (d:Int)) (z))] (.agg [.opq (.nat (a+b)),.pad]):=fun h=>h ▸ cut_spec hP z q3 (by omega)
       have htk:z.take (y.length+1)=z:=List.take_of_length_le (by omega)
       have hsl:y.length+1<4611686018427387904:=by omega
       have hz3:(∀ d ∈ z,d<18446744073709551616)=True:=eq_true q3
       have hall:=hyd
       by_cases hk:k<y.length+1
       · have hkz:k<z.length:=by omega
         have hzd:=q3 _ (getD_mem hkz)
         have hw:=wi_add1 k (by omega)
         have hset:=dOf_set 18446744073709551616 z k
         by_cases hky:k<x.length
         · have e1:x ≠ []:=by intro e; rw [e] at hky; simp at hky
           have hky':k≤x.length:=by omega
           simp only [go_sem,hk,hky,hky',hkz,gU hkz,gU' hky,q4,hzd,hw,sv_ia e1]
           have hs:=hset (addl (z.getD k 0) (x.getD k 0) c) hkz
           have hst:=add_step (18446744073709551616^k) (z.getD k 0) (x.getD k 0) c _ _ _ q5 hs
           have hyk:=hxd _ (getD_mem hky)
           refine ⟨(k+1,z.set k (addl (z.getD k 0) (x.getD k 0) c),addh (z.getD k 0) (x.getD k 0) c),Kept.of rfl KT.z KM.z,⟨by simp only []; omega,by simp only [List.length_set]; omega,?_,addh_le hzd hyk q4,?_⟩,by simp only []; omega⟩
           · intro d hd
             rcases List.mem_or_eq_of_mem_set hd with hd|rfl
             · exact q3 d hd
             · exact addl_lt _ _ _
           · simp only []
             rw [dOf_take_succ 18446744073709551616 x k hky,Nat.pow_succ]; exact hst
         · have htke:x.take k=x:=List.take_of_length_le (by omega)
           have htke1:x.take (k+1)=x:=List.take_of_length_le (by omega)
           by_cases hc:c=0
           · have hc':(c == 0)=true:=by rw [hc]; rfl
             simp only [go_sem,hk,hky,hc',htk,q2,hz3,hsl]
             rw [hc,htke,hy,hx] at q5
             have e:dOf 18446744073709551616 z=a+b:=by simp only [Nat.mul_zero,Nat.add_zero] at q5; omega
             rw [e]; exact .refl _
           · have hc':(c == 0)=false:=by simpa using hc
             simp only [go_sem,hk,hky,hc',hkz,gU hkz,q4,hzd,hw]
             have hs:=hset (addl (z.getD k 0) 0 c) hkz
             have hst:=add_step (18446744073709551616^k) (z.getD k 0) 0 c _ _ _ q5 hs
             refine ⟨(k+1,z.set k (addl (z.getD k 0) 0 c),addh (z.getD k 0) 0 c),Kept.of rfl KT.z KM.z,⟨by simp only []; omega,by simp only [List.length_set]; omega,?_,addh_le hzd (by decide) q4,?_⟩,by simp only []; omega⟩
             · intro d hd
               rcases List.mem_or_eq_of_mem_set hd with hd|rfl
               · exact q3 d hd
               · exact addl_lt _ _ _
             · simp only []
               rw [htke] at hst
               rw [htke1,Nat.pow_succ]; exact hst
       · simp only [go_sem,hk,htk,q2,hz3,hsl]
         have hkn:k=y.length+1:=by omega
         have htke:x.take k=x:=List.take_of_length_le (by omega)
         rw [htke] at q5
         have l1:=dOf_lt 18446744073709551616 y hyd
         have l2:=dOf_lt 18446744073709551616 x hxd
         have l3:=Nat.pow_le_pow_right (by decide:0<18446744073709551616) hyx
         have l4:18446744073709551616^k=18446744073709551616^y.length*18446744073709551616:=by rw [hkn,Nat.pow_succ]
         have hc:c=0:=by
          rcases Nat.eq_zero_or_pos c with h|h
          · exact h
          · obtain rfl:c=1:=by omega
            omega
         have e:dOf 18446744073709551616 z=a+b:=by rw [hc,hy,hx] at q5; simp only [Nat.mul_zero,Nat.add_zero] at q5; omega
         rw [e]; exact .refl _
     · refine CSpec_go (E:=⟨T0,Sb⟩) (fn60 hP) HE hP.mix ?_
       simp only [go_sem,hl',hl2,hl3,hl5,hl6]
       generalize digs 18446744073709551616 a=x at *
       generalize digs 18446744073709551616 b=y at *
       have hi:=wi_add1 x.length (by omega)
       have hi2:x.length+1≤1099511627776:=by omega
       have hi3:x.length≤x.length+1:=by omega
       simp only [go_sem,hi,hi2,hi3]
       have hyx:y.length≤x.length:=by omega
       refine trX_loop HE hP.mix [22,2,1,0] (fun q:Nat × List Nat × Nat=>⟨upd (upd (upd (upd (upd (upd (fun _=>.junk) 4 (.ref 2 0)) 8 (sv y)) 9 (.sl 22 0 (x.length+1) 1)) 10 (.int .u64 (q.2.2:Int))) 56 (.int .i64 ((x.length+1:Nat):Int))) 57 (.int .i64 (q.1:Int)),upd (upd (upd (upd (fun _=>.unused) 0 (.live [.int .u64 0,.imm x.length (List.map (fun d:Nat=>AV.int .u64 (d:Int)) (x))])) 1 (.live [.int .u64 0,.imm y.length (List.map (fun d:Nat=>AV.int .u64 (d:Int)) (y))])) 2 (.live [.int .u64 0,.nils])) 22 (.live (List.map (fun d:Nat=>AV.int .u64 (d:Int)) (q.2.1))),86⟩)
        (fun q=>q.1≤x.length+1∧q.2.1.length=x.length+1∧(∀ d ∈ q.2.1,d<18446744073709551616)∧q.2.2≤1∧dOf 18446744073709551616 q.2.1+18446744073709551616^q.1*q.2.2=dOf 18446744073709551616 x+dOf 18446744073709551616 (y.take q.1)) (fun q=>x.length+1-q.1) (0,x++[0],0) 40
        Has.z (Kept.of rfl KT.z KM.z) ⟨by simp,by simp,by intro d hd; rcases List.mem_append.1 hd with hd|hd; exact (hxd d hd); simp at hd; omega,by simp,by simp [dOf_append,dOf]⟩ 86 (by kernel_rfl) ?_
       rintro ⟨k,z,c⟩ ⟨q1,q2,q3,q4,q5⟩
       simp only [] at q1 q2 q3 q4 q5
       have fin:dOf 18446744073709551616 z=a+b→CSpec P 75 [.imm z.length (List.map (fun d:Nat=>AV.int .u64 (d:Int)) (z))] (.agg [.opq (.nat (a+b)),.pad]):=fun h=>h ▸ cut_spec hP z q3 (by omega)
       have htk:z.take (x.length+1)=z:=List.take_of_length_le (by omega)
       have hsl:x.length+1<4611686018427387904:=by omega
       have hz3:(∀ d ∈ z,d<18446744073709551616)=True:=eq_true q3
       have hall:=hxd
       by_cases hk:k<x.length+1
       · have hkz:k<z.length:=by omega
         have hzd:=q3 _ (getD_mem hkz)
         have hw:=wi_add1 k (by omega)
         have hset:=dOf_set 18446744073709551616 z k
         by_cases hky:k<y.length
         · have e1:y ≠ []:=by intro e; rw [e] at hky; simp at hky
           have hky':k≤y.length:=by omega
           simp only [go_sem,hk,hky,hky',hkz,gU hkz,gU' hky,q4,hzd,hw,sv_ia e1]
           have hs:=hset (addl (z.getD k 0) (y.getD k 0) c) hkz
           have hst:=add_step (18446744073709551616^k) (z.getD k 0) (y.getD k 0) c _ _ _ q5 hs
           have hyk:=hyd _ (getD_mem hky)
           refine ⟨(k+1,z.set k (addl (z.getD k 0) (y.getD k 0) c),addh (z.getD k 0) (y.getD k 0) c),Kept.of rfl KT.z KM.z,⟨by simp only []; omega,by simp only [List.length_set]; omega,?_,addh_le hzd hyk q4,?_⟩,by simp only []; omega⟩
           · intro d hd
             rcases List.mem_or_eq_of_mem_set hd with hd|rfl
             · exact q3 d hd
             · exact addl_lt _ _ _
           · simp only []
             rw [dOf_take_succ 18446744073709551616 y k hky,Nat.pow_succ]; exact hst
         · have htke:y.take k=y:=List.take_of_length_le (by omega)
           have htke1:y.take (k+1)=y:=List.take_of_length_le (by omega)
           by_cases hc:c=0
           · have hc':(c == 0)=true:=by rw [hc]; rfl
             simp only [go_sem,hk,hky,hc',htk,q2,hz3,hsl]
             rw [hc,htke,hx,hy] at q5
             have e:dOf 18446744073709551616 z=a+b:=by simp only [Nat.mul_zero,Nat.add_zero] at q5; omega
             rw [e]; exact .refl _
           · have hc':(c == 0)=false:=by simpa using hc
             simp only [go_sem,hk,hky,hc',hkz,gU hkz,q4,hzd,hw]
             have hs:=hset (addl (z.getD k 0) 0 c) hkz
             have hst:=add_step (18446744073709551616^k) (z.getD k 0) 0 c _ _ _ q5 hs
             refine ⟨(k+1,z.set k (addl (z.getD k 0) 0 c),addh (z.getD k 0) 0 c),Kept.of rfl KT.z KM.z,⟨by simp only []; omega,by simp only [List.length_set]; omega,?_,addh_le hzd (by decide) q4,?_⟩,by simp only []; omega⟩
             · intro d hd
               rcases List.mem_or_eq_of_mem_set hd with hd|rfl
               · exact q3 d hd
               · exact addl_lt _ _ _
             · simp only []
               rw [htke] at hst
               rw [htke1,Nat.pow_succ]; exact hst
       · simp only [go_sem,hk,htk,q2,hz3,hsl]
         have hkn:k=x.length+1:=by omega
         have htke:y.take k=y:=List.take_of_length_le (by omega)
         rw [htke] at q5
         have l1:=dOf_lt 18446744073709551616 x hxd
         have l2:=dOf_lt 18446744073709551616 y hyd
         have l3:=Nat.pow_le_pow_right (by decide:0<18446744073709551616) hyx
         have l4:18446744073709551616^k=18446744073709551616^x.length*18446744073709551616:=by rw [hkn,Nat.pow_succ]
         have hc:c=0:=by
          rcases Nat.eq_zero_or_pos c with h|h
          · exact h
          · obtain rfl:c=1:=by omega
            omega
         have e:dOf 18446744073709551616 z=a+b:=by rw [hc,hx,hy] at q5; simp only [Nat.mul_zero,Nat.add_zero] at q5; omega
         rw [e]; exact .refl _
theorem Add_spec (hP:PrgOk P) (a b:Nat) (ha:blen a≤68719476736) (hb:blen b≤68719476736):CSpec P 60 [(.agg [.opq (.nat (a)),.pad]),(.agg [.opq (.nat (b)),.pad])] (.agg [.opq (.nat (a+b)),.pad]):=by
 refine CSpec.cv ?_ (CvL.natIn a (CvL.natIn b .nil))
 by_cases h:a<18446744073709551616∧b<18446744073709551616
 · rw [natC_small h.1,natC_small h.2]; exact Add_small hP a b h.1 h.2
 · exact Add_great hP a b ha hb h
def AddS:List AV→Option (Prop × AV):=on2 fun a b=>(blen a≤68719476736∧blen b≤68719476736,(.agg [.opq (.nat (a+b)),.pad]))
theorem AddS_ok (hP:PrgOk P) (args p r):AddS args=some (p,r)→p→CSpec P 60 args r:=on2_ok (fun a b h=>by exact Add_spec hP a b h.1 h.2) args p r
attribute [go_sem] AddS
theorem Sub_less (hP:PrgOk P) (a b:Nat) (ha:blen a≤68719476736) (hb:blen b≤68719476736) (h:a<b):CSpec P 71 [(.agg [.opq (.nat (a)),.pad]),(.agg [.opq (.nat (b)),.pad])] (.tup [(.agg [.opq (.nat (0)),.pad]),.int .i64 10]):=by
 have HE:=Sb_ok hP
 refine CSpec_go (E:=⟨T0,Sb⟩) (fn71 hP) HE hP.mix ?_
 have hc:decide (cmpI a b<0)=true:=by rw [cmpI_lt h]; rfl
 simp only [go_sem,ha,hb,hc]
 exact CvL.conv (CvL.tup (by have:=CvL.natOut 0 (xs:=[.int .i64 10]) (CvL.refl _); rw [natC_small (by decide)] at this; exact this) .nil)
theorem Sub_ok (hP:PrgOk P) (a b:Nat) (ha:blen a≤68719476736) (hb:blen b≤68719476736) (h:b≤a):CSpec P 71 [(.agg [.opq (.nat (a)),.pad]),(.agg [.opq (.nat (b)),.pad])] (.tup [(.agg [.opq (.nat (a-b)),.pad]),.int .i64 0]):=by
 have HE:=Sb_ok hP
 have hc:decide (cmpI a b<0)=false:=by
  rcases Nat.lt_or_ge b a with h'|h'
  · rw [cmpI_gt h']; rfl
  · rw [Nat.le_antisymm h h',cmpI_eq]; rfl
 refine CSpec.cv ?_ (CvL.natIn a (CvL.natIn b .nil))
 by_cases h1:a<18446744073709551616
 · have h2:b<18446744073709551616:=by omega
   rw [natC_small h1,natC_small h2]
   have hs:=wu_sub a b h h1
   refine CSpec_go (E:=⟨T0,Sb⟩) (fn71 hP) HE hP.mix ?_
   simp only [go_sem,ha,hb,hc,h1,h2,hs]
   exact CvL.conv (CvL.tup (by have:=CvL.natOut (a-b) (xs:=[.int .i64 0]) (CvL.refl _); rw [natC_small (by omega)] at this; exact this) .nil)
 · rw [natC_great h1]
   have hxd:∀ d ∈ digs 18446744073709551616 a,d<18446744073709551616:=digs_lt 18446744073709551616 a (by decide)
   have hyd:∀ d ∈ digs 18446744073709551616 b,d<18446744073709551616:=digs_lt 18446744073709551616 b (by decide)
   have hx:=dOf_digs 18446744073709551616 a (by decide)
   have hy:=dOf_digs 18446744073709551616 b (by decide)
   have hlx:=digs_len_blen a
   have hgt:=digs_len_lt 18446744073709551616 a b (by decide)
   have hyx:(digs 18446744073709551616 b).length≤(digs 18446744073709551616 a).length:=by omega
   have hl:=digs_length_gt 18446744073709551616 a 1 (by decide) (by omega)
   have hl2:2≤(digs 18446744073709551616 a).length:=by omega
   have hl3:((digs 18446744073709551616 a).length ≠ 0)=True:=eq_true (by omega)
   have hl4:(digs 18446744073709551616 a).length≤1099511627776:=by omega
   by_cases h2:b<18446744073709551616
   · rw [natC_small h2]
     refine CSpec_go (E:=⟨T0,Sb⟩) (fn71 hP) HE hP.mix ?_
     simp only [go_sem,ha,hb,hc,h2,hl2,hl3,hl4]
     generalize digs 18446744073709551616 a=x at *
     generalize digs 18446744073709551616 b=y at *
     refine trX_loop HE hP.mix [14,2,1,0] (fun q:Nat × List Nat × Nat=>⟨upd (upd (upd (upd (upd (upd (fun _=>.junk) 4 (.ref 2 0)) 7 (sv y)) 6 (.sl 14 0 x.length 1)) 8 (.int .u64 (q.2.2:Int))) 36 (.int .i64 (x.length:Int))) 37 (.int .i64 (q.1:Int)),upd (upd (upd (upd (fun _=>.unused) 0 (.live [.int .u64 0,.imm x.length (List.map (fun d:Nat=>AV.int .u64 (d:Int)) (x))])) 1 (.live [.int .u64 (b:Int),.nils])) 2 (.live [.int .u64 0,.nils])) 14 (.live (List.map (fun d:Nat=>AV.int .u64 (d:Int)) (q.2.1))),66⟩)
      (fun q=>q.1≤x.length∧q.2.1.length=x.length∧(∀ d ∈ q.2.1,d<18446744073709551616)∧q.2.2≤1∧dOf 18446744073709551616 q.2.1+dOf 18446744073709551616 (y.take q.1)=dOf 18446744073709551616 x+18446744073709551616^q.1*q.2.2) (fun q=>x.length-q.1) (0,x,0) 40
      Has.z (Kept.of rfl KT.z KM.z) ⟨by simp,by simp,hxd,by simp,by simp [dOf]⟩ 66 (by kernel_rfl) ?_
     rintro ⟨k,z,c⟩ ⟨q1,q2,q3,q4,q5⟩
     simp only [] at q1 q2 q3 q4 q5
     have htk:z.take x.length=z:=List.take_of_length_le (by omega)
     have hsl:x.length<4611686018427387904:=by omega
     have hz3:(∀ d ∈ z,d<18446744073709551616)=True:=eq_true q3
     by_cases hk:k<x.length
     · have hkz:k<z.length:=by omega
       have hzd:=q3 _ (getD_mem hkz)
       have hw:=wi_add1 k (by omega)
       have hset:=dOf_set 18446744073709551616 z k
       by_cases hky:k<y.length
       · have e1:y ≠ []:=by intro e; rw [e] at hky; simp at hky
         have hky':k≤y.length:=by omega
         have hyk:=hyd _ (getD_mem hky)
         simp only [go_sem,hk,hky,hky',hkz,gU hkz,gU' hky,q4,hzd,hw,sv_ia e1]
         have hs:=hset (subd (z.getD k 0) (y.getD k 0) c) hkz
         have hst:=sub_step (18446744073709551616^k) (z.getD k 0) (y.getD k 0) c _ _ _ hzd hyk q4 q5 hs
         refine ⟨(k+1,z.set k (subd (z.getD k 0) (y.getD k 0) c),bor (z.getD k 0) (y.getD k 0) c),Kept.of rfl KT.z KM.z,⟨by simp only []; omega,by simp only [List.length_set]; omega,?_,bor_le _ _ _,?_⟩,by simp only []; omega⟩
         · intro d hd
           rcases List.mem_or_eq_of_mem_set hd with hd|rfl
           · exact q3 d hd
           · exact subd_lt _ _ _
         · simp only []
           rw [dOf_take_succ 18446744073709551616 y k hky,Nat.pow_succ]; exact hst
       · have htke:y.take k=y:=List.take_of_length_le (by omega)
         have htke1:y.take (k+1)=y:=List.take_of_length_le (by omega)
         by_cases hc0:c=0
         · have hc':(c == 0)=true:=by rw [hc0]; rfl
           simp only [go_sem,hk,hky,hc',htk,q2,hz3,hsl]
           rw [hc0,htke,hx,hy] at q5
           have e:dOf 18446744073709551616 z=a-b:=by simp only [Nat.mul_zero,Nat.add_zero] at q5; omega
           rw [e]; exact .refl _
         · have hc':(c == 0)=false:=by simpa using hc0
           simp only [go_sem,hk,hky,hc',hkz,gU hkz,q4,hzd,hw]
           have hs:=hset (subd (z.getD k 0) 0 c) hkz
           have hst:=sub_step (18446744073709551616^k) (z.getD k 0) 0 c _ _ _ hzd (by decide) q4 q5 hs
           refine ⟨(k+1,z.set k (subd (z.getD k 0) 0 c),bor (z.getD k 0) 0 c),Kept.of rfl KT.z KM.z,⟨by simp only []; omega,by simp only [List.length_set]; omega,?_,bor_le _ _ _,?_⟩,by simp only []; omega⟩
           · intro d hd
             rcases List.mem_or_eq_of_mem_set hd with hd|rfl
             · exact q3 d hd
             · exact subd_lt _ _ _
           · simp only []
             rw [htke] at hst
             rw [htke1,Nat.pow_succ]; exact hst
     · simp only [go_sem,hk,htk,q2,hz3,hsl]
       have hkn:k=x.length:=by omega
       have htke:y.take k=y:=List.take_of_length_le (by omega)
       rw [htke] at q5
       have l1:=dOf_lt 18446744073709551616 z q3
       rw [q2,← hkn] at l1
       have hc0:c=0:=by
        rcases Nat.eq_zero_or_pos c with h|h
        · exact h
        · obtain rfl:c=1:=by omega
          omega
       have e:dOf 18446744073709551616 z=a-b:=by rw [hc0,hx,hy] at q5; simp only [Nat.mul_zero,Nat.add_zero] at q5; omega
       rw [e]; exact .refl _
   · rw [natC_great h2]
     have hl4':=digs_length_gt 18446744073709551616 b 1 (by decide) (by omega)
     have hl5:2≤(digs 18446744073709551616 b).length:=by omega
     have hl6:((digs 18446744073709551616 b).length ≠ 0)=True:=eq_true (by omega)
     refine CSpec_go (E:=⟨T0,Sb⟩) (fn71 hP) HE hP.mix ?_
     simp only [go_sem,ha,hb,hc,hl2,hl3,hl4,hl5,hl6]
     generalize digs 18446744073709551616 a=x at *
     generalize digs 18446744073709551616 b=y at *
     refine trX_loop HE hP.mix [14,2,1,0] (fun q:Nat × List Nat × Nat=>⟨upd (upd (upd (upd (upd (upd (fun _=>.junk) 4 (.ref 2 0)) 7 (sv y)) 6 (.sl 14 0 x.length 1)) 8 (.int .u64 (q.2.2:Int))) 36 (.int .i64 (x.length:Int))) 37 (.int .i64 (q.1:Int)),upd (upd (upd (upd (fun _=>.unused) 0 (.live [.int .u64 0,.imm x.length (List.map (fun d:Nat=>AV.int .u64 (d:Int)) (x))])) 1 (.live [.int .u64 0,.imm y.length (List.map (fun d:Nat=>AV.int .u64 (d:Int)) (y))])) 2 (.live [.int .u64 0,.nils])) 14 (.live (List.map (fun d:Nat=>AV.int .u64 (d:Int)) (q.2.1))),66⟩)
      (fun q=>q.1≤x.length∧q.2.1.length=x.length∧(∀ d ∈ q.2.1,d<18446744073709551616)∧q.2.2≤1∧dOf 18446744073709551616 q.2.1+dOf 18446744073709551616 (y.take q.1)=dOf 18446744073709551616 x+18446744073709551616^q.1*q.2.2) (fun q=>x.length-q.1) (0,x,0) 40
      Has.z (Kept.of rfl KT.z KM.z) ⟨by simp,by simp,hxd,by simp,by simp [dOf]⟩ 66 (by kernel_rfl) ?_
     rintro ⟨k,z,c⟩ ⟨q1,q2,q3,q4,q5⟩
     simp only [] at q1 q2 q3 q4 q5
     have htk:z.take x.length=z:=List.take_of_length_le (by omega)
     have hsl:x.length<4611686018427387904:=by omega
     have hz3:(∀ d ∈ z,d<18446744073709551616)=True:=eq_true q3
     by_cases hk:k<x.length
     · have hkz:k<z.length:=by omega
       have hzd:=q3 _ (getD_mem hkz)
       have hw:=wi_add1 k (by omega)
       have hset:=dOf_set 18446744073709551616 z k
       by_cases hky:k<y.length
       · have e1:y ≠ []:=by intro e; rw [e] at hky; simp at hky
         have hky':k≤y.length:=by omega
         have hyk:=hyd _ (getD_mem hky)
         simp only [go_sem,hk,hky,hky',hkz,gU hkz,gU' hky,q4,hzd,hw,sv_ia e1]
         have hs:=hset (subd (z.getD k 0) (y.getD k 0) c) hkz
         have hst:=sub_step (18446744073709551616^k) (z.getD k 0) (y.getD k 0) c _ _ _ hzd hyk q4 q5 hs
         refine ⟨(k+1,z.set k (subd (z.getD k 0) (y.getD k 0) c),bor (z.getD k 0) (y.getD k 0) c),Kept.of rfl KT.z KM.z,⟨by simp only []; omega,by simp only [List.length_set]; omega,?_,bor_le _ _ _,?_⟩,by simp only []; omega⟩
         · intro d hd
           rcases List.mem_or_eq_of_mem_set hd with hd|rfl
           · exact q3 d hd
           · exact subd_lt _ _ _
         · simp only []
           rw [dOf_take_succ 18446744073709551616 y k hky,Nat.pow_succ]; exact hst
       · have htke:y.take k=y:=List.take_of_length_le (by omega)
         have htke1:y.take (k+1)=y:=List.take_of_length_le (by omega)
         by_cases hc0:c=0
         · have hc':(c == 0)=true:=by rw [hc0]; rfl
           simp only [go_sem,hk,hky,hc',htk,q2,hz3,hsl]
           rw [hc0,htke,hx,hy] at q5
           have e:dOf 18446744073709551616 z=a-b:=by simp only [Nat.mul_zero,Nat.add_zero] at q5; omega
           rw [e]; exact .refl _
         · have hc':(c == 0)=false:=by simpa using hc0
           simp only [go_sem,hk,hky,hc',hkz,gU hkz,q4,hzd,hw]
           have hs:=hset (subd (z.getD k 0) 0 c) hkz
           have hst:=sub_step (18446744073709551616^k) (z.getD k 0) 0 c _ _ _ hzd (by decide) q4 q5 hs
           refine ⟨(k+1,z.set k (subd (z.getD k 0) 0 c),bor (z.getD k 0) 0 c),Kept.of rfl KT.z KM.z,⟨by simp only []; omega,by simp only [List.length_set]; omega,?_,bor_le _ _ _,?_⟩,by simp only []; omega⟩
           · intro d hd
             rcases List.mem_or_eq_of_mem_set hd with hd|rfl
             · exact q3 d hd
             · exact subd_lt _ _ _
           · simp only []
             rw [htke] at hst
             rw [htke1,Nat.pow_succ]; exact hst
     · simp only [go_sem,hk,htk,q2,hz3,hsl]
       have hkn:k=x.length:=by omega
       have htke:y.take k=y:=List.take_of_length_le (by omega)
       rw [htke] at q5
       have l1:=dOf_lt 18446744073709551616 z q3
       rw [q2,← hkn] at l1
       have hc0:c=0:=by
        rcases Nat.eq_zero_or_pos c with h|h
        · exact h
        · obtain rfl:c=1:=by omega
          omega
       have e:dOf 18446744073709551616 z=a-b:=by rw [hc0,hx,hy] at q5; simp only [Nat.mul_zero,Nat.add_zero] at q5; omega
       rw [e]; exact .refl _
def SubS:List AV→Option (Prop × AV):=on2 fun a b=>(blen a≤68719476736∧blen b≤68719476736,if a<b then .tup [(.agg [.opq (.nat (0)),.pad]),.int .i64 10] else .tup [(.agg [.opq (.nat (a-b)),.pad]),.int .i64 0])
theorem SubS_ok (hP:PrgOk P) (args p r):SubS args=some (p,r)→p→CSpec P 71 args r:=on2_ok (fun a b h=>by
 by_cases hlt:a<b
 · simp only [if_pos hlt]; exact Sub_less hP a b h.1 h.2 hlt
 · simp only [if_neg hlt]; exact Sub_ok hP a b h.1 h.2 (by omega)) args p r
attribute [go_sem] SubS
theorem Mul_small (hP:PrgOk P) (a b:Nat) (ha:a<18446744073709551616) (hb:b<18446744073709551616):CSpec P 57 [.agg [.int .u64 (a:Int),.nils],.agg [.int .u64 (b:Int),.nils]] (.agg [.opq (.nat (a*b)),.pad]):=by
 have HE:=Sb_ok hP
 refine CSpec_go (E:=⟨T0,Sb⟩) (fn57 hP) HE hP.mix ?_
 simp only [go_sem,ha,hb]
 have h2:=mul_all a b
 have h3:=mull_lt a b
 have h4:=mulh_lt ha hb
 refine if_split (fun h=>?_) (fun h=>?_)
 · simp only [go_sem]
   have h:=eq_of_beq h
   have e:mull a b=a*b:=by rw [h] at h2; omega
   rw [e]; exact Conv.nat1 (by omega)
 · simp only [go_sem]
   have h:mulh a b ≠ 0:=by simpa using h
   have e:dOf 18446744073709551616 [mull a b,mulh a b]=a*b:=by simp only [dOf]; omega
   have:=Conv.natL (l:=[mull a b,mulh a b]) (n:=2) ?_ ?_ (by simp) rfl
   · rw [e] at this; exact this
   · intro d hd
     simp only [List.mem_cons,List.not_mem_nil,or_false] at hd
     rcases hd with rfl|rfl<;>omega
   · intro _; simpa using h
theorem Mul_great (hP:PrgOk P) (a b:Nat) (ha:blen a≤68719476736) (hb:blen b≤68719476736) (hg:¬ (a<18446744073709551616∧b<18446744073709551616)):CSpec P 57 [.agg (natC a),.agg (natC b)] (.agg [.opq (.nat (a*b)),.pad]):=by
 have HE:=Sb_ok hP
 have hxd:∀ d ∈ digs 18446744073709551616 a,d<18446744073709551616:=digs_lt 18446744073709551616 a (by decide)
 have hyd:∀ d ∈ digs 18446744073709551616 b,d<18446744073709551616:=digs_lt 18446744073709551616 b (by decide)
 have hx:=dOf_digs 18446744073709551616 a (by decide)
 have hy:=dOf_digs 18446744073709551616 b (by decide)
 have hlx:=digs_len_blen a
 have hly:=digs_len_blen b
 by_cases h1:a<18446744073709551616
 · rw [natC_small h1,natC_great (by omega)]
   have hl:=digs_length_gt 18446744073709551616 b 1 (by decide) (by omega)
   have hl2:2≤(digs 18446744073709551616 b).length:=by omega
   have hl3:((digs 18446744073709551616 b).length ≠ 0)=True:=eq_true (by omega)
   refine CSpec_go (E:=⟨T0,Sb⟩) (fn57 hP) HE hP.mix ?_
   simp only [go_sem,h1,hl2,hl3]
   generalize digs 18446744073709551616 a=x at *
   generalize digs 18446744073709551616 b=y at *
   have hi:=wi_add x.length y.length (by omega)
   have hi2:x.length+y.length≤1099511627776:=by omega
   simp only [go_sem,hi,hi2]
   refine trX_loop HE hP.mix [22,2,1,0] (fun q:Nat × List Nat=>⟨upd (upd (upd (upd (upd (upd (fun _=>.junk) 4 (.ref 2 0)) 7 (sv x)) 8 (sv y)) 9 (.sl 22 0 (x.length+y.length) 1)) 51 (.int .i64 (x.length:Int))) 52 (.int .i64 (q.1:Int)),upd (upd (upd (upd (fun _=>.unused) 0 (.live [.int .u64 (a:Int),.nils])) 1 (.live [.int .u64 0,.imm y.length (List.map (fun d:Nat=>AV.int .u64 (d:Int)) (y))])) 2 (.live [.int .u64 0,.nils])) 22 (.live (List.map (fun d:Nat=>AV.int .u64 (d:Int)) (q.2))),111⟩)
    (fun q=>q.1≤x.length∧q.2.length=x.length+y.length∧(∀ d ∈ q.2,d<18446744073709551616)∧(∀ j,q.1+y.length≤j→q.2.getD j 0=0)∧dOf 18446744073709551616 q.2=dOf 18446744073709551616 (x.take q.1)*dOf 18446744073709551616 y) (fun q=>x.length-q.1) (0,List.replicate (x.length+y.length) 0) 60
    Has.z (Kept.of rfl KT.z KM.z) ⟨by simp,by simp,by intro d hd; rw [List.eq_of_mem_replicate hd]; decide,by intro j _; simp [List.getD_eq_getElem?_getD,List.getElem?_replicate]; split<;>rfl,by simp [dOf,dOf_zeros]⟩ 111 (by kernel_rfl) ?_
   rintro ⟨i,z⟩ ⟨q1,q2,q3,q4,q5⟩
   simp only [] at q1 q2 q3 q4 q5
   by_cases hk:i<x.length
   · have hxi:=hxd _ (getD_mem hk)
     simp only [go_sem,hk]
     refine trX_loop HE hP.mix [22,2,1,0] (fun q:Nat × List Nat × Nat=>⟨upd (upd (upd (upd (upd (upd (upd (upd (upd (upd (fun _=>.junk) 4 (.ref 2 0)) 7 (sv x)) 8 (sv y)) 9 (.sl 22 0 (x.length+y.length) 1)) 51 (.int .i64 (x.length:Int))) 52 (.int .i64 (i:Int))) 10 (.int .i64 (i:Int))) 11 (.int .u64 (q.2.2:Int))) 56 (.int .i64 (y.length:Int))) 57 (.int .i64 (q.1:Int)),upd (upd (upd (upd (fun _=>.unused) 0 (.live [.int .u64 (a:Int),.nils])) 1 (.live [.int .u64 0,.imm y.length (List.map (fun d:Nat=>AV.int .u64 (d:Int)) (y))])) 2 (.live [.int .u64 0,.nils])) 22 (.live (List.map (fun d:Nat=>AV.int .u64 (d:Int)) (q.2.1))),111⟩)
      (fun q=>q.1≤y.length∧q.2.1.length=x.length+y.length∧(∀ d ∈ q.2.1,d<18446744073709551616)∧q.2.2<18446744073709551616∧(∀ j,i+y.length≤j→q.2.1.getD j 0=0)∧dOf 18446744073709551616 q.2.1+18446744073709551616^(i+q.1)*q.2.2=dOf 18446744073709551616 z+18446744073709551616^i*x.getD i 0*dOf 18446744073709551616 (y.take q.1)) (fun q=>y.length-q.1) (0,z,0) 60
      Has.z (Kept.of rfl KT.z KM.z) ⟨by simp,q2,q3,by simp,q4,by simp [dOf]⟩ 111 (by kernel_rfl) ?_
     rintro ⟨j,z',c⟩ ⟨r1,r2,r3,r4,r5,r6⟩
     simp only [] at r1 r2 r3 r4 r5 r6
     by_cases hj:j<y.length
     · have e1:x ≠ []:=by intro e; rw [e] at hk; simp at hk
       have e2:y ≠ []:=by intro e; rw [e] at hj; simp at hj
       have hyj:=hyd _ (getD_mem hj)
       have hij:i+j<x.length+y.length:=by omega
       have hz:i+j<z'.length:=by omega
       have hzd:=r3 _ (getD_mem hz)
       have hm:=mull_lt (x.getD i 0) (y.getD j 0)
       have hal:=addl_lt (mull (x.getD i 0) (y.getD j 0)) c 0
       have hcar:=mul_carry hxi hyj r4 hzd
       have hw1:=wu_add' (mulh (x.getD i 0) (y.getD j 0)) (addh (mull (x.getD i 0) (y.getD j 0)) c 0) (by omega)
       have hw2:=wu_add' (mulh (x.getD i 0) (y.getD j 0)+addh (mull (x.getD i 0) (y.getD j 0)) c 0) (addh (z'.getD (i+j) 0) (addl (mull (x.getD i 0) (y.getD j 0)) c 0) 0) hcar
       have hw3:=wi_add i j (by omega)
       have hw4:=wi_add1 j (by omega)
       have hki:i≤x.length:=by omega
       have hkj:j≤y.length:=by omega
       simp only [go_sem,hj,hk,hki,hkj,sv_ia e1,sv_ia e2,gU' hk,gU' hj,hxi,hyj,hm,hal,hw1,hw2,hw3,hw4,hij,hz,gU hz,hzd]
       have hs:=dOf_set 18446744073709551616 z' (i+j) (addl (z'.getD (i+j) 0) (addl (mull (x.getD i 0) (y.getD j 0)) c 0) 0) hz
       have hst:=mul_step (18446744073709551616^(i+j)) (x.getD i 0) (y.getD j 0) c (z'.getD (i+j) 0) _ _ _ r6 hs
       refine ⟨(j+1,z'.set (i+j) (addl (z'.getD (i+j) 0) (addl (mull (x.getD i 0) (y.getD j 0)) c 0) 0),mulh (x.getD i 0) (y.getD j 0)+addh (mull (x.getD i 0) (y.getD j 0)) c 0+addh (z'.getD (i+j) 0) (addl (mull (x.getD i 0) (y.getD j 0)) c 0) 0),Kept.of rfl KT.z KM.z,⟨by simp only []; omega,by simp only [List.length_set]; omega,?_,hcar,?_,?_⟩,by simp only []; omega⟩
       · intro d hd
         rcases List.mem_or_eq_of_mem_set hd with hd|rfl
         · exact r3 d hd
         · exact addl_lt _ _ _
       · intro j' hj'
         simp only []
         rw [getD_set_ne _ _ _ _ (by omega)]; exact r5 j' hj'
       · simp only []
         rw [dOf_take_succ 18446744073709551616 y j hj,← Nat.add_assoc,Nat.pow_succ]
         refine hst.trans ?_
         rw [Nat.mul_add (18446744073709551616^i*x.getD i 0)]
         congr 2
         rw [Nat.pow_add]
         generalize x.getD i 0=u; generalize y.getD j 0=v; generalize 18446744073709551616^i=p1; generalize 18446744073709551616^j=p2
         simp only [Nat.mul_assoc]; congr 1; rw [← Nat.mul_assoc,← Nat.mul_assoc,Nat.mul_comm p2 u]
     · have hw1:=wi_add i y.length (by omega)
       have hz:i+y.length<z'.length:=by omega
       have hij:i+y.length<x.length+y.length:=by omega
       have hw2:=wi_add1 i (by omega)
       simp only [go_sem,hj,hw1,hw2,hz,hij,gU hz]
       have htj:y.take j=y:=List.take_of_length_le (by omega)
       have hjl:j=y.length:=by omega
       rw [htj,hjl] at r6
       refine ⟨(i+1,z'.set (i+y.length) c),Kept.of rfl KT.z KM.z,⟨by simp only []; omega,by simp only [List.length_set]; omega,?_,?_,?_⟩,by simp only []; omega⟩
       · intro d hd
         rcases List.mem_or_eq_of_mem_set hd with hd|rfl
         · exact r3 d hd
         · exact r4
       · intro j' hj'
         simp only [] at hj' ⊢
         rw [getD_set_ne _ _ _ _ (by omega)]; exact r5 j' (by omega)
       · simp only []
         have hs:=dOf_set 18446744073709551616 z' (i+y.length) c hz
         rw [r5 _ (Nat.le_refl _),Nat.mul_zero,Nat.add_zero] at hs
         rw [hs,r6,q5,dOf_take_succ 18446744073709551616 x i hk,Nat.add_mul]
   · have htk:z.take (x.length+y.length)=z:=List.take_of_length_le (by omega)
     have hsl:x.length+y.length<4611686018427387904:=by omega
     have hz3:(∀ d ∈ z,d<18446744073709551616)=True:=eq_true q3
     have hti:x.take i=x:=List.take_of_length_le (by omega)
     simp only [go_sem,hk,htk,q2,hz3,hsl]
     rw [q5,hti,hx,hy]; exact .refl _
 · have hl:=digs_length_gt 18446744073709551616 a 1 (by decide) (by omega)
   have hl2:2≤(digs 18446744073709551616 a).length:=by omega
   have hl3:((digs 18446744073709551616 a).length ≠ 0)=True:=eq_true (by omega)
   by_cases h2:b<18446744073709551616
   · rw [natC_great h1,natC_small h2]
     refine CSpec_go (E:=⟨T0,Sb⟩) (fn57 hP) HE hP.mix ?_
     simp only [go_sem,h2,hl2,hl3]
     generalize digs 18446744073709551616 a=x at *
     generalize digs 18446744073709551616 b=y at *
     have hi:=wi_add x.length y.length (by omega)
     have hi2:x.length+y.length≤1099511627776:=by omega
     simp only [go_sem,hi,hi2]
     refine trX_loop HE hP.mix [19,2,1,0] (fun q:Nat × List Nat=>⟨upd (upd (upd (upd (upd (upd (fun _=>.junk) 4 (.ref 2 0)) 7 (sv x)) 8 (sv y)) 9 (.sl 19 0 (x.length+y.length) 1)) 51 (.int .i64 (x.length:Int))) 52 (.int .i64 (q.1:Int)),upd (upd (upd (upd (fun _=>.unused) 0 (.live [.int .u64 0,.imm x.length (List.map (fun d:Nat=>AV.int .u64 (d:Int)) (x))])) 1 (.live [.int .u64 (b:Int),.nils])) 2 (.live [.int .u64 0,.nils])) 19 (.live (List.map (fun d:Nat=>AV.int .u64 (d:Int)) (q.2))),111⟩)
      (fun q=>q.1≤x.length∧q.2.length=x.length+y.length∧(∀ d ∈ q.2,d<18446744073709551616)∧(∀ j,q.1+y.length≤j→q.2.getD j 0=0)∧dOf 18446744073709551616 q.2=dOf 18446744073709551616 (x.take q.1)*dOf 18446744073709551616 y) (fun q=>x.length-q.1) (0,List.replicate (x.length+y.length) 0) 60
      Has.z (Kept.of rfl KT.z KM.z) ⟨by simp,by simp,by intro d hd; rw [List.eq_of_mem_replicate hd]; decide,by intro j _; simp [List.getD_eq_getElem?_getD,List.getElem?_replicate]; split<;>rfl,by simp [dOf,dOf_zeros]⟩ 111 (by kernel_rfl) ?_
     rintro ⟨i,z⟩ ⟨q1,q2,q3,q4,q5⟩
     simp only [] at q1 q2 q3 q4 q5
     by_cases hk:i<x.length
     · have hxi:=hxd _ (getD_mem hk)
       simp only [go_sem,hk]
       refine trX_loop HE hP.mix [19,2,1,0] (fun q:Nat × List Nat × Nat=>⟨upd (upd (upd (upd (upd (upd (upd (upd (upd (upd (fun _=>.junk) 4 (.ref 2 0)) 7 (sv x)) 8 (sv y)) 9 (.sl 19 0 (x.length+y.length) 1)) 51 (.int .i64 (x.length:Int))) 52 (.int .i64 (i:Int))) 10 (.int .i64 (i:Int))) 11 (.int .u64 (q.2.2:Int))) 56 (.int .i64 (y.length:Int))) 57 (.int .i64 (q.1:Int)),upd (upd (upd (upd (fun _=>.unused) 0 (.live [.int .u64 0,.imm x.length (List.map (fun d:Nat=>AV.int .u64 (d:Int)) (x))])) 1 (.live [.int .u64 (b:Int),.nils])) 2 (.live [.int .u64 0,.nils])) 19 (.live (List.map (fun d:Nat=>AV.int .u64 (d:Int)) (q.2.1))),111⟩)
        (fun q=>q.1≤y.length∧q.2.1.length=x.length+y.length∧(∀ d ∈ q.2.1,d<18446744073709551616)∧q.2.2<18446744073709551616∧(∀ j,i+y.length≤j→q.2.1.getD j 0=0)∧dOf 18446744073709551616 q.2.1+18446744073709551616^(i+q.1)*q.2.2=dOf 18446744073709551616 z+18446744073709551616^i*x.getD i 0*dOf 18446744073709551616 (y.take q.1)) (fun q=>y.length-q.1) (0,z,0) 60
        Has.z (Kept.of rfl KT.z KM.z) ⟨by simp,q2,q3,by simp,q4,by simp [dOf]⟩ 111 (by kernel_rfl) ?_
       rintro ⟨j,z',c⟩ ⟨r1,r2,r3,r4,r5,r6⟩
       simp only [] at r1 r2 r3 r4 r5 r6
       by_cases hj:j<y.length
       · have e1:x ≠ []:=by intro e; rw [e] at hk; simp at hk
         have e2:y ≠ []:=by intro e; rw [e] at hj; simp at hj
         have hyj:=hyd _ (getD_mem hj)
         have hij:i+j<x.length+y.length:=by omega
         have hz:i+j<z'.length:=by omega
         have hzd:=r3 _ (getD_mem hz)
         have hm:=mull_lt (x.getD i 0) (y.getD j 0)
         have hal:=addl_lt (mull (x.getD i 0) (y.getD j 0)) c 0
         have hcar:=mul_carry hxi hyj r4 hzd
         have hw1:=wu_add' (mulh (x.getD i 0) (y.getD j 0)) (addh (mull (x.getD i 0) (y.getD j 0)) c 0) (by omega)
         have hw2:=wu_add' (mulh (x.getD i 0) (y.getD j 0)+addh (mull (x.getD i 0) (y.getD j 0)) c 0) (addh (z'.getD (i+j) 0) (addl (mull (x.getD i 0) (y.getD j 0)) c 0) 0) hcar
         have hw3:=wi_add i j (by omega)
         have hw4:=wi_add1 j (by omega)
         have hki:i≤x.length:=by omega
         have hkj:j≤y.length:=by omega
         simp only [go_sem,hj,hk,hki,hkj,sv_ia e1,sv_ia e2,gU' hk,gU' hj,hxi,hyj,hm,hal,hw1,hw2,hw3,hw4,hij,hz,gU hz,hzd]
         have hs:=dOf_set 18446744073709551616 z' (i+j) (addl (z'.getD (i+j) 0) (addl (mull (x.getD i 0) (y.getD j 0)) c 0) 0) hz
         have hst:=mul_step (18446744073709551616^(i+j)) (x.getD i 0) (y.getD j 0) c (z'.getD (i+j) 0) _ _ _ r6 hs
         refine ⟨(j+1,z'.set (i+j) (addl (z'.getD (i+j) 0) (addl (mull (x.getD i 0) (y.getD j 0)) c 0) 0),mulh (x.getD i 0) (y.getD j 0)+addh (mull (x.getD i 0) (y.getD j 0)) c 0+addh (z'.getD (i+j) 0) (addl (mull (x.getD i 0) (y.getD j 0)) c 0) 0),Kept.of rfl KT.z KM.z,⟨by simp only []; omega,by simp only [List.length_set]; omega,?_,hcar,?_,?_⟩,by simp only []; omega⟩
         · intro d hd
           rcases List.mem_or_eq_of_mem_set hd with hd|rfl
           · exact r3 d hd
           · exact addl_lt _ _ _
         · intro j' hj'
           simp only []
           rw [getD_set_ne _ _ _ _ (by omega)]; exact r5 j' hj'
         · simp only []
           rw [dOf_take_succ 18446744073709551616 y j hj,← Nat.add_assoc,Nat.pow_succ]
           refine hst.trans ?_
           rw [Nat.mul_add (18446744073709551616^i*x.getD i 0)]
           congr 2
           rw [Nat.pow_add]
           generalize x.getD i 0=u; generalize y.getD j 0=v; generalize 18446744073709551616^i=p1; generalize 18446744073709551616^j=p2
           simp only [Nat.mul_assoc]; congr 1; rw [← Nat.mul_assoc,← Nat.mul_assoc,Nat.mul_comm p2 u]
       · have hw1:=wi_add i y.length (by omega)
         have hz:i+y.length<z'.length:=by omega
         have hij:i+y.length<x.length+y.length:=by omega
         have hw2:=wi_add1 i (by omega)
         simp only [go_sem,hj,hw1,hw2,hz,hij,gU hz]
         have htj:y.take j=y:=List.take_of_length_le (by omega)
         have hjl:j=y.length:=by omega
         rw [htj,hjl] at r6
         refine ⟨(i+1,z'.set (i+y.length) c),Kept.of rfl KT.z KM.z,⟨by simp only []; omega,by simp only [List.length_set]; omega,?_,?_,?_⟩,by simp only []; omega⟩
         · intro d hd
           rcases List.mem_or_eq_of_mem_set hd with hd|rfl
           · exact r3 d hd
           · exact r4
         · intro j' hj'
           simp only [] at hj' ⊢
           rw [getD_set_ne _ _ _ _ (by omega)]; exact r5 j' (by omega)
         · simp only []
           have hs:=dOf_set 18446744073709551616 z' (i+y.length) c hz
           rw [r5 _ (Nat.le_refl _),Nat.mul_zero,Nat.add_zero] at hs
           rw [hs,r6,q5,dOf_take_succ 18446744073709551616 x i hk,Nat.add_mul]
     · have htk:z.take (x.length+y.length)=z:=List.take_of_length_le (by omega)
       have hsl:x.length+y.length<4611686018427387904:=by omega
       have hz3:(∀ d ∈ z,d<18446744073709551616)=True:=eq_true q3
       have hti:x.take i=x:=List.take_of_length_le (by omega)
       simp only [go_sem,hk,htk,q2,hz3,hsl]
       rw [q5,hti,hx,hy]; exact .refl _
   · rw [natC_great h1,natC_great h2]
     have hl4:=digs_length_gt 18446744073709551616 b 1 (by decide) (by omega)
     have hl5:2≤(digs 18446744073709551616 b).length:=by omega
     have hl6:((digs 18446744073709551616 b).length ≠ 0)=True:=eq_true (by omega)
     refine CSpec_go (E:=⟨T0,Sb⟩) (fn57 hP) HE hP.mix ?_
     simp only [go_sem,hl2,hl3,hl5,hl6]
     generalize digs 18446744073709551616 a=x at *
     generalize digs 18446744073709551616 b=y at *
     have hi:=wi_add x.length y.length (by omega)
     have hi2:x.length+y.length≤1099511627776:=by omega
     simp only [go_sem,hi,hi2]
     refine trX_loop HE hP.mix [19,2,1,0] (fun q:Nat × List Nat=>⟨upd (upd (upd (upd (upd (upd (fun _=>.junk) 4 (.ref 2 0)) 7 (sv x)) 8 (sv y)) 9 (.sl 19 0 (x.length+y.length) 1)) 51 (.int .i64 (x.length:Int))) 52 (.int .i64 (q.1:Int)),upd (upd (upd (upd (fun _=>.unused) 0 (.live [.int .u64 0,.imm x.length (List.map (fun d:Nat=>AV.int .u64 (d:Int)) (x))])) 1 (.live [.int .u64 0,.imm y.length (List.map (fun d:Nat=>AV.int .u64 (d:Int)) (y))])) 2 (.live [.int .u64 0,.nils])) 19 (.live (List.map (fun d:Nat=>AV.int .u64 (d:Int)) (q.2))),111⟩)
      (fun q=>q.1≤x.length∧q.2.length=x.length+y.length∧(∀ d ∈ q.2,d<18446744073709551616)∧(∀ j,q.1+y.length≤j→q.2.getD j 0=0)∧dOf 18446744073709551616 q.2=dOf 18446744073709551616 (x.take q.1)*dOf 18446744073709551616 y) (fun q=>x.length-q.1) (0,List.replicate (x.length+y.length) 0) 60
      Has.z (Kept.of rfl KT.z KM.z) ⟨by simp,by simp,by intro d hd; rw [List.eq_of_mem_replicate hd]; decide,by intro j _; simp [List.getD_eq_getElem?_getD,List.getElem?_replicate]; split<;>rfl,by simp [dOf,dOf_zeros]⟩ 111 (by kernel_rfl) ?_
     rintro ⟨i,z⟩ ⟨q1,q2,q3,q4,q5⟩
     simp only [] at q1 q2 q3 q4 q5
     by_cases hk:i<x.length
     · have hxi:=hxd _ (getD_mem hk)
       simp only [go_sem,hk]
       refine trX_loop HE hP.mix [19,2,1,0] (fun q:Nat × List Nat × Nat=>⟨upd (upd (upd (upd (upd (upd (upd (upd (upd (upd (fun _=>.junk) 4 (.ref 2 0)) 7 (sv x)) 8 (sv y)) 9 (.sl 19 0 (x.length+y.length) 1)) 51 (.int .i64 (x.length:Int))) 52 (.int .i64 (i:Int))) 10 (.int .i64 (i:Int))) 11 (.int .u64 (q.2.2:Int))) 56 (.int .i64 (y.length:Int))) 57 (.int .i64 (q.1:Int)),upd (upd (upd (upd (fun _=>.unused) 0 (.live [.int .u64 0,.imm x.length (List.map (fun d:Nat=>AV.int .u64 (d:Int)) (x))])) 1 (.live [.int .u64 0,.imm y.length (List.map (fun d:Nat=>AV.int .u64 (d:Int)) (y))])) 2 (.live [.int .u64 0,.nils])) 19 (.live (List.map (fun d:Nat=>AV.int .u64 (d:Int)) (q.2.1))),111⟩)
        (fun q=>q.1≤y.length∧q.2.1.length=x.length+y.length∧(∀ d ∈ q.2.1,d<18446744073709551616)∧q.2.2<18446744073709551616∧(∀ j,i+y.length≤j→q.2.1.getD j 0=0)∧dOf 18446744073709551616 q.2.1+18446744073709551616^(i+q.1)*q.2.2=dOf 18446744073709551616 z+18446744073709551616^i*x.getD i 0*dOf 18446744073709551616 (y.take q.1)) (fun q=>y.length-q.1) (0,z,0) 60
        Has.z (Kept.of rfl KT.z KM.z) ⟨by simp,q2,q3,by simp,q4,by simp [dOf]⟩ 111 (by kernel_rfl) ?_
       rintro ⟨j,z',c⟩ ⟨r1,r2,r3,r4,r5,r6⟩
       simp only [] at r1 r2 r3 r4 r5 r6
       by_cases hj:j<y.length
       · have e1:x ≠ []:=by intro e; rw [e] at hk; simp at hk
         have e2:y ≠ []:=by intro e; rw [e] at hj; simp at hj
         have hyj:=hyd _ (getD_mem hj)
         have hij:i+j<x.length+y.length:=by omega
         have hz:i+j<z'.length:=by omega
         have hzd:=r3 _ (getD_mem hz)
         have hm:=mull_lt (x.getD i 0) (y.getD j 0)
         have hal:=addl_lt (mull (x.getD i 0) (y.getD j 0)) c 0
         have hcar:=mul_carry hxi hyj r4 hzd
         have hw1:=wu_add' (mulh (x.getD i 0) (y.getD j 0)) (addh (mull (x.getD i 0) (y.getD j 0)) c 0) (by omega)
         have hw2:=wu_add' (mulh (x.getD i 0) (y.getD j 0)+addh (mull (x.getD i 0) (y.getD j 0)) c 0) (addh (z'.getD (i+j) 0) (addl (mull (x.getD i 0) (y.getD j 0)) c 0) 0) hcar
         have hw3:=wi_add i j (by omega)
         have hw4:=wi_add1 j (by omega)
         have hki:i≤x.length:=by omega
         have hkj:j≤y.length:=by omega
         simp only [go_sem,hj,hk,hki,hkj,sv_ia e1,sv_ia e2,gU' hk,gU' hj,hxi,hyj,hm,hal,hw1,hw2,hw3,hw4,hij,hz,gU hz,hzd]
         have hs:=dOf_set 18446744073709551616 z' (i+j) (addl (z'.getD (i+j) 0) (addl (mull (x.getD i 0) (y.getD j 0)) c 0) 0) hz
         have hst:=mul_step (18446744073709551616^(i+j)) (x.getD i 0) (y.getD j 0) c (z'.getD (i+j) 0) _ _ _ r6 hs
         refine ⟨(j+1,z'.set (i+j) (addl (z'.getD (i+j) 0) (addl (mull (x.getD i 0) (y.getD j 0)) c 0) 0),mulh (x.getD i 0) (y.getD j 0)+addh (mull (x.getD i 0) (y.getD j 0)) c 0+addh (z'.getD (i+j) 0) (addl (mull (x.getD i 0) (y.getD j 0)) c 0) 0),Kept.of rfl KT.z KM.z,⟨by simp only []; omega,by simp only [List.length_set]; omega,?_,hcar,?_,?_⟩,by simp only []; omega⟩
         · intro d hd
           rcases List.mem_or_eq_of_mem_set hd with hd|rfl
           · exact r3 d hd
           · exact addl_lt _ _ _
         · intro j' hj'
           simp only []
           rw [getD_set_ne _ _ _ _ (by omega)]; exact r5 j' hj'
         · simp only []
           rw [dOf_take_succ 18446744073709551616 y j hj,← Nat.add_assoc,Nat.pow_succ]
           refine hst.trans ?_
           rw [Nat.mul_add (18446744073709551616^i*x.getD i 0)]
           congr 2
           rw [Nat.pow_add]
           generalize x.getD i 0=u; generalize y.getD j 0=v; generalize 18446744073709551616^i=p1; generalize 18446744073709551616^j=p2
           simp only [Nat.mul_assoc]; congr 1; rw [← Nat.mul_assoc,← Nat.mul_assoc,Nat.mul_comm p2 u]
       · have hw1:=wi_add i y.length (by omega)
         have hz:i+y.length<z'.length:=by omega
         have hij:i+y.length<x.length+y.length:=by omega
         have hw2:=wi_add1 i (by omega)
         simp only [go_sem,hj,hw1,hw2,hz,hij,gU hz]
         have htj:y.take j=y:=List.take_of_length_le (by omega)
         have hjl:j=y.length:=by omega
         rw [htj,hjl] at r6
         refine ⟨(i+1,z'.set (i+y.length) c),Kept.of rfl KT.z KM.z,⟨by simp only []; omega,by simp only [List.length_set]; omega,?_,?_,?_⟩,by simp only []; omega⟩
         · intro d hd
           rcases List.mem_or_eq_of_mem_set hd with hd|rfl
           · exact r3 d hd
           · exact r4
         · intro j' hj'
           simp only [] at hj' ⊢
           rw [getD_set_ne _ _ _ _ (by omega)]; exact r5 j' (by omega)
         · simp only []
           have hs:=dOf_set 18446744073709551616 z' (i+y.length) c hz
           rw [r5 _ (Nat.le_refl _),Nat.mul_zero,Nat.add_zero] at hs
           rw [hs,r6,q5,dOf_take_succ 18446744073709551616 x i hk,Nat.add_mul]
     · have htk:z.take (x.length+y.length)=z:=List.take_of_length_le (by omega)
       have hsl:x.length+y.length<4611686018427387904:=by omega
       have hz3:(∀ d ∈ z,d<18446744073709551616)=True:=eq_true q3
       have hti:x.take i=x:=List.take_of_length_le (by omega)
       simp only [go_sem,hk,htk,q2,hz3,hsl]
       rw [q5,hti,hx,hy]; exact .refl _
theorem Mul_spec (hP:PrgOk P) (a b:Nat) (ha:blen a≤68719476736) (hb:blen b≤68719476736):CSpec P 57 [(.agg [.opq (.nat (a)),.pad]),(.agg [.opq (.nat (b)),.pad])] (.agg [.opq (.nat (a*b)),.pad]):=by
 refine CSpec.cv ?_ (CvL.natIn a (CvL.natIn b .nil))
 by_cases h:a<18446744073709551616∧b<18446744073709551616
 · rw [natC_small h.1,natC_small h.2]; exact Mul_small hP a b h.1 h.2
 · exact Mul_great hP a b ha hb h
def MulS:List AV→Option (Prop × AV):=on2 fun a b=>(blen a≤68719476736∧blen b≤68719476736,(.agg [.opq (.nat (a*b)),.pad]))
theorem MulS_ok (hP:PrgOk P) (args p r):MulS args=some (p,r)→p→CSpec P 57 args r:=on2_ok (fun a b h=>by exact Mul_spec hP a b h.1 h.2) args p r
attribute [go_sem] MulS
theorem w3 (U u Q V R:Nat) (h:Q*V+R=U*4294967296+u) (hR:R<18446744073709551616):∃ A1 A2 A3:Nat,IntKind.u64.wrap ((U:Int)*4294967296)=(A1:Int)∧IntKind.u64.wrap ((A1:Int)+(u:Int))=(A2:Int)∧IntKind.u64.wrap ((Q:Int)*(V:Int))=(A3:Int)∧IntKind.u64.wrap ((A2:Int)-(A3:Int))=(R:Int):=by
 refine ⟨U*4294967296 % 18446744073709551616,(U*4294967296 % 18446744073709551616+u) % 18446744073709551616,Q*V % 18446744073709551616,?_,?_,wu_mul Q V,?_⟩
 · rw [IntKind.wrap_u64]; omega
 · rw [wu_add]
 · rw [IntKind.wrap_u64]; generalize Q*V=c at *; omega
theorem half_dec {Vh Vl U u q r:Nat} (hq:q*Vh+r=U) (hU:U<Vh*4294967296+Vl) (hu:u<4294967296) (h:4294967296≤q∨4294967296*r+u<q*Vl):U*4294967296+u<q*(Vh*4294967296+Vl):=by
 rcases h with h|h
 · have h1:(U+1)*4294967296≤(Vh*4294967296+Vl)*4294967296:=Nat.mul_le_mul_right _ hU
   have h2:4294967296*(Vh*4294967296+Vl)≤q*(Vh*4294967296+Vl):=Nat.mul_le_mul_right _ h
   rw [Nat.mul_comm 4294967296] at h2
   omega
 · rw [Nat.mul_add,← Nat.mul_assoc,← hq]; omega
theorem half_done {Vh Vl U u q r:Nat} (hq:q*Vh+r=U) (hl:U*4294967296+u<(q+1)*(Vh*4294967296+Vl)) (h:q*Vl≤4294967296*r+u):q=(U*4294967296+u) / (Vh*4294967296+Vl):=by
 refine (Nat.div_eq_of_lt_le ?_ hl).symm
 rw [Nat.mul_add,← Nat.mul_assoc,← hq]; omega
theorem half_done2 {Vl u q r:Nat} (hr:4294967296≤r) (hq:q≤4294967296) (hVl:Vl<4294967296):q*Vl≤4294967296*r+u:=by
 have h1:q*Vl≤4294967296*Vl:=Nat.mul_le_mul_right _ hq
 have h2:4294967296*Vl≤4294967296*r:=Nat.mul_le_mul_left _ (by omega)
 omega
theorem half_init {Vh Vl U u:Nat} (hVh:2147483648≤Vh) (hVl:Vl<4294967296) (hu:u<4294967296) (hU:U<Vh*4294967296+Vl):U / Vh*Vh+U % Vh=U∧U % Vh<Vh∧U*4294967296+u<(U / Vh+1)*(Vh*4294967296+Vl)∧U / Vh≤4294967297:=by
 have h1:=Nat.div_add_mod U Vh
 rw [Nat.mul_comm] at h1
 have h2:U % Vh<Vh:=Nat.mod_lt _ (by omega)
 refine ⟨h1,h2,?_,?_⟩
 · rw [Nat.mul_add,← Nat.mul_assoc,Nat.add_mul,Nat.one_mul]; omega
 · have:U / Vh<4294967298:=(Nat.div_lt_iff_lt_mul (by omega)).2 (by omega)
   omega
theorem half_lt {V U u:Nat} (hU:U<V) (hu:u<4294967296):(U*4294967296+u) / V<4294967296:=by
 rw [Nat.div_lt_iff_lt_mul (by omega)]
 have:(U+1)*4294967296≤V*4294967296:=Nat.mul_le_mul_right _ hU
 omega
theorem mulW (a:Nat) (h:a<4294967296):IntKind.u64.wrap ((a:Int)*4294967296)=((a*4294967296:Nat):Int):=by rw [IntKind.wrap_u64]; omega
theorem succ_of {a q b:Nat} (h:a<q*b):∃ Q,q=Q+1:=by
 cases q with
 | zero=>simp at h
 | succ n=>exact ⟨n,rfl⟩
theorem div64_aux {c R1 U u1 u0:Nat} (h:c+R1=U*4294967296+u1):c*4294967296+(R1*4294967296+u0)=U*18446744073709551616+(u1*4294967296+u0):=by
 rw [← Nat.add_assoc,← Nat.add_mul,h,Nat.add_mul,Nat.mul_assoc,Nat.add_assoc]
theorem div64_final {x y v s U u1 u0 Q1 R1 Q0 R0 V:Nat} (hv:0<v) (hV:V=v*2^s) (hU:U*18446744073709551616+(u1*4294967296+u0)=(x*18446744073709551616+y)*2^s) (h1:Q1*V+R1=U*4294967296+u1) (h0:Q0*V+R0=R1*4294967296+u0) (hR:R0<V):Q1*4294967296+Q0=divq x y v∧R0 / 2^s=divr x y v:=by
 have e1:(Q1*4294967296+Q0)*V+R0=(x*18446744073709551616+y)*2^s:=by
  rw [← hU,Nat.add_mul,Nat.add_assoc,h0,Nat.mul_right_comm]
  clear hU hR hv h0 hV
  exact div64_aux h1
 have e2:divq x y v*V+divr x y v*2^s=(x*18446744073709551616+y)*2^s:=by
  rw [hV,← Nat.mul_assoc,← Nat.add_mul,div_all]
 have h2:divr x y v*2^s<V:=by rw [hV]; exact Nat.mul_lt_mul_of_pos_right (divr_lt x y hv) (Nat.two_pow_pos s)
 have hVp:0<V:=by omega
 have a1:((Q1*4294967296+Q0)*V+R0) / V=Q1*4294967296+Q0:=by rw [Nat.mul_comm,Nat.mul_add_div hVp,Nat.div_eq_of_lt hR,Nat.add_zero]
 have a2:(divq x y v*V+divr x y v*2^s) / V=divq x y v:=by rw [Nat.mul_comm,Nat.mul_add_div hVp,Nat.div_eq_of_lt h2,Nat.add_zero]
 rw [e1] at a1; rw [e2] at a2
 have a3:=a1.symm.trans a2
 refine ⟨a3,?_⟩
 rw [a3] at e1
 have:R0=divr x y v*2^s:=by omega
 rw [this,Nat.mul_div_cancel _ (Nat.two_pow_pos s)]
theorem fd_pow (a k:Nat):((a:Int)).fdiv (2^k)=((a / 2^k:Nat):Int):=by
 rw [show (2:Int)^k=((2^k:Nat):Int) by simp,Int.fdiv_eq_ediv_of_nonneg _ (Int.natCast_nonneg _)]; exact (Int.natCast_ediv _ _).symm
theorem and_fix (a b:BitVec 64):@HAnd.hAnd (BitVec 64) (BitVec 64) (BitVec 64) (@instHAndOfAndOp (BitVec IntKind.u64.bits) (@BitVec.instAndOp IntKind.u64.bits)) a b=a &&& b:=rfl
theorem or_fix (a b:BitVec 64):@HOr.hOr (BitVec 64) (BitVec 64) (BitVec 64) (@instHOrOfOrOp (BitVec IntKind.u64.bits) (@BitVec.instOrOp IntKind.u64.bits)) a b=a ||| b:=rfl
theorem m32:(2:Nat)^min 32 64=4294967296:=by decide
theorem bv_nat (a:Nat) (h:a<18446744073709551616):(BitVec.ofInt 64 (a:Int)).toNat=a:=by
 rw [BitVec.ofInt_natCast,BitVec.toNat_ofNat]; exact Nat.mod_eq_of_lt h
theorem u_nat (a:Nat) (h:a<18446744073709551616):IntKind.u64.wrap (a:Int)=(a:Int):=by rw [IntKind.wrap_u64]; omega
theorem and32 (a:Nat) (h:a<18446744073709551616):IntKind.u64.wrap (((BitVec.ofInt 64 (a:Int) &&& BitVec.ofInt 64 4294967295).toNat:Nat):Int)=((a % 4294967296:Nat):Int):=by
 rw [BitVec.toNat_and,bv_nat a h,show (BitVec.ofInt 64 4294967295).toNat=2^32-1 from rfl,Nat.and_two_pow_sub_one_eq_mod]
 exact u_nat _ (by omega)
theorem or64 (a b s:Nat) (ha:a*2^s<18446744073709551616) (hb:b<2^s) (hs:s≤64):IntKind.u64.wrap (((BitVec.ofInt 64 ((a*2^s:Nat):Int) ||| BitVec.ofInt 64 (b:Int)).toNat:Nat):Int)=((a*2^s+b:Nat):Int):=by
 have e:a*2^s ||| b=a*2^s+b:=by rw [Nat.mul_comm]; exact (Nat.two_pow_add_eq_or_of_lt hb a).symm
 have h2:(2:Nat)^s ∣ 18446744073709551616:=by rw [show 18446744073709551616=2^64 from rfl]; exact Nat.pow_dvd_pow 2 hs
 have h3:a*2^s+b<18446744073709551616:=by
  obtain ⟨c,hc⟩:=h2
  rw [hc] at ha ⊢
  have:a<c:=by rw [Nat.mul_comm] at ha; exact Nat.lt_of_mul_lt_mul_left ha
  have h4:(a+1)*2^s≤c*2^s:=Nat.mul_le_mul_right _ this
  rw [Nat.mul_comm c] at h4
  rw [Nat.add_mul,Nat.one_mul] at h4; omega
 rw [BitVec.toNat_or,bv_nat _ ha,bv_nat b (by omega),e]
 exact u_nat _ h3
theorem low64 (V:Nat) (h:V<18446744073709551616):V / 4294967296*4294967296+V % 4294967296=V∧V / 4294967296<4294967296∧V % 4294967296<4294967296:=by omega
theorem div64_setup {x y v:Nat} (hv0:0<v) (hv:v<18446744073709551616) (hx:x<v) (hy:y<18446744073709551616):∃ s V Vh Vl xs ys U L u1 u0:Nat,s≤63∧64-blen v=s∧V=v*2^s∧V<18446744073709551616∧V=Vh*4294967296+Vl∧2147483648≤Vh∧Vh<4294967296∧Vl<4294967296∧U<V∧u1<4294967296∧u0<4294967296∧L<18446744073709551616 ∧
 U*18446744073709551616+(u1*4294967296+u0)=(x*18446744073709551616+y)*2^s∧IntKind.u64.wrap ((v:Int)*2^s)=(V:Int)∧V / 4294967296=Vh∧V % 4294967296=Vl∧IntKind.u64.wrap ((x:Int)*2^s)=(xs:Int)∧y / 2^(64-s)=ys ∧
 IntKind.u64.wrap (((BitVec.ofInt 64 (xs:Int) ||| BitVec.ofInt 64 (ys:Int)).toNat:Nat):Int)=(U:Int)∧IntKind.u64.wrap ((y:Int)*2^s)=(L:Int)∧L / 4294967296=u1∧L % 4294967296=u0:=by
 have b1:=blen_lt v
 have b2:blen v≤64:=(blen_le_iff v 64).2 hv
 have b3:¬ blen v≤0:=by rw [Nat.le_zero,blen_zero_iff]; omega
 have b4:¬ blen v≤blen v-1:=by omega
 rw [blen_le_iff] at b4
 obtain ⟨s,hs⟩:∃ s,64-blen v=s:=⟨_,rfl⟩
 have hs1:blen v=64-s:=by omega
 rw [hs1] at b1 b4
 have hss:s≤63:=by omega
 have p1:(2:Nat)^(64-s)*2^s=18446744073709551616:=by rw [← Nat.pow_add,show 64-s+s=64 by omega]
 have p2:(2:Nat)^(64-s-1)*2^s=9223372036854775808:=by rw [← Nat.pow_add,show 64-s-1+s=63 by omega]
 have hpos:=Nat.two_pow_pos s
 have hpos2:=Nat.two_pow_pos (64-s)
 have hV:v*2^s<18446744073709551616:=by rw [← p1]; exact Nat.mul_lt_mul_of_pos_right b1 hpos
 have hV2:9223372036854775808≤v*2^s:=by rw [← p2]; exact Nat.mul_le_mul_right _ (by omega)
 have hxs:x*2^s<18446744073709551616:=Nat.lt_trans (Nat.mul_lt_mul_of_pos_right hx hpos) hV
 have hys:y / 2^(64-s)<2^s:=by rw [Nat.div_lt_iff_lt_mul hpos2,Nat.mul_comm,p1]; exact hy
 have hU:x*2^s+y / 2^(64-s)<v*2^s:=by
  have:(x+1)*2^s≤v*2^s:=Nat.mul_le_mul_right _ hx
  rw [Nat.add_mul,Nat.one_mul] at this; omega
 have hL:y*2^s % 18446744073709551616=y % 2^(64-s)*2^s:=by
  rw [← p1,Nat.mul_mod_mul_right]
 have hy2:=Nat.div_add_mod y (2^(64-s))
 have c1:=low64 (v*2^s) hV
 have c2:=low64 (y*2^s % 18446744073709551616) (Nat.mod_lt _ (by decide))
 have cast:∀ z:Nat,(z:Int)*2^s=((z*2^s:Nat):Int):=fun z=>by simp
 refine ⟨s,v*2^s,v*2^s / 4294967296,v*2^s % 4294967296,x*2^s,y / 2^(64-s),x*2^s+y / 2^(64-s),y*2^s % 18446744073709551616,y*2^s % 18446744073709551616 / 4294967296,y*2^s % 18446744073709551616 % 4294967296,hss,hs,rfl,hV,c1.1.symm,by omega,c1.2.1,c1.2.2,hU,c2.2.1,c2.2.2,Nat.mod_lt _ (by decide),?_,?_,rfl,rfl,?_,rfl,or64 _ _ _ hxs hys (by omega),?_,rfl,rfl⟩
 · rw [c2.1,hL,Nat.add_mul,Nat.add_mul,Nat.mul_right_comm x,Nat.add_assoc]
   congr 1
   conv=>rhs; rw [← hy2]
   rw [Nat.add_mul]
   congr 1
   rw [← p1,Nat.mul_comm (2^(64-s)) (y / _),Nat.mul_assoc]
 · rw [cast]; exact u_nat _ hV
 · rw [cast]; exact u_nat _ hxs
 · rw [cast,IntKind.wrap_u64]; omega
theorem Div64_low (hP:PrgOk P) (y v:Nat) (hy:y<18446744073709551616) (hv:v<18446744073709551616) (h:0<v):CSpec P 82 [.int .u64 0,.int .u64 (y:Int),.int .u64 (v:Int)] (.tup [.int .u64 ((y / v:Nat):Int),.int .u64 ((y % v:Nat):Int)]):=by
 have HE:=Sb_ok hP
 refine CSpec_go (E:=⟨T0,Sb⟩) (fn82 hP) HE hP.mix ?_
 have h0:(v == 0)=false:=by simp; omega
 have h1:¬ v≤0:=by omega
 have h2:=wu_div y v hy
 have h3:=u_mod y v
 simp only [go_sem,h0,h1,h2,h3]
 exact ⟨by omega,by omega,.refl _⟩
theorem Div64_high (hP:PrgOk P) (x y v:Nat) (hy:y<18446744073709551616) (hv:v<18446744073709551616) (h:x<v) (hx:0<x):CSpec P 82 [.int .u64 (x:Int),.int .u64 (y:Int),.int .u64 (v:Int)] (.tup [.int .u64 ((divq x y v:Nat):Int),.int .u64 ((divr x y v:Nat):Int)]):=by
 have HE:=Sb_ok hP
 refine CSpec_go (E:=⟨T0,Sb⟩) (fn82 hP) HE hP.mix ?_
 have h0:(v == 0)=false:=by simp; omega
 have h1:¬ v≤x:=by omega
 have h2:(x == 0)=false:=by simp; omega
 obtain ⟨s,V,Vh,Vl,xs,ys,U,L,u1,u0,s1,s2,s3,s4,s5,s6,s7,s8,s9,s10,s11,s12,s13,w1,w2,w3',w4,w5,w6,w7,w8,w9⟩:=div64_setup (by omega) hv h hy
 have n1:=u_nat s (by omega)
 have n2:min s 64=s:=by omega
 have n3:IntKind.u64.wrap (64-(s:Int))=((64-s:Nat):Int):=by rw [IntKind.wrap_u64]; omega
 have n4:min (64-s) 64=64-s:=by omega
 have n5:=and32 V s4
 have n6:=and32 L s12
 rw [w3'] at n5; rw [w9] at n6
 obtain ⟨i1,i2,i3,i4⟩:=half_init (U:=U) (u:=u1) s6 s8 s10 (by omega)
 have d1:=wu_div U Vh (by omega)
 have d2:IntKind.u64.wrap (((U / Vh:Nat):Int)*(Vh:Int))=((U / Vh*Vh:Nat):Int):=by rw [wu_mul,Nat.mod_eq_of_lt (by omega)]
 have d3:IntKind.u64.wrap ((U:Int)-((U / Vh*Vh:Nat):Int))=((U % Vh:Nat):Int):=by rw [wu_sub _ _ (Nat.div_mul_le_self _ _) (Nat.lt_trans s9 s4)]; congr 1; exact Nat.sub_eq_of_eq_add (i1.symm.trans (Nat.add_comm _ _))
 simp only [go_sem,h0,h1,h2,hv,s2,n1,n2,w1,and_fix,or_fix,fd_pow,m32,w2,n5,w4,n3,n4,w5,w6,w7,w8,n6,d1,d2,d3]
 refine ⟨by omega,by omega,by omega,?_⟩
 generalize U / Vh=q0 at *
 generalize U % Vh=r0 at *
 refine trX_loop HE hP.mix [] (fun p:Nat × Nat=>⟨upd (upd (upd (upd (upd (upd (upd (upd (upd (upd (upd (fun _=>.junk) 2 (.int .u64 (V:Int))) 6 (.int .u64 0)) 7 (.int .u64 0)) 8 (.int .u64 (s:Int))) 9 (.int .u64 (Vh:Int))) 10 (.int .u64 (Vl:Int))) 11 (.int .u64 (U:Int))) 13 (.int .u64 (u1:Int))) 14 (.int .u64 (u0:Int))) 15 (.int .u64 (p.1:Int))) 16 (.int .u64 (p.2:Int)),fun _=>.unused,135⟩)
  (fun p=>p.1*Vh+p.2=U∧p.2<4294967296∧U*4294967296+u1<(p.1+1)*(Vh*4294967296+Vl)∧p.1≤4294967297) (fun p=>p.1) (q0,r0) 0
  Has.z (Kept.of rfl KT.z KM.z) ⟨i1,by omega,i3,i4⟩ 135 (by kernel_rfl) ?_
 rintro ⟨q,r⟩ ⟨j1,j2,j3,j4⟩
 simp only [] at j1 j2 j3 j4
 clear i1 i2 i3 i4 d1 d2 d3 w1 w2 w3' w4 w5 w6 w7 w8 w9 n1 n3 n4 n5 n6
 by_cases hg:4294967296≤q
 · have lt:=half_dec (Vl:=Vl) j1 (by omega) s10 (.inl hg)
   obtain ⟨Q1,hQ1⟩:∃ Q,q=Q+1:=succ_of lt
   subst hQ1
   have m1:=u_nat Q1 (by omega)
   have m2:=wu_add' r Vh (by omega)
   have j1:Q1*Vh+(r+Vh)=U:=by rw [← j1,Nat.succ_mul]; omega
   simp only [go_sem,hg,m1,m2]
   refine if_split (fun hb=>?_) (fun hb=>?_)
   · have hQ0:=half_done j1 lt (half_done2 (of_decide_eq_true hb) (by omega) s8)
     clear j1 j2 j3 j4 m1 m2 hb hg lt
     obtain ⟨R1,k1,k2⟩:∃ R1,Q1*V+R1=U*4294967296+u1∧R1<V:=⟨(U*4294967296+u1) % V,by rw [hQ0,← s5,Nat.mul_comm]; exact Nat.div_add_mod _ _,Nat.mod_lt _ (by omega)⟩
     have hQW:=half_lt s9 s10
     rw [s5,← hQ0] at hQW
     obtain ⟨A1,A2,A3,a1,a2,a3,a4⟩:=w3 U u1 Q1 V R1 k1 (by omega)
     obtain ⟨i1,i2,i3,i4⟩:=half_init (U:=R1) (u:=u0) s6 s8 s11 (by omega)
     have d1:=wu_div R1 Vh (by omega)
     have d2:IntKind.u64.wrap (((R1 / Vh:Nat):Int)*(Vh:Int))=((R1 / Vh*Vh:Nat):Int):=by rw [wu_mul,Nat.mod_eq_of_lt (by omega)]
     have d3:IntKind.u64.wrap ((R1:Int)-((R1 / Vh*Vh:Nat):Int))=((R1 % Vh:Nat):Int):=by rw [wu_sub _ _ (Nat.div_mul_le_self _ _) (Nat.lt_trans k2 s4)]; congr 1; exact Nat.sub_eq_of_eq_add (i1.symm.trans (Nat.add_comm _ _))
     simp only [go_sem,a1,a2,a3,a4,d1,d2,d3]
     refine ⟨by omega,?_⟩
     generalize R1 / Vh=q0 at *
     generalize R1 % Vh=r0 at *
     clear d1 d2 d3
     refine trX_loop HE hP.mix [] (fun p:Nat × Nat=>⟨upd (upd (upd (upd (upd (upd (upd (upd (upd (upd (upd (fun _=>.junk) 2 (.int .u64 (V:Int))) 6 (.int .u64 0)) 7 (.int .u64 0)) 8 (.int .u64 (s:Int))) 9 (.int .u64 (Vh:Int))) 10 (.int .u64 (Vl:Int))) 17 (.int .u64 (R1:Int))) 15 (.int .u64 (Q1:Int))) 14 (.int .u64 (u0:Int))) 18 (.int .u64 (p.1:Int))) 16 (.int .u64 (p.2:Int)),fun _=>.unused,135⟩)
      (fun p=>p.1*Vh+p.2=R1∧p.2<4294967296∧R1*4294967296+u0<(p.1+1)*(Vh*4294967296+Vl)∧p.1≤4294967297) (fun p=>p.1) (q0,r0) 0
      Has.z (Kept.of rfl KT.z KM.z) ⟨i1,by omega,i3,i4⟩ 135 (by kernel_rfl) ?_
     clear i1 i2 i3 i4
     rintro ⟨q',r'⟩ ⟨g1,g2,g3,g4⟩
     simp only [] at g1 g2 g3 g4
     by_cases hg':4294967296≤q'
     · have lt':=half_dec (Vl:=Vl) g1 (by omega) s11 (.inl hg')
       obtain ⟨Q2,hQ2⟩:∃ Q,q'=Q+1:=succ_of lt'
       subst hQ2
       have m1:=u_nat Q2 (by omega)
       have m2:=wu_add' r' Vh (by omega)
       have g1:Q2*Vh+(r'+Vh)=R1:=by rw [← g1,Nat.succ_mul]; omega
       simp only [go_sem,hg',m1,m2]
       refine if_split (fun hb=>?_) (fun hb=>?_)
       · have hQ0:=half_done g1 lt' (half_done2 (of_decide_eq_true hb) (by omega) s8)
         obtain ⟨R0,k3,k4⟩:∃ R0,Q2*V+R0=R1*4294967296+u0∧R0<V:=⟨(R1*4294967296+u0) % V,by rw [hQ0,← s5,Nat.mul_comm]; exact Nat.div_add_mod _ _,Nat.mod_lt _ (by omega)⟩
         obtain ⟨B1,B2,B3,b1,b2,b3,b4⟩:=w3 R1 u0 Q2 V R0 k3 (by omega)
         obtain ⟨z1,z2⟩:=div64_final (by omega) s3 s13 k1 k3 k4
         have z3:=divq_lt h hy
         have y1:=mulW Q1 (by omega)
         have y2:IntKind.u64.wrap (((Q1*4294967296:Nat):Int)+(Q2:Int))=((divq x y v:Nat):Int):=by rw [wu_add' _ _ (by rw [z1]; exact z3),z1]
         simp only [go_sem,b1,b2,b3,b4,y1,y2,n2,fd_pow,z2]
         exact .refl _
       · have hb:=of_decide_eq_false hb
         simp only [go_sem]
         exact ⟨(Q2,r'+Vh),Kept.of rfl KT.z KM.z,⟨g1,by simp only []; omega,lt',by simp only []; omega⟩,by simp only []; omega⟩
     · have e1:IntKind.u64.wrap ((q':Int)*(Vl:Int))=((q'*Vl:Nat):Int):=by
        rw [wu_mul,Nat.mod_eq_of_lt]
        have:=Nat.mul_le_mul (show q'≤4294967295 by omega) (show Vl≤4294967295 by omega)
        omega
       have e2:IntKind.u64.wrap (4294967296*(r':Int))=((4294967296*r':Nat):Int):=by rw [IntKind.wrap_u64]; omega
       have e3:=wu_add' (4294967296*r') u0 (by omega)
       simp only [go_sem,hg',e1,e2,e3]
       refine if_split (fun hc=>?_) (fun hc=>?_)
       · have lt':=half_dec (Vl:=Vl) g1 (by omega) s11 (.inr (of_decide_eq_true hc))
         obtain ⟨Q2,hQ2⟩:∃ Q,q'=Q+1:=succ_of lt'
         subst hQ2
         have m1:=u_nat Q2 (by omega)
         have m2:=wu_add' r' Vh (by omega)
         have g1:Q2*Vh+(r'+Vh)=R1:=by rw [← g1,Nat.succ_mul]; omega
         simp only [go_sem,hg',m1,m2]
         refine if_split (fun hb=>?_) (fun hb=>?_)
         · have hQ0:=half_done g1 lt' (half_done2 (of_decide_eq_true hb) (by omega) s8)
           obtain ⟨R0,k3,k4⟩:∃ R0,Q2*V+R0=R1*4294967296+u0∧R0<V:=⟨(R1*4294967296+u0) % V,by rw [hQ0,← s5,Nat.mul_comm]; exact Nat.div_add_mod _ _,Nat.mod_lt _ (by omega)⟩
           obtain ⟨B1,B2,B3,b1,b2,b3,b4⟩:=w3 R1 u0 Q2 V R0 k3 (by omega)
           obtain ⟨z1,z2⟩:=div64_final (by omega) s3 s13 k1 k3 k4
           have z3:=divq_lt h hy
           have y1:=mulW Q1 (by omega)
           have y2:IntKind.u64.wrap (((Q1*4294967296:Nat):Int)+(Q2:Int))=((divq x y v:Nat):Int):=by rw [wu_add' _ _ (by rw [z1]; exact z3),z1]
           simp only [go_sem,b1,b2,b3,b4,y1,y2,n2,fd_pow,z2]
           exact .refl _
         · have hb:=of_decide_eq_false hb
           simp only [go_sem]
           exact ⟨(Q2,r'+Vh),Kept.of rfl KT.z KM.z,⟨g1,by simp only []; omega,lt',by simp only []; omega⟩,by simp only []; omega⟩
       · have hQ0:=half_done g1 g3 (Nat.le_of_not_lt (of_decide_eq_false hc))
         obtain ⟨R0,k3,k4⟩:∃ R0,q'*V+R0=R1*4294967296+u0∧R0<V:=⟨(R1*4294967296+u0) % V,by rw [hQ0,← s5,Nat.mul_comm]; exact Nat.div_add_mod _ _,Nat.mod_lt _ (by omega)⟩
         obtain ⟨B1,B2,B3,b1,b2,b3,b4⟩:=w3 R1 u0 q' V R0 k3 (by omega)
         obtain ⟨z1,z2⟩:=div64_final (by omega) s3 s13 k1 k3 k4
         have z3:=divq_lt h hy
         have y1:=mulW Q1 (by omega)
         have y2:IntKind.u64.wrap (((Q1*4294967296:Nat):Int)+(q':Int))=((divq x y v:Nat):Int):=by rw [wu_add' _ _ (by rw [z1]; exact z3),z1]
         simp only [go_sem,b1,b2,b3,b4,y1,y2,n2,fd_pow,z2]
         exact .refl _
   · have hb:=of_decide_eq_false hb
     simp only [go_sem]
     exact ⟨(Q1,r+Vh),Kept.of rfl KT.z KM.z,⟨j1,by simp only []; omega,lt,by simp only []; omega⟩,by simp only []; omega⟩
 · have e1:IntKind.u64.wrap ((q:Int)*(Vl:Int))=((q*Vl:Nat):Int):=by
    rw [wu_mul,Nat.mod_eq_of_lt]
    have:=Nat.mul_le_mul (show q≤4294967295 by omega) (show Vl≤4294967295 by omega)
    omega
   have e2:IntKind.u64.wrap (4294967296*(r:Int))=((4294967296*r:Nat):Int):=by rw [IntKind.wrap_u64]; omega
   have e3:=wu_add' (4294967296*r) u1 (by omega)
   simp only [go_sem,hg,e1,e2,e3]
   refine if_split (fun hc=>?_) (fun hc=>?_)
   · have lt:=half_dec (Vl:=Vl) j1 (by omega) s10 (.inr (of_decide_eq_true hc))
     clear e1 e2 e3 hc
     obtain ⟨Q1,hQ1⟩:∃ Q,q=Q+1:=succ_of lt
     subst hQ1
     have m1:=u_nat Q1 (by omega)
     have m2:=wu_add' r Vh (by omega)
     have j1:Q1*Vh+(r+Vh)=U:=by rw [← j1,Nat.succ_mul]; omega
     simp only [go_sem,hg,m1,m2]
     refine if_split (fun hb=>?_) (fun hb=>?_)
     · have hQ0:=half_done j1 lt (half_done2 (of_decide_eq_true hb) (by omega) s8)
       clear j1 j2 j3 j4 m1 m2 hb hg lt
       obtain ⟨R1,k1,k2⟩:∃ R1,Q1*V+R1=U*4294967296+u1∧R1<V:=⟨(U*4294967296+u1) % V,by rw [hQ0,← s5,Nat.mul_comm]; exact Nat.div_add_mod _ _,Nat.mod_lt _ (by omega)⟩
       have hQW:=half_lt s9 s10
       rw [s5,← hQ0] at hQW
       obtain ⟨A1,A2,A3,a1,a2,a3,a4⟩:=w3 U u1 Q1 V R1 k1 (by omega)
       obtain ⟨i1,i2,i3,i4⟩:=half_init (U:=R1) (u:=u0) s6 s8 s11 (by omega)
       have d1:=wu_div R1 Vh (by omega)
       have d2:IntKind.u64.wrap (((R1 / Vh:Nat):Int)*(Vh:Int))=((R1 / Vh*Vh:Nat):Int):=by rw [wu_mul,Nat.mod_eq_of_lt (by omega)]
       have d3:IntKind.u64.wrap ((R1:Int)-((R1 / Vh*Vh:Nat):Int))=((R1 % Vh:Nat):Int):=by rw [wu_sub _ _ (Nat.div_mul_le_self _ _) (Nat.lt_trans k2 s4)]; congr 1; exact Nat.sub_eq_of_eq_add (i1.symm.trans (Nat.add_comm _ _))
       simp only [go_sem,a1,a2,a3,a4,d1,d2,d3]
       refine ⟨by omega,?_⟩
       generalize R1 / Vh=q0 at *
       generalize R1 % Vh=r0 at *
       clear d1 d2 d3
       refine trX_loop HE hP.mix [] (fun p:Nat × Nat=>⟨upd (upd (upd (upd (upd (upd (upd (upd (upd (upd (upd (fun _=>.junk) 2 (.int .u64 (V:Int))) 6 (.int .u64 0)) 7 (.int .u64 0)) 8 (.int .u64 (s:Int))) 9 (.int .u64 (Vh:Int))) 10 (.int .u64 (Vl:Int))) 17 (.int .u64 (R1:Int))) 15 (.int .u64 (Q1:Int))) 14 (.int .u64 (u0:Int))) 18 (.int .u64 (p.1:Int))) 16 (.int .u64 (p.2:Int)),fun _=>.unused,135⟩)
        (fun p=>p.1*Vh+p.2=R1∧p.2<4294967296∧R1*4294967296+u0<(p.1+1)*(Vh*4294967296+Vl)∧p.1≤4294967297) (fun p=>p.1) (q0,r0) 0
        Has.z (Kept.of rfl KT.z KM.z) ⟨i1,by omega,i3,i4⟩ 135 (by kernel_rfl) ?_
       clear i1 i2 i3 i4
       rintro ⟨q',r'⟩ ⟨g1,g2,g3,g4⟩
       simp only [] at g1 g2 g3 g4
       by_cases hg':4294967296≤q'
       · have lt':=half_dec (Vl:=Vl) g1 (by omega) s11 (.inl hg')
         obtain ⟨Q2,hQ2⟩:∃ Q,q'=Q+1:=succ_of lt'
         subst hQ2
         have m1:=u_nat Q2 (by omega)
         have m2:=wu_add' r' Vh (by omega)
         have g1:Q2*Vh+(r'+Vh)=R1:=by rw [← g1,Nat.succ_mul]; omega
         simp only [go_sem,hg',m1,m2]
         refine if_split (fun hb=>?_) (fun hb=>?_)
         · have hQ0:=half_done g1 lt' (half_done2 (of_decide_eq_true hb) (by omega) s8)
           obtain ⟨R0,k3,k4⟩:∃ R0,Q2*V+R0=R1*4294967296+u0∧R0<V:=⟨(R1*4294967296+u0) % V,by rw [hQ0,← s5,Nat.mul_comm]; exact Nat.div_add_mod _ _,Nat.mod_lt _ (by omega)⟩
           obtain ⟨B1,B2,B3,b1,b2,b3,b4⟩:=w3 R1 u0 Q2 V R0 k3 (by omega)
           obtain ⟨z1,z2⟩:=div64_final (by omega) s3 s13 k1 k3 k4
           have z3:=divq_lt h hy
           have y1:=mulW Q1 (by omega)
           have y2:IntKind.u64.wrap (((Q1*4294967296:Nat):Int)+(Q2:Int))=((divq x y v:Nat):Int):=by rw [wu_add' _ _ (by rw [z1]; exact z3),z1]
           simp only [go_sem,b1,b2,b3,b4,y1,y2,n2,fd_pow,z2]
           exact .refl _
         · have hb:=of_decide_eq_false hb
           simp only [go_sem]
           exact ⟨(Q2,r'+Vh),Kept.of rfl KT.z KM.z,⟨g1,by simp only []; omega,lt',by simp only []; omega⟩,by simp only []; omega⟩
       · have e1:IntKind.u64.wrap ((q':Int)*(Vl:Int))=((q'*Vl:Nat):Int):=by
          rw [wu_mul,Nat.mod_eq_of_lt]
          have:=Nat.mul_le_mul (show q'≤4294967295 by omega) (show Vl≤4294967295 by omega)
          omega
         have e2:IntKind.u64.wrap (4294967296*(r':Int))=((4294967296*r':Nat):Int):=by rw [IntKind.wrap_u64]; omega
         have e3:=wu_add' (4294967296*r') u0 (by omega)
         simp only [go_sem,hg',e1,e2,e3]
         refine if_split (fun hc=>?_) (fun hc=>?_)
         · have lt':=half_dec (Vl:=Vl) g1 (by omega) s11 (.inr (of_decide_eq_true hc))
           obtain ⟨Q2,hQ2⟩:∃ Q,q'=Q+1:=succ_of lt'
           subst hQ2
           have m1:=u_nat Q2 (by omega)
           have m2:=wu_add' r' Vh (by omega)
           have g1:Q2*Vh+(r'+Vh)=R1:=by rw [← g1,Nat.succ_mul]; omega
           simp only [go_sem,hg',m1,m2]
           refine if_split (fun hb=>?_) (fun hb=>?_)
           · have hQ0:=half_done g1 lt' (half_done2 (of_decide_eq_true hb) (by omega) s8)
             obtain ⟨R0,k3,k4⟩:∃ R0,Q2*V+R0=R1*4294967296+u0∧R0<V:=⟨(R1*4294967296+u0) % V,by rw [hQ0,← s5,Nat.mul_comm]; exact Nat.div_add_mod _ _,Nat.mod_lt _ (by omega)⟩
             obtain ⟨B1,B2,B3,b1,b2,b3,b4⟩:=w3 R1 u0 Q2 V R0 k3 (by omega)
             obtain ⟨z1,z2⟩:=div64_final (by omega) s3 s13 k1 k3 k4
             have z3:=divq_lt h hy
             have y1:=mulW Q1 (by omega)
             have y2:IntKind.u64.wrap (((Q1*4294967296:Nat):Int)+(Q2:Int))=((divq x y v:Nat):Int):=by rw [wu_add' _ _ (by rw [z1]; exact z3),z1]
             simp only [go_sem,b1,b2,b3,b4,y1,y2,n2,fd_pow,z2]
             exact .refl _
           · have hb:=of_decide_eq_false hb
             simp only [go_sem]
             exact ⟨(Q2,r'+Vh),Kept.of rfl KT.z KM.z,⟨g1,by simp only []; omega,lt',by simp only []; omega⟩,by simp only []; omega⟩
         · have hQ0:=half_done g1 g3 (Nat.le_of_not_lt (of_decide_eq_false hc))
           obtain ⟨R0,k3,k4⟩:∃ R0,q'*V+R0=R1*4294967296+u0∧R0<V:=⟨(R1*4294967296+u0) % V,by rw [hQ0,← s5,Nat.mul_comm]; exact Nat.div_add_mod _ _,Nat.mod_lt _ (by omega)⟩
           obtain ⟨B1,B2,B3,b1,b2,b3,b4⟩:=w3 R1 u0 q' V R0 k3 (by omega)
           obtain ⟨z1,z2⟩:=div64_final (by omega) s3 s13 k1 k3 k4
           have z3:=divq_lt h hy
           have y1:=mulW Q1 (by omega)
           have y2:IntKind.u64.wrap (((Q1*4294967296:Nat):Int)+(q':Int))=((divq x y v:Nat):Int):=by rw [wu_add' _ _ (by rw [z1]; exact z3),z1]
           simp only [go_sem,b1,b2,b3,b4,y1,y2,n2,fd_pow,z2]
           exact .refl _
     · have hb:=of_decide_eq_false hb
       simp only [go_sem]
       exact ⟨(Q1,r+Vh),Kept.of rfl KT.z KM.z,⟨j1,by simp only []; omega,lt,by simp only []; omega⟩,by simp only []; omega⟩
   · have hQ0:=half_done j1 j3 (Nat.le_of_not_lt (of_decide_eq_false hc))
     clear e1 e2 e3 hc j1 j2 j3 j4 hg
     obtain ⟨R1,k1,k2⟩:∃ R1,q*V+R1=U*4294967296+u1∧R1<V:=⟨(U*4294967296+u1) % V,by rw [hQ0,← s5,Nat.mul_comm]; exact Nat.div_add_mod _ _,Nat.mod_lt _ (by omega)⟩
     have hQW:=half_lt s9 s10
     rw [s5,← hQ0] at hQW
     obtain ⟨A1,A2,A3,a1,a2,a3,a4⟩:=w3 U u1 q V R1 k1 (by omega)
     obtain ⟨i1,i2,i3,i4⟩:=half_init (U:=R1) (u:=u0) s6 s8 s11 (by omega)
     have d1:=wu_div R1 Vh (by omega)
     have d2:IntKind.u64.wrap (((R1 / Vh:Nat):Int)*(Vh:Int))=((R1 / Vh*Vh:Nat):Int):=by rw [wu_mul,Nat.mod_eq_of_lt (by omega)]
     have d3:IntKind.u64.wrap ((R1:Int)-((R1 / Vh*Vh:Nat):Int))=((R1 % Vh:Nat):Int):=by rw [wu_sub _ _ (Nat.div_mul_le_self _ _) (Nat.lt_trans k2 s4)]; congr 1; exact Nat.sub_eq_of_eq_add (i1.symm.trans (Nat.add_comm _ _))
     simp only [go_sem,a1,a2,a3,a4,d1,d2,d3]
     refine ⟨by omega,?_⟩
     generalize R1 / Vh=q0 at *
     generalize R1 % Vh=r0 at *
     clear d1 d2 d3
     refine trX_loop HE hP.mix [] (fun p:Nat × Nat=>⟨upd (upd (upd (upd (upd (upd (upd (upd (upd (upd (upd (fun _=>.junk) 2 (.int .u64 (V:Int))) 6 (.int .u64 0)) 7 (.int .u64 0)) 8 (.int .u64 (s:Int))) 9 (.int .u64 (Vh:Int))) 10 (.int .u64 (Vl:Int))) 17 (.int .u64 (R1:Int))) 15 (.int .u64 (q:Int))) 14 (.int .u64 (u0:Int))) 18 (.int .u64 (p.1:Int))) 16 (.int .u64 (p.2:Int)),fun _=>.unused,135⟩)
      (fun p=>p.1*Vh+p.2=R1∧p.2<4294967296∧R1*4294967296+u0<(p.1+1)*(Vh*4294967296+Vl)∧p.1≤4294967297) (fun p=>p.1) (q0,r0) 0
      Has.z (Kept.of rfl KT.z KM.z) ⟨i1,by omega,i3,i4⟩ 135 (by kernel_rfl) ?_
     clear i1 i2 i3 i4
     rintro ⟨q',r'⟩ ⟨g1,g2,g3,g4⟩
     simp only [] at g1 g2 g3 g4
     by_cases hg':4294967296≤q'
     · have lt':=half_dec (Vl:=Vl) g1 (by omega) s11 (.inl hg')
       obtain ⟨Q2,hQ2⟩:∃ Q,q'=Q+1:=succ_of lt'
       subst hQ2
       have m1:=u_nat Q2 (by omega)
       have m2:=wu_add' r' Vh (by omega)
       have g1:Q2*Vh+(r'+Vh)=R1:=by rw [← g1,Nat.succ_mul]; omega
       simp only [go_sem,hg',m1,m2]
       refine if_split (fun hb=>?_) (fun hb=>?_)
       · have hQ0:=half_done g1 lt' (half_done2 (of_decide_eq_true hb) (by omega) s8)
         obtain ⟨R0,k3,k4⟩:∃ R0,Q2*V+R0=R1*4294967296+u0∧R0<V:=⟨(R1*4294967296+u0) % V,by rw [hQ0,← s5,Nat.mul_comm]; exact Nat.div_add_mod _ _,Nat.mod_lt _ (by omega)⟩
         obtain ⟨B1,B2,B3,b1,b2,b3,b4⟩:=w3 R1 u0 Q2 V R0 k3 (by omega)
         obtain ⟨z1,z2⟩:=div64_final (by omega) s3 s13 k1 k3 k4
         have z3:=divq_lt h hy
         have y1:=mulW q (by omega)
         have y2:IntKind.u64.wrap (((q*4294967296:Nat):Int)+(Q2:Int))=((divq x y v:Nat):Int):=by rw [wu_add' _ _ (by rw [z1]; exact z3),z1]
         simp only [go_sem,b1,b2,b3,b4,y1,y2,n2,fd_pow,z2]
         exact .refl _
       · have hb:=of_decide_eq_false hb
         simp only [go_sem]
         exact ⟨(Q2,r'+Vh),Kept.of rfl KT.z KM.z,⟨g1,by simp only []; omega,lt',by simp only []; omega⟩,by simp only []; omega⟩
     · have e1:IntKind.u64.wrap ((q':Int)*(Vl:Int))=((q'*Vl:Nat):Int):=by
        rw [wu_mul,Nat.mod_eq_of_lt]
        have:=Nat.mul_le_mul (show q'≤4294967295 by omega) (show Vl≤4294967295 by omega)
        omega
       have e2:IntKind.u64.wrap (4294967296*(r':Int))=((4294967296*r':Nat):Int):=by rw [IntKind.wrap_u64]; omega
       have e3:=wu_add' (4294967296*r') u0 (by omega)
       simp only [go_sem,hg',e1,e2,e3]
       refine if_split (fun hc=>?_) (fun hc=>?_)
       · have lt':=half_dec (Vl:=Vl) g1 (by omega) s11 (.inr (of_decide_eq_true hc))
         obtain ⟨Q2,hQ2⟩:∃ Q,q'=Q+1:=succ_of lt'
         subst hQ2
         have m1:=u_nat Q2 (by omega)
         have m2:=wu_add' r' Vh (by omega)
         have g1:Q2*Vh+(r'+Vh)=R1:=by rw [← g1,Nat.succ_mul]; omega
         simp only [go_sem,hg',m1,m2]
         refine if_split (fun hb=>?_) (fun hb=>?_)
         · have hQ0:=half_done g1 lt' (half_done2 (of_decide_eq_true hb) (by omega) s8)
           obtain ⟨R0,k3,k4⟩:∃ R0,Q2*V+R0=R1*4294967296+u0∧R0<V:=⟨(R1*4294967296+u0) % V,by rw [hQ0,← s5,Nat.mul_comm]; exact Nat.div_add_mod _ _,Nat.mod_lt _ (by omega)⟩
           obtain ⟨B1,B2,B3,b1,b2,b3,b4⟩:=w3 R1 u0 Q2 V R0 k3 (by omega)
           obtain ⟨z1,z2⟩:=div64_final (by omega) s3 s13 k1 k3 k4
           have z3:=divq_lt h hy
           have y1:=mulW q (by omega)
           have y2:IntKind.u64.wrap (((q*4294967296:Nat):Int)+(Q2:Int))=((divq x y v:Nat):Int):=by rw [wu_add' _ _ (by rw [z1]; exact z3),z1]
           simp only [go_sem,b1,b2,b3,b4,y1,y2,n2,fd_pow,z2]
           exact .refl _
         · have hb:=of_decide_eq_false hb
           simp only [go_sem]
           exact ⟨(Q2,r'+Vh),Kept.of rfl KT.z KM.z,⟨g1,by simp only []; omega,lt',by simp only []; omega⟩,by simp only []; omega⟩
       · have hQ0:=half_done g1 g3 (Nat.le_of_not_lt (of_decide_eq_false hc))
         obtain ⟨R0,k3,k4⟩:∃ R0,q'*V+R0=R1*4294967296+u0∧R0<V:=⟨(R1*4294967296+u0) % V,by rw [hQ0,← s5,Nat.mul_comm]; exact Nat.div_add_mod _ _,Nat.mod_lt _ (by omega)⟩
         obtain ⟨B1,B2,B3,b1,b2,b3,b4⟩:=w3 R1 u0 q' V R0 k3 (by omega)
         obtain ⟨z1,z2⟩:=div64_final (by omega) s3 s13 k1 k3 k4
         have z3:=divq_lt h hy
         have y1:=mulW q (by omega)
         have y2:IntKind.u64.wrap (((q*4294967296:Nat):Int)+(q':Int))=((divq x y v:Nat):Int):=by rw [wu_add' _ _ (by rw [z1]; exact z3),z1]
         simp only [go_sem,b1,b2,b3,b4,y1,y2,n2,fd_pow,z2]
         exact .refl _
theorem Div64_spec (hP:PrgOk P) (x y v:Nat) (hy:y<18446744073709551616) (hv:v<18446744073709551616) (h:x<v):CSpec P 82 [.int .u64 (x:Int),.int .u64 (y:Int),.int .u64 (v:Int)] (.tup [.int .u64 ((divq x y v:Nat):Int),.int .u64 ((divr x y v:Nat):Int)]):=by
 rcases Nat.eq_zero_or_pos x with rfl|hx
 · have:=Div64_low hP y v hy hv h
   rw [divq_eq,divr_eq,Nat.zero_mul,Nat.zero_add]; exact this
 · exact Div64_high hP x y v hy hv h hx
noncomputable def div64S:List AV→Option (Prop × AV)
 | [.int .u64 x,.int .u64 y,.int .u64 v]=>some ((0≤x∧0≤y∧0≤v)∧x.toNat<v.toNat∧y.toNat<18446744073709551616∧v.toNat<18446744073709551616,.tup [.int .u64 ((divq x.toNat y.toNat v.toNat:Nat):Int),.int .u64 ((divr x.toNat y.toNat v.toNat:Nat):Int)])
 | _=>none
theorem div64S_ok (hP:PrgOk P) (args p r) (h:div64S args=some (p,r)) (hp:p):CSpec P 82 args r:=by
 unfold div64S at h
 split at h
 · simp only [Option.some.injEq,Prod.mk.injEq] at h
   obtain ⟨rfl,rfl⟩:=h
   exact (by rename_i x y v; have:=Div64_spec hP x.toNat y.toNat v.toNat hp.2.2.1 hp.2.2.2 hp.2.1; rw [nn hp.1.1,nn hp.1.2.1,nn hp.1.2.2] at this; exact this)
 · simp at h
attribute [go_sem] div64S
noncomputable def Sc:Nat→List AV→Option (Prop × AV):=addS (addS Sb 57 MulS) 82 div64S
theorem Sc_ok (hP:PrgOk P):EnvOk P ⟨T0,Sc⟩:=(((Sb_ok hP).add (MulS_ok hP)).add (div64S_ok hP))
theorem Sc_at (f a):Sc f a=(addS (addS Sb 57 MulS) 82 div64S) f a:=rfl
attribute [go_sem] Sc_at
def GenM (L:List Nat) (m:Nat→AObj):Prop:=Has L m∧∀ q,objOnly L (m q)=true
theorem KM.gen {L:List Nat} {m:Nat→AObj} (h:GenM L m):KM L m m:=fun q=>by
 by_cases hq:L.contains q=true
 · exact .inl ⟨hq,rfl,h.2 q⟩
 · refine .inr ⟨by simpa using hq,?_⟩
   by_cases e:m q = .unused
   · exact e
   · exact absurd (h.1 q e) hq
theorem GenM.upd {L:List Nat} {m:Nat→AObj} (h:GenM L m) {r:Nat} {o:AObj} (hr:L.contains r=true) (ho:objOnly L o=true):GenM L (upd m r o):=⟨Has.upd hr h.1,fun q=>by
 unfold AM.upd; split
 · exact ho
 · exact h.2 q⟩
theorem GenM.upd' {L:List Nat} {m:Nat→AObj} {r:Nat} {o o':AObj} (h:GenM L (AM.upd m r o')) (hr:L.contains r=true) (ho:objOnly L o=true):GenM L (AM.upd m r o):=by
 have:=h.upd hr ho
 rwa [show AM.upd (AM.upd m r o') r o=AM.upd m r o from by funext j; unfold AM.upd; split<;>rfl] at this
theorem upd_upd {β:Type} (f:Nat→β) (i:Nat) (v v':β):upd (upd f i v) i v'=upd f i v':=by
 funext j; unfold AM.upd; split<;>rfl
theorem upd_self {β:Type} (f:Nat→β) (i:Nat):upd f i (f i)=f:=by
 funext j; unfold AM.upd; split
 · rename_i h; rw [h]
 · rfl
theorem objOnly_U {L:List Nat} {l:List Nat} {k:IntKind}:objOnly L (.live (l.map (fun d:Nat=>AV.int k (d:Int))))=true:=by
 simp only [objOnly]; exact only_U
theorem GenM.nil {L:List Nat}:GenM L (fun _=>.unused):=⟨Has.nil,fun _=>rfl⟩
theorem set_app {l R:List Nat} {x d k:Nat} (h:l.length=k):(l++([x]++R)).set k d=l++(d::R):=by
 subst h; induction l with
 | nil=>rfl
 | cons a l ih=>simp [ih]
theorem get_app {l R:List Nat} {x k:Nat} (h:l.length=k):(l++([x]++R)).getD k 0=x:=by
 subst h; induction l with
 | nil=>rfl
 | cons a l ih=>simp
theorem len_take {w:List Nat} {k:Nat} (h:k<w.length):(w.take k).length=k:=by rw [List.length_take]; omega
theorem set_take {w:List Nat} {R:List Nat} {k:Nat} (h:k<w.length) (d:Nat):(w.take (k+1)++R).set k d=w.take k++(d::R):=by
 rw [take_snoc h,List.append_assoc]; exact set_app (len_take h)
theorem get_take {w:List Nat} {R:List Nat} {k:Nat} (h:k<w.length):(w.take (k+1)++R).getD k 0=w.getD k 0:=by
 rw [take_snoc h,List.append_assoc]; exact get_app (len_take h)
theorem drop_cons {w:List Nat} {k:Nat} (h:k<w.length):w.drop k=w.getD k 0::w.drop (k+1):=by
 rw [List.drop_eq_getElem_cons h,getD_get h]
theorem short_ic (hP:PrgOk P) {L:List Nat} {m:Nat→AObj} {K:Nat→AV→(Nat→AObj)→Prop} {r:Nat} {w tail:List Nat} {n y:Nat} (hm:GenM L m) (hr:L.contains r=true) (hmr:m r = .live (List.map (fun d:Nat=>AV.int .u64 (d:Int)) (w++tail))) (hn:w.length=n) (hn2:n<4611686018427387904) (hw:∀ d ∈ w,d<18446744073709551616) (hy:y<18446744073709551616) (hy0:0<y)
 (k:∀ (nx:Nat) (w':List Nat) (c:Nat),w'.length=n→(∀ d ∈ w',d<18446744073709551616)→c<y→dOf 18446744073709551616 w'*y+c=dOf 18446744073709551616 w→K nx (.int .u64 (c:Int)) (upd m r (.live (List.map (fun d:Nat=>AV.int .u64 (d:Int)) (w'++tail))))) :
 icX (ICall P) 76 [.sl r 0 n 1,.int .u64 (y:Int)] m (K:=⟨K⟩):=by
 have HE:=Sc_ok hP
 refine icX_vc (E:=⟨T0,Sc⟩) (fn76 hP) HE hP.mix rfl rfl (Nat.le_of_ble_eq_true rfl) 0 ?_
 have hwp:=wi_pred' n (by omega)
 obtain ⟨m0,rfl⟩:∃ m0,m=upd m0 r (.live (List.map (fun d:Nat=>AV.int .u64 (d:Int)) (w++tail))):=⟨m,by rw [← hmr,upd_self]⟩
 clear hmr
 simp only [upd_upd] at k
 simp only [go_sem,hwp]
 refine trX_loop HE hP.mix L (fun q:Nat × List Nat × Nat=>⟨upd (upd (upd (upd (upd (fun _=>.junk) 0 (.sl r 0 n 1)) 1 (.int .u64 (y:Int))) 4 (.int .u64 0)) 5 (.int .u64 (q.2.2:Int))) 6 (.int .i64 ((q.1:Int)-1)),upd m0 r (.live (List.map (fun d:Nat=>AV.int .u64 (d:Int)) (w.take q.1++(q.2.1++tail)))),28⟩)
  (fun q=>q.1≤n∧q.1+q.2.1.length=n∧(∀ d ∈ q.2.1,d<18446744073709551616)∧q.2.2<y∧dOf 18446744073709551616 q.2.1*y+q.2.2=dOf 18446744073709551616 (w.drop q.1)) (fun q=>q.1) (n,[],0) 0
  hm.1 (Kept.of rfl KT.z (by
   have e:w.take n++([]++tail)=w++tail:=by rw [List.take_of_length_le (by omega)]; rfl
   simp only []; rw [e]; exact KM.gen hm)) ⟨by simp,by simp,by simp,hy0,by simp [dOf,List.drop_of_length_le (Nat.le_of_eq hn)]⟩ 28 (by kernel_rfl) ?_
 rintro ⟨k',hi,c⟩ ⟨q1,q2,q3,q4,q5⟩
 simp only [] at q1 q2 q3 q4 q5
 cases k' with
 | zero =>
   have h0:((0:Int)≤((0:Nat):Int)-1)=False:=by simp
   simp only [go_sem,h0]
   exact k _ hi c (by omega) q3 q4 q5
 | succ k' =>
   have hk:k'<w.length:=by omega
   have hkn:k'<n:=by omega
   have hlen:k'<(w.take (k'+1)++(hi++tail)).length:=by simp [List.length_take]; omega
   have hlen':k'<(w.take (k'+1)).length+(hi.length+tail.length):=by simp [List.length_take]; omega
   have hd:=hw _ (getD_mem hk)
   have hdrop:=drop_cons hk
   have hset:=set_take (R:=hi++tail) hk
   have hq:=divq_lt q4 hd
   have hr1:=divr_lt c (w.getD k' 0) hy0
   have hall:=div_all c (w.getD k' 0) y
   have hwi:=wi_pred' k' (by omega)
   simp only [go_sem,hlen,hlen',hkn,gU hlen,get_take hk,q4,hd,hy,hset,upd_upd,hwi]
   refine ⟨(k',divq c (w.getD k' 0) y::hi,divr c (w.getD k' 0) y),Kept.of rfl KT.z (KM.gen (hm.upd' hr objOnly_U)),⟨by simp only []; omega,by simp only [List.length_cons]; omega,?_,hr1,?_⟩,by simp only []; omega⟩
   · intro d hd
     rcases List.mem_cons.1 hd with rfl|hd
     · exact hq
     · exact q3 d hd
   · simp only [dOf]
     rw [hdrop]; simp only [dOf]; rw [← q5,Nat.add_mul,Nat.mul_add,Nat.mul_assoc]
     generalize divq c (w.getD k' 0) y*y=A at *; generalize dOf 18446744073709551616 hi*y=B at *
     omega
end Go.Proofs.Ytapddfjimhohcaa.AM
