/- The document's numbers: quotients and rests. -/
import Derived.Test.YtapddfjimhohcaaGreatDoorB5
namespace Go.Proofs.YtapddfjimhohcaaGreatDoor.AM
set_option linter.all false
set_option autoImplicit true
set_option relaxedAutoImplicit true
open Go Go.Proofs
set_option maxRecDepth 100000
set_option maxHeartbeats 8000000
set_option linter.unusedSimpArgs false
variable {P:Program}
noncomputable def Sm:Nat→List AV→Option (Prop × AV):=addS Sl 114 rMulS
theorem Sm_ok (hP:PrgOk P):EnvOk P ⟨T0,Sm⟩:=((Sl_ok hP).add (rMulS_ok hP))
theorem Sm_at (f a):Sm f a=(addS Sl 114 rMulS) f a:=rfl
attribute [go_sem] Sm_at
def rv:Option Nat→AV
 | none=>.nils
 | some r=>(.imm (digs 65536 (r)).length (List.map (fun d:Nat=>AV.int .u32 (d:Int)) (digs 65536 (r))))
theorem rv_some (r:Nat):rv (some r)=(.imm (digs 65536 (r)).length (List.map (fun d:Nat=>AV.int .u32 (d:Int)) (digs 65536 (r)))):=rfl
attribute [go_sem] rv_some
def ru:Option Nat→Nat
 | none=>0
 | some r=>r
theorem blen_17 {m:Nat} (h:m≤65536):blen m≤17:=(blen_le_iff m 17).2 (by omega)
theorem objOnly_F {L:List Nat} {l:List Nat}:objOnly L (AObj.live (List.map (fun d:Nat=>AV.int .u32 (d:Int)) (l))).freeze=true:=objOnly_U (k:=.u32) (l:=l)
theorem dOf_split_at (b:Nat) (l:List Nat) (i:Nat) (h:i≤l.length):dOf b l=dOf b (l.take i)+b^i*dOf b (l.drop i):=by
 conv=>lhs; rw [← List.take_append_drop i l]
 rw [dOf_append,List.length_take,Nat.min_eq_left h]
theorem rDiv_spec (hP:PrgOk P) (a b:Nat) (ha:blen a≤68719476736) (hb:blen b≤34359738368) (h0:0<b):CSpec P 129 [(.imm (digs 65536 (a)).length (List.map (fun d:Nat=>AV.int .u32 (d:Int)) (digs 65536 (a)))),(.imm (digs 65536 (b)).length (List.map (fun d:Nat=>AV.int .u32 (d:Int)) (digs 65536 (b))))] (.tup [(.imm (digs 65536 (a / b)).length (List.map (fun d:Nat=>AV.int .u32 (d:Int)) (digs 65536 (a / b)))),(.imm (digs 65536 (a % b)).length (List.map (fun d:Nat=>AV.int .u32 (d:Int)) (digs 65536 (a % b))))]):=by
 have HE:=Sm_ok hP
 have hxd:∀ d ∈ digs 65536 a,d<65536:=digs_lt 65536 a (by decide)
 have hx:=dOf_digs 65536 a (by decide)
 have hlx:=rlen_blen a
 refine CSpec_go (E:=⟨T0,Sm⟩) (fn129 hP) HE hP.mix ?_
 generalize digs 65536 a=x at *
 have hi2:x.length≤1099511627776:=by omega
 have hw:IntKind.i64.wrap ((x.length:Int)-1)=(x.length:Int)-1:=by rw [IntKind.wrap_i64]; omega
 simp only [go_sem,hi2,hw]
 refine trX_loop HE hP.mix [4] (fun q:Nat × List Nat × Option Nat=>⟨upd (upd (upd (upd (upd (fun _=>.junk) 0 (.imm x.length (List.map (fun d:Nat=>AV.int .u32 (d:Int)) (x)))) 1 (.imm (digs 65536 (b)).length (List.map (fun d:Nat=>AV.int .u32 (d:Int)) (digs 65536 (b))))) 6 (.sl 4 0 x.length 1)) 7 (rv q.2.2)) 8 (.int .i64 ((q.1:Int)-1)),upd (fun _=>.unused) 4 (.live (List.map (fun d:Nat=>AV.int .u32 (d:Int)) (q.2.1))),63⟩)
  (fun q=>q.1≤x.length∧q.2.1.length=x.length∧(∀ d ∈ q.2.1,d<65536)∧dOf 65536 (x.drop q.1)=dOf 65536 (q.2.1.drop q.1)*b+ru q.2.2∧ru q.2.2<b∧True) (fun q=>q.1) (x.length,List.replicate x.length 0,none) 100
  Has.z (Kept.of rfl KT.z KM.z) ⟨by simp,by simp,by intro d hd; rw [List.eq_of_mem_replicate hd]; decide,by simp [dOf,ru],h0,trivial⟩ 63 (by kernel_rfl) ?_
 rintro ⟨i,z,r⟩ ⟨q1,q2,q3,q4,q5,q6⟩
 simp only [] at q1 q2 q3 q4 q5 q6
 cases i with
 | zero =>
   have hsl:x.length<4611686018427387904:=by omega
   have hz3:(∀ d ∈ z,d<65536)=True:=eq_true q3
   have htk:z.take x.length=z:=List.take_of_length_le (by omega)
   simp only [List.drop_zero] at q4
   obtain ⟨k1,k2⟩:=divmod_of (A:=a) (by rw [← hx]; exact q4.symm) q5
   have hn0:decide ((0:Int)≤((0:Nat):Int)-1)=false:=rfl
   cases r with
   | none =>
     simp only [rv]
     simp only [go_sem,hn0,htk,q2,hz3,hsl]
     rw [← k1,← k2]
     have e:CvL [(.imm (digs 65536 (dOf 65536 z)).length (List.map (fun d:Nat=>AV.int .u32 (d:Int)) (digs 65536 (dOf 65536 z)))),.nils] [(.imm (digs 65536 (dOf 65536 z)).length (List.map (fun d:Nat=>AV.int .u32 (d:Int)) (digs 65536 (dOf 65536 z)))),(.imm (digs 65536 (0)).length (List.map (fun d:Nat=>AV.int .u32 (d:Int)) (digs 65536 (0))))]:=.cons rfl (by
      have e:digs 65536 0=[]:=digs_zero _
      rw [e]; exact .nilR .nil)
     exact CvL.conv (CvL.tup e .nil)
   | some r =>
     simp only [rv]
     simp only [go_sem,hn0,htk,q2,hz3,hsl]
     rw [← k1,← k2]
     exact .refl _
 | succ i =>
   have hi:i<x.length:=by omega
   have hi3:i≤x.length:=by omega
   have hxi:=hxd _ (getD_mem hi)
   have f1:IntKind.i64.wrap ((i:Int)-1)=(i:Int)-1:=by rw [IntKind.wrap_i64]; omega
   have f2:((i+1:Nat):Int)-1=(i:Int):=by omega
   obtain ⟨R,hR⟩:∃ R,x.getD i 0+65536*ru r=R:=⟨_,rfl⟩
   have hRb:R<65536*b:=by omega
   have hdR:dOf 65536 (x.drop i)=65536*(dOf 65536 (z.drop (i+1))*b)+R:=by
    rw [drop_cons hi,dOf,q4]; omega
   have hRa:R≤a:=by
    have e:=dOf_split_at 65536 x i hi3
    rw [hx,hdR] at e
    have:R≤65536^i*(65536*(dOf 65536 (z.drop (i+1))*b)+R):=Nat.le_trans (Nat.le_add_left _ _) (Nat.le_mul_of_pos_left _ (Nat.pow_pos (by decide)))
    omega
   have hRl:blen R≤68719476736:=blen_le_of hRa ha
   cases r with
   | none =>
     have e1:dOf 65536 [ud (AV.int .u32 ((x.getD i 0:Nat):Int))]=R:=by rw [← hR]; simp [dOf,ud,ru]
     have e2:[AV.int IntKind.u32 ((x.getD i 0:Nat):Int)]=[AV.int IntKind.u32 ((ud (AV.int IntKind.u32 ((x.getD i 0:Nat):Int)):Nat):Int)]:=rfl
     have e3:ud (AV.int IntKind.u32 ((x.getD i 0:Nat):Int))<65536:=hxi
     simp only [rv,f2]
     simp only [go_sem,hi,hi3,gU' hi,hxi,e1]
     refine ⟨fun h=>h,⟨e2,e3,by simp⟩,?_⟩
     refine trX_loop HE hP.mix [108,106,4] (fun q:Nat × Nat=>⟨upd (upd (upd (upd (upd (upd (upd (fun _=>.junk) 0 (.imm x.length (List.map (fun d:Nat=>AV.int .u32 (d:Int)) (x)))) 1 (.imm (digs 65536 (b)).length (List.map (fun d:Nat=>AV.int .u32 (d:Int)) (digs 65536 (b))))) 6 (.sl 4 0 x.length 1)) 7 (.imm (digs 65536 (R)).length (List.map (fun d:Nat=>AV.int .u32 (d:Int)) (digs 65536 (R))))) 8 (.int .i64 (i:Int))) 9 (.int .u64 (q.1:Int))) 10 (.int .u64 (q.2:Int)),upd (upd (upd (fun _=>.unused) 4 (.live (List.map (fun d:Nat=>AV.int .u32 (d:Int)) (z)))) 106 .gone) 108 (AObj.live ([.int .u32 ((x.getD i 0:Nat):Int)])).freeze,63⟩)
      (fun q=>q.1<q.2∧q.2≤65536∧q.1*b≤R∧R<q.2*b) (fun q=>q.2-q.1) (0,65536) 200
      Has.z (Kept.of rfl KT.z (KM.p (by repeat (first|exact KMp.nil|refine KMp.upd rfl (by first|rfl|exact objOnly_F) ?_)))) ⟨by decide,by simp,by simp,hRb⟩ 63 (by kernel_rfl) ?_
     rintro ⟨lo,hh⟩ ⟨p1,p2,p3,p4⟩
     simp only [] at p1 p2 p3 p4
     have w1:IntKind.u64.wrap ((hh:Int)-(lo:Int))=((hh-lo:Nat):Int):=by rw [IntKind.wrap_u64]; omega
     by_cases hg:1<hh-lo
     · have w2:IntKind.u64.wrap ((lo:Int)+(hh:Int))=((lo+hh:Nat):Int):=by rw [IntKind.wrap_u64]; omega
       obtain ⟨m,hm⟩:∃ m,(lo+hh) / 2=m:=⟨_,rfl⟩
       have w3:((lo+hh:Nat):Int).tdiv 2=(m:Int):=by rw [← hm]; rfl
       have w4:IntKind.u64.wrap (m:Int)=(m:Int):=by rw [IntKind.wrap_u64]; omega
       have w5:((0:Int)≤(m:Int))=True:=eq_true (by omega)
       have w6:((m:Int)<18446744073709551616)=True:=eq_true (by omega)
       have hmb:blen m≤17:=blen_17 (by omega)
       have w7:blen m≤68719476736:=Nat.le_trans hmb (by decide)
       have w8:blen b≤68719476736:=Nat.le_trans hb (by decide)
       have w9:blen (m*b)≤68719476736:=Nat.le_trans (blen_mul_le hmb hb) (by decide)
       rcases Nat.lt_or_ge R (m*b) with hc|hc
       · have w10:decide (cmpI (m*b) R≤0)=false:=by rw [cmpI_gt hc]; rfl
         simp only [go_sem,w1,hg,w2,w3,w4,w5,w6,w7,w8,w9,hRl,Int.toNat_natCast,w10]
         exact ⟨by decide,(lo,m),Kept.of rfl KT.z (KM.p (by repeat (first|exact KMp.nil|refine KMp.upd rfl (by first|rfl|exact objOnly_F) ?_))),⟨by simp only []; omega,by simp only []; omega,p3,hc⟩,by simp only []; omega⟩
       · have w10:decide (cmpI (m*b) R≤0)=true:=by
          rcases Nat.lt_or_eq_of_le hc with h|h
          · rw [cmpI_lt h]; rfl
          · rw [h,cmpI_eq]; rfl
         simp only [go_sem,w1,hg,w2,w3,w4,w5,w6,w7,w8,w9,hRl,Int.toNat_natCast,w10]
         exact ⟨by decide,(m,hh),Kept.of rfl KT.z (KM.p (by repeat (first|exact KMp.nil|refine KMp.upd rfl (by first|rfl|exact objOnly_F) ?_))),⟨by simp only []; omega,p2,hc,p4⟩,by simp only []; omega⟩
     · have hll:hh=lo+1:=by omega
       have w4:IntKind.u32.wrap (lo:Int)=(lo:Int):=by rw [IntKind.wrap_u32]; omega
       have w5:((0:Int)≤(lo:Int))=True:=eq_true (by omega)
       have w6:((lo:Int)<18446744073709551616)=True:=eq_true (by omega)
       have hmb:blen lo≤17:=blen_17 (by omega)
       have w7:blen lo≤68719476736:=Nat.le_trans hmb (by decide)
       have w8:blen b≤68719476736:=Nat.le_trans hb (by decide)
       have hz:i<z.length:=by omega
       simp only [go_sem,w1,hg,w4,w5,w6,w7,w8,hRl,Int.toNat_natCast,hi,hi3,hz,p3,f1,plain_U hz]
       refine ⟨(i,z.set i lo,some (R-lo*b)),Kept.of rfl KT.z KM.z,⟨by simp only []; omega,by rw [List.length_set]; exact q2,fun d hd=>?_,?_,?_⟩,by simp only []; omega⟩
       · rcases List.mem_or_eq_of_mem_set hd with hd|rfl
         · exact q3 d hd
         · omega
       · simp only [ru]
         rw [hdR,drop_cons (w:=z.set i lo) (by rw [List.length_set]; exact hz),getD_set_eq _ _ _ hz,List.drop_set_of_lt (by omega),dOf,Nat.add_mul,Nat.mul_assoc]
         omega
       · rw [hll,Nat.succ_mul] at p4
         simp only [ru]
         omega
   | some r =>
     obtain ⟨l,hl⟩:∃ l,x.getD i 0::digs 65536 r=l:=⟨_,rfl⟩
     have e0:AV.int IntKind.u32 ((x.getD i 0:Nat):Int)::(List.map (fun d:Nat=>AV.int .u32 (d:Int)) (digs 65536 r))=(List.map (fun d:Nat=>AV.int .u32 (d:Int)) (l)):=by rw [← hl]; rfl
     have e1:l.length=1+(digs 65536 r).length:=by rw [← hl,List.length_cons,Nat.add_comm]
     have e2:dOf 65536 l=R:=by rw [← hl,← hR,dOf,dOf_digs 65536 r (by decide)]; rfl
     have e3:(∀ d ∈ l,d<65536)=True:=eq_true (fun d hd=>by
      rw [← hl] at hd
      rcases List.mem_cons.1 hd with rfl|hd
      · exact hxi
      · exact digs_lt 65536 r (by decide) d hd)
     have e4:=rlen_blen r
     have e5:blen r≤34359738368:=blen_le_of (Nat.le_of_lt (by simpa [ru] using q5)) hb
     have e6:List.take (1+(digs 65536 r).length) (List.map (fun d:Nat=>AV.int .u32 (d:Int)) (l))=(List.map (fun d:Nat=>AV.int .u32 (d:Int)) (l)):=List.take_of_length_le (by rw [List.length_map]; omega)
     have e7:List.drop (1+(digs 65536 r).length) (List.map (fun d:Nat=>AV.int .u32 (d:Int)) (l))=[]:=List.drop_of_length_le (by rw [List.length_map]; omega)
     have e8:(1+(digs 65536 r).length)*4≤1099511627776:=by omega
     have e9:1+(digs 65536 r).length<4611686018427387904:=by omega
     simp only [rv,f2]
     simp only [go_sem,hi,hi3,gU' hi,hxi,e0,e6,e7,map_ud32,e1,e2,e3,e8,e9]
     refine ⟨fun h=>h.elim,?_⟩
     refine trX_loop HE hP.mix [108,106,4] (fun q:Nat × Nat=>⟨upd (upd (upd (upd (upd (upd (upd (fun _=>.junk) 0 (.imm x.length (List.map (fun d:Nat=>AV.int .u32 (d:Int)) (x)))) 1 (.imm (digs 65536 (b)).length (List.map (fun d:Nat=>AV.int .u32 (d:Int)) (digs 65536 (b))))) 6 (.sl 4 0 x.length 1)) 7 (.imm (digs 65536 (R)).length (List.map (fun d:Nat=>AV.int .u32 (d:Int)) (digs 65536 (R))))) 8 (.int .i64 (i:Int))) 9 (.int .u64 (q.1:Int))) 10 (.int .u64 (q.2:Int)),upd (upd (upd (fun _=>.unused) 4 (.live (List.map (fun d:Nat=>AV.int .u32 (d:Int)) (z)))) 106 .gone) 108 (AObj.live ((List.map (fun d:Nat=>AV.int .u32 (d:Int)) (l)))).freeze,63⟩)
      (fun q=>q.1<q.2∧q.2≤65536∧q.1*b≤R∧R<q.2*b) (fun q=>q.2-q.1) (0,65536) 200
      Has.z (Kept.of rfl KT.z (KM.p (by repeat (first|exact KMp.nil|refine KMp.upd rfl (by first|rfl|exact objOnly_F) ?_)))) ⟨by decide,by simp,by simp,hRb⟩ 63 (by kernel_rfl) ?_
     rintro ⟨lo,hh⟩ ⟨p1,p2,p3,p4⟩
     simp only [] at p1 p2 p3 p4
     have w1:IntKind.u64.wrap ((hh:Int)-(lo:Int))=((hh-lo:Nat):Int):=by rw [IntKind.wrap_u64]; omega
     by_cases hg:1<hh-lo
     · have w2:IntKind.u64.wrap ((lo:Int)+(hh:Int))=((lo+hh:Nat):Int):=by rw [IntKind.wrap_u64]; omega
       obtain ⟨m,hm⟩:∃ m,(lo+hh) / 2=m:=⟨_,rfl⟩
       have w3:((lo+hh:Nat):Int).tdiv 2=(m:Int):=by rw [← hm]; rfl
       have w4:IntKind.u64.wrap (m:Int)=(m:Int):=by rw [IntKind.wrap_u64]; omega
       have w5:((0:Int)≤(m:Int))=True:=eq_true (by omega)
       have w6:((m:Int)<18446744073709551616)=True:=eq_true (by omega)
       have hmb:blen m≤17:=blen_17 (by omega)
       have w7:blen m≤68719476736:=Nat.le_trans hmb (by decide)
       have w8:blen b≤68719476736:=Nat.le_trans hb (by decide)
       have w9:blen (m*b)≤68719476736:=Nat.le_trans (blen_mul_le hmb hb) (by decide)
       rcases Nat.lt_or_ge R (m*b) with hc|hc
       · have w10:decide (cmpI (m*b) R≤0)=false:=by rw [cmpI_gt hc]; rfl
         simp only [go_sem,w1,hg,w2,w3,w4,w5,w6,w7,w8,w9,hRl,Int.toNat_natCast,w10]
         exact ⟨by decide,(lo,m),Kept.of rfl KT.z (KM.p (by repeat (first|exact KMp.nil|refine KMp.upd rfl (by first|rfl|exact objOnly_F) ?_))),⟨by simp only []; omega,by simp only []; omega,p3,hc⟩,by simp only []; omega⟩
       · have w10:decide (cmpI (m*b) R≤0)=true:=by
          rcases Nat.lt_or_eq_of_le hc with h|h
          · rw [cmpI_lt h]; rfl
          · rw [h,cmpI_eq]; rfl
         simp only [go_sem,w1,hg,w2,w3,w4,w5,w6,w7,w8,w9,hRl,Int.toNat_natCast,w10]
         exact ⟨by decide,(m,hh),Kept.of rfl KT.z (KM.p (by repeat (first|exact KMp.nil|refine KMp.upd rfl (by first|rfl|exact objOnly_F) ?_))),⟨by simp only []; omega,p2,hc,p4⟩,by simp only []; omega⟩
     · have hll:hh=lo+1:=by omega
       have w4:IntKind.u32.wrap (lo:Int)=(lo:Int):=by rw [IntKind.wrap_u32]; omega
       have w5:((0:Int)≤(lo:Int))=True:=eq_true (by omega)
       have w6:((lo:Int)<18446744073709551616)=True:=eq_true (by omega)
       have hmb:blen lo≤17:=blen_17 (by omega)
       have w7:blen lo≤68719476736:=Nat.le_trans hmb (by decide)
       have w8:blen b≤68719476736:=Nat.le_trans hb (by decide)
       have hz:i<z.length:=by omega
       simp only [go_sem,w1,hg,w4,w5,w6,w7,w8,hRl,Int.toNat_natCast,hi,hi3,hz,p3,f1,plain_U hz]
       refine ⟨(i,z.set i lo,some (R-lo*b)),Kept.of rfl KT.z KM.z,⟨by simp only []; omega,by rw [List.length_set]; exact q2,fun d hd=>?_,?_,?_⟩,by simp only []; omega⟩
       · rcases List.mem_or_eq_of_mem_set hd with hd|rfl
         · exact q3 d hd
         · omega
       · simp only [ru]
         rw [hdR,drop_cons (w:=z.set i lo) (by rw [List.length_set]; exact hz),getD_set_eq _ _ _ hz,List.drop_set_of_lt (by omega),dOf,Nat.add_mul,Nat.mul_assoc]
         omega
       · rw [hll,Nat.succ_mul] at p4
         simp only [ru]
         omega
def rDivS:List AV→Option (Prop × AV):=onR2 fun a b=>(blen a≤68719476736∧blen b≤34359738368∧0<b,.tup [(.imm (digs 65536 (a / b)).length (List.map (fun d:Nat=>AV.int .u32 (d:Int)) (digs 65536 (a / b)))),(.imm (digs 65536 (a % b)).length (List.map (fun d:Nat=>AV.int .u32 (d:Int)) (digs 65536 (a % b))))])
theorem rDivS_ok (hP:PrgOk P) (args p r):rDivS args=some (p,r)→p→CSpec P 129 args r:=onR2_ok (fun a b h=>by exact rDiv_spec hP a b h.1 h.2.1 h.2.2) args p r
attribute [go_sem] rDivS
noncomputable def Sn:Nat→List AV→Option (Prop × AV):=addS Sm 129 rDivS
theorem Sn_ok (hP:PrgOk P):EnvOk P ⟨T0,Sn⟩:=((Sm_ok hP).add (rDivS_ok hP))
theorem Sn_at (f a):Sn f a=(addS Sm 129 rDivS) f a:=rfl
attribute [go_sem] Sn_at
theorem rlen_pos {a:Nat}:0<(digs 65536 a).length ↔ 0<a:=by
 constructor
 · intro h
   rcases Nat.eq_zero_or_pos a with e|e
   · rw [e,digs_zero] at h; simp at h
   · exact e
 · intro h
   rcases Nat.eq_zero_or_pos (digs 65536 a).length with e|e
   · have:=dOf_digs 65536 a (by decide)
     rw [List.length_eq_zero_iff.1 e] at this
     simp [dOf] at this; omega
   · exact e
theorem rlen_pos_eq {a:Nat}:decide (0<(digs 65536 a).length)=decide (0<a):=decide_eq_decide.2 rlen_pos
theorem rGcd_spec (hP:PrgOk P) (a b:Nat) (ha:blen a≤34359738368) (hb:blen b≤34359738368):CSpec P 128 [(.imm (digs 65536 (a)).length (List.map (fun d:Nat=>AV.int .u32 (d:Int)) (digs 65536 (a)))),(.imm (digs 65536 (b)).length (List.map (fun d:Nat=>AV.int .u32 (d:Int)) (digs 65536 (b))))] (.imm (digs 65536 (Nat.gcd a b)).length (List.map (fun d:Nat=>AV.int .u32 (d:Int)) (digs 65536 (Nat.gcd a b)))):=by
 have HE:=Sn_ok hP
 refine CSpec_go (E:=⟨T0,Sn⟩) (fn128 hP) HE hP.mix ?_
 simp only [go_sem]
 refine trX_loop HE hP.mix [] (fun q:Nat × Nat=>⟨upd (upd (fun _=>.junk) 0 (.imm (digs 65536 (q.1)).length (List.map (fun d:Nat=>AV.int .u32 (d:Int)) (digs 65536 (q.1))))) 1 (.imm (digs 65536 (q.2)).length (List.map (fun d:Nat=>AV.int .u32 (d:Int)) (digs 65536 (q.2)))),fun _=>.unused,19⟩)
  (fun q=>blen q.1≤34359738368∧blen q.2≤34359738368∧Nat.gcd q.1 q.2=Nat.gcd a b) (fun q=>q.2) (a,b) 10
  Has.z (Kept.of rfl KT.z KM.z) ⟨ha,hb,rfl⟩ 19 (by kernel_rfl) ?_
 rintro ⟨x,y⟩ ⟨h1,h2,h3⟩
 simp only [] at h1 h2 h3
 have h1':blen x≤68719476736:=Nat.le_trans h1 (by decide)
 by_cases hy:0<y
 · have hl:0<(digs 65536 y).length:=rlen_pos.2 hy
   have hml:=Nat.mod_lt x hy
   simp only [go_sem,hl,h1',h2,hy]
   exact ⟨(y,x % y),Kept.of rfl KT.z KM.z,⟨h2,blen_le_of (Nat.le_of_lt hml) h2,by simp only []; rw [← gcd_step]; exact h3⟩,by simp only []; exact hml⟩
 · have hl:¬ 0<(digs 65536 y).length:=fun h=>hy (rlen_pos.1 h)
   have hy0:y=0:=by omega
   simp only [go_sem,hl]
   rw [hy0,Nat.gcd_zero_right] at h3
   rw [h3]; exact .refl _
def rGcdS:List AV→Option (Prop × AV):=onR2 fun a b=>(blen a≤34359738368∧blen b≤34359738368,(.imm (digs 65536 (Nat.gcd a b)).length (List.map (fun d:Nat=>AV.int .u32 (d:Int)) (digs 65536 (Nat.gcd a b)))))
theorem rGcdS_ok (hP:PrgOk P) (args p r):rGcdS args=some (p,r)→p→CSpec P 128 args r:=onR2_ok (fun a b h=>by exact rGcd_spec hP a b h.1 h.2) args p r
attribute [go_sem] rGcdS
theorem bytesS_app (x y:List AV):bytesS x++bytesS y=bytesS (x++y):=by
 unfold bytesS
 rw [List.map_append]
 apply ByteArray.ext
 simp
theorem bytesS_size (x:List AV):(bytesS x).size=x.length:=by
 unfold bytesS
 rw [← ByteArray.size_data]
 simp
abbrev bS (l:List Nat):ByteArray:=bytesS (l.map fun d:Nat=>AV.int .u8 (d:Int))
theorem bS_app (x y:List Nat):bytesS (x.map fun d:Nat=>AV.int .u8 (d:Int))++bytesS (y.map fun d:Nat=>AV.int .u8 (d:Int))=bytesS ((x++y).map fun d:Nat=>AV.int .u8 (d:Int)):=by rw [bytesS_app,List.map_append]
theorem rText_spec (hP:PrgOk P) (a:Nat) (ha:blen a≤68719476736):CSpec P 157 [(.imm (digs 65536 (a)).length (List.map (fun d:Nat=>AV.int .u32 (d:Int)) (digs 65536 (a))))] (.str (decS a)):=by
 have HE:=Sn_ok hP
 rcases Nat.eq_zero_or_pos a with rfl|h0
 · have e:digs 65536 0=[]:=digs_zero _
   refine CSpec_go (E:=⟨T0,Sn⟩) (fn157 hP) HE hP.mix ?_
   simp only [go_sem,e]
   exact .refl _
 · have hl:((digs 65536 a).length == 0)=false:=by
    have:=rlen_pos.2 h0
    exact beq_eq_false_iff_ne.2 (by omega)
   refine CSpec_go (E:=⟨T0,Sn⟩) (fn157 hP) HE hP.mix ?_
   simp only [go_sem,hl]
   refine trX_loop HE hP.mix [] (fun q:Nat × List Nat=>⟨upd (upd (fun _=>.junk) 0 (.imm (digs 65536 (q.1)).length (List.map (fun d:Nat=>AV.int .u32 (d:Int)) (digs 65536 (q.1))))) 3 (.str (bS q.2.reverse)),fun _=>.unused,51⟩)
    (fun q=>byt q.2∧a=dv q.2+10^q.2.length*q.1∧(q.1=0→Canon (q.2.map (·-48)))) (fun q=>q.1) (a,[]) 60
    Has.z (Kept.of rfl KT.z KM.z) ⟨by simp [byt],by simp [dv,dOf],fun e=>by have e:a=0:=e; omega⟩ 51 (by kernel_rfl) ?_
   rintro ⟨w,o⟩ ⟨h1,h2,h3⟩
   simp only [] at h1 h2 h3
   by_cases hw:0<w
   · have hlw:0<(digs 65536 w).length:=rlen_pos.2 hw
     have hwa:w≤a:=by
      rw [h2]
      exact Nat.le_trans (Nat.le_mul_of_pos_left _ (Nat.pow_pos (by decide))) (Nat.le_add_left _ _)
     have hwl:blen w≤68719476736:=blen_le_of hwa ha
     have hlr:=rlen_blen (w % 10000)
     have hmd:w % 10000<10000:=Nat.mod_lt _ (by decide)
     have hbl:blen (w % 10000)≤14:=(blen_le_iff _ 14).2 (by omega)
     have hl2:(digs 65536 (w % 10000)).length≤1099511627776:=by omega
     have hsm:(w % 10000<18446744073709551616)=True:=eq_true (by omega)
     have hbt:(blen 10000≤34359738368)=True:=eq_true (by decide)
     have hbi:(10000:Int).toNat=10000:=rfl
     simp only [go_sem,hlw,hwl,hl2,hsm,hbt,hbi]
     obtain ⟨W2,hW2⟩:∃ W2,w / 10000=W2:=⟨_,rfl⟩
     obtain ⟨v0,hv0⟩:∃ v0,w % 10000=v0:=⟨_,rfl⟩
     have hwv:w=v0+10000*W2:=by omega
     simp only [hW2,hv0]
     refine ⟨by decide,?_⟩
     refine trX_loop HE hP.mix [] (fun q:Nat × Nat × List Nat=>⟨upd (upd (upd (upd (fun _=>.junk) 3 (.str (bS q.2.2.reverse))) 4 (.imm (digs 65536 (W2)).length (List.map (fun d:Nat=>AV.int .u32 (d:Int)) (digs 65536 (W2))))) 6 (.int .u64 (q.2.1:Int))) 8 (.int .i64 (q.1:Int)),fun _=>.unused,51⟩)
      (fun q=>q.1≤4∧byt q.2.2∧q.2.1<10^(4-q.1)∧a=dv q.2.2+10^q.2.2.length*(q.2.1+10^(4-q.1)*W2)∧(W2=0→q.2.1=0→Canon (q.2.2.map (·-48)))) (fun q=>4-q.1) (0,v0,o) 60
      Has.z (Kept.of rfl KT.z KM.z) ⟨Nat.zero_le _,h1,by simp only []; omega,by simp only []; rw [h2,hwv],fun e1 e2=>by have e2:v0=0:=e2; omega⟩ 51 (by kernel_rfl) ?_
     rintro ⟨k,v,o'⟩ ⟨s1,s2,s3,s4,s5⟩
     simp only [] at s1 s2 s3 s4 s5
     have hm:(v:Int).tmod 10=((v % 10:Nat):Int):=rfl
     have hvb:v<10000:=Nat.lt_of_lt_of_le s3 (Nat.pow_le_pow_right (by decide) (show 4-k≤4 by omega))
     have hdv:IntKind.u64.wrap ((v:Int).tdiv 10)=((v / 10:Nat):Int):=wu_div v 10 (by omega)
     have hu8:=u8_dig v
     have hwi:=wi_add1 k (by omega)
     have hR:decide (0<(digs 65536 W2).length)=decide (0<W2):=rlen_pos_eq
     by_cases hk:k<4
     · by_cases hgo:0<W2∨0<v
       · have hkb:o'.length+1≤1099511627776:=by
          have h0:1≤v+10^(4-k)*W2:=by
           rcases hgo with h|h
           · exact Nat.le_trans (Nat.mul_pos (Nat.pow_pos (by decide)) h) (Nat.le_add_left _ _)
           · omega
          have h1:10^o'.length*1≤10^o'.length*(v+10^(4-k)*W2):=Nat.mul_le_mul_left _ h0
          have h2:2^o'.length≤10^o'.length:=Nat.pow_le_pow_left (by decide) _
          have h3:=blen_lt a
          have h4:o'.length<blen a:=(Nat.pow_lt_pow_iff_right (a:=2) (by decide)).1 (by omega)
          omega
         have hpw:10^(4-k)=10*10^(4-(k+1)):=by rw [show 4-k=4-(k+1)+1 by omega,Nat.pow_succ,Nat.mul_comm]
         have hst:byt (o'++[48+v % 10])∧v / 10<10^(4-(k+1))∧a=dv (o'++[48+v % 10])+10^(o'++[48+v % 10]).length*(v / 10+10^(4-(k+1))*W2)∧(W2=0→v / 10=0→Canon ((o'++[48+v % 10]).map (·-48))):=by
          refine ⟨byt_snoc s2 v,by omega,?_,fun e1 e2=>snoc_canon _ _ ?_⟩
          · rw [dv_snoc,List.length_append,List.length_singleton,Nat.pow_succ]
            rw [hpw,Nat.mul_assoc] at s4
            exact dig_step s4
          · rcases hgo with h|h<;>omega
         obtain ⟨z1,z2,z3,z4⟩:=hst
         have hsz:1+o'.length≤9223372036854775807:=by omega
         have hap:bytesS [.int .u8 ((48+v % 10:Nat):Int)]++bS o'.reverse=bS (o'++[48+v % 10]).reverse:=by
          rw [List.reverse_append]; exact bS_app [48+v % 10] o'.reverse
         by_cases hW:0<W2
         · simp only [go_sem,hk,hR,hW,hm,hdv,hu8,hwi,hap,bytesS_size]
           exact ⟨by decide,rfl,by rw [List.length_reverse]; exact hsz,by decide,(k+1,v / 10,o'++[48+v % 10]),Kept.of rfl KT.z KM.z,⟨by simp only []; omega,z1,z2,z3,z4⟩,by simp only []; omega⟩
         · have hv:0<v:=by omega
           simp only [go_sem,hk,hR,hW,hv,hm,hdv,hu8,hwi,hap,bytesS_size]
           exact ⟨by decide,rfl,by rw [List.length_reverse]; exact hsz,by decide,(k+1,v / 10,o'++[48+v % 10]),Kept.of rfl KT.z KM.z,⟨by simp only []; omega,z1,z2,z3,z4⟩,by simp only []; omega⟩
       · have hW:¬ 0<W2:=fun h=>hgo (.inl h)
         have hv:¬ 0<v:=fun h=>hgo (.inr h)
         simp only [go_sem,hk,hR,hW,hv]
         have hW0:W2=0:=by omega
         have hv0:v=0:=by omega
         exact ⟨(W2,o'),Kept.of rfl KT.z KM.z,⟨s2,by simp only []; rw [s4,hW0,hv0,Nat.mul_zero,Nat.add_zero],fun e=>s5 e hv0⟩,by simp only []; omega⟩
     · have hv0:v=0:=by
        rw [show 4-k=0 by omega] at s3; omega
       simp only [go_sem,hk]
       exact ⟨(W2,o'),Kept.of rfl KT.z KM.z,⟨s2,by simp only []; rw [s4,hv0,show 4-k=0 by omega,Nat.pow_zero,Nat.one_mul,Nat.zero_add],fun e=>s5 e hv0⟩,by simp only []; omega⟩
   · have hlw:¬ 0<(digs 65536 w).length:=fun h=>hw (rlen_pos.1 h)
     have hw0:w=0:=by omega
     rw [hw0,Nat.mul_zero,Nat.add_zero] at h2
     have hdl:=text_end h1 h2 (h3 hw0) h0
     simp only [go_sem,hlw]
     unfold decS
     rw [hdl]; exact .refl _
def rTextS:List AV→Option (Prop × AV):=onR1 fun a=>(blen a≤68719476736,.str (decS a))
theorem rTextS_ok (hP:PrgOk P) (args p r):rTextS args=some (p,r)→p→CSpec P 157 args r:=onR1_ok (fun a h=>by exact rText_spec hP a h) args p r
attribute [go_sem] rTextS
instance okD_dec (l:List Nat):Decidable (okD l):=by unfold okD; infer_instance
theorem rDigits_spec (hP:PrgOk P) (s:ByteArray) (hsz:(bl s).length≤281474976710656):CSpec P 135 [.str s] (.bool (decide (okD (bl s)))):=by
 have HE:=Sn_ok hP
 refine CSpec_go (E:=⟨T0,Sn⟩) (fn135 hP) HE hP.mix ?_
 obtain ⟨l,hl⟩:∃ l,bl s=l:=⟨_,rfl⟩
 rw [hl] at hsz ⊢
 by_cases h1:l=[]
 · have h1':(l.length == 0)=true:=by rw [h1]; rfl
   have hno:decide (okD l)=false:=decide_eq_false fun h=>h.1 h1
   simp only [go_sem,size_bl,get_bl,hl,h1']
   rw [hno]; exact .refl _
 · have h1':(l.length == 0)=false:=beq_eq_false_iff_ne.2 fun h=>h1 (List.length_eq_zero_iff.1 h)
   by_cases h2:1<l.length
   · rcases (by cases (l.getD 0 0 == 48)<;>simp:(l.getD 0 0 == 48)=true∨(l.getD 0 0 == 48)=false) with h3|h3
     · have hno:decide (okD l)=false:=decide_eq_false fun h=>h.2.1 ⟨h2,by simpa using h3⟩
       simp only [go_sem,size_bl,get_bl,hl,h1',h2,h3]
       rw [hno]
       exact ⟨by omega,.refl _⟩
     · have h0:¬ (1<l.length∧l.getD 0 0=48):=fun h=>by simp at h3; exact h3 (by simpa using h.2)
       simp only [go_sem,size_bl,get_bl,hl,h1',h2,h3]
       refine ⟨by omega,?_⟩
       refine trX_loop HE hP.mix [] (fun k:Nat=>⟨upd (upd (fun _=>.junk) 0 (.str s)) 3 (.int .i64 (k:Int)),fun _=>.unused,33⟩)
        (fun k=>k≤l.length∧∀ c ∈ l.take k,48≤c∧c≤57) (fun k=>l.length-k) 0 10
        Has.z (Kept.of rfl KT.z KM.z) ⟨Nat.zero_le _,by simp⟩ 33 (by kernel_rfl) ?_
       rintro k ⟨k1,k2⟩
       by_cases hk:k<l.length
       · have hw:=wi_add1 k (by omega)
         have hb:=bl_lt s
         rw [hl] at hb
         have hkb:=hb _ (getD_mem hk)
         by_cases ha:l.getD k 0<48
         · have hno:decide (okD l)=false:=decide_eq_false fun h=>by have:=h.2.2 _ (getD_mem hk); omega
           have ha':decide (((l.getD k 0:Nat):Int)<48)=true:=decide_eq_true (by omega)
           simp only [go_sem,size_bl,get_bl,hl,hk,ha,ha',Int.toNat_natCast]
           rw [hno]; exact .refl _
         · have ha':decide (((l.getD k 0:Nat):Int)<48)=false:=decide_eq_false (by omega)
           by_cases hc:57<l.getD k 0
           · have hno:decide (okD l)=false:=decide_eq_false fun h=>by have:=h.2.2 _ (getD_mem hk); omega
             simp only [go_sem,size_bl,get_bl,hl,hk,ha,ha',Int.toNat_natCast,hc]
             rw [hno]; exact .refl _
           · simp only [go_sem,size_bl,get_bl,hl,hk,ha,ha',Int.toNat_natCast,hc,hw]
             exact ⟨k+1,Kept.of rfl KT.z KM.z,⟨by omega,fun c hcm=>by
              rw [take_snoc hk] at hcm
              rcases List.mem_append.1 hcm with hcm|hcm
              · exact k2 c hcm
              · rw [List.mem_singleton.1 hcm]; omega⟩,by omega⟩
       · have hyes:decide (okD l)=true:=decide_eq_true ⟨h1,h0,by rwa [List.take_of_length_le (by omega)] at k2⟩
         simp only [go_sem,size_bl,get_bl,hl,hk]
         rw [hyes]; exact .refl _
   · have h0:¬ (1<l.length∧l.getD 0 0=48):=fun h=>h2 h.1
     simp only [go_sem,size_bl,get_bl,hl,h1',h2]
     refine trX_loop HE hP.mix [] (fun k:Nat=>⟨upd (upd (fun _=>.junk) 0 (.str s)) 3 (.int .i64 (k:Int)),fun _=>.unused,33⟩)
      (fun k=>k≤l.length∧∀ c ∈ l.take k,48≤c∧c≤57) (fun k=>l.length-k) 0 10
      Has.z (Kept.of rfl KT.z KM.z) ⟨Nat.zero_le _,by simp⟩ 33 (by kernel_rfl) ?_
     rintro k ⟨k1,k2⟩
     by_cases hk:k<l.length
     · have hw:=wi_add1 k (by omega)
       have hb:=bl_lt s
       rw [hl] at hb
       have hkb:=hb _ (getD_mem hk)
       by_cases ha:l.getD k 0<48
       · have hno:decide (okD l)=false:=decide_eq_false fun h=>by have:=h.2.2 _ (getD_mem hk); omega
         have ha':decide (((l.getD k 0:Nat):Int)<48)=true:=decide_eq_true (by omega)
         simp only [go_sem,size_bl,get_bl,hl,hk,ha,ha',Int.toNat_natCast]
         rw [hno]; exact .refl _
       · have ha':decide (((l.getD k 0:Nat):Int)<48)=false:=decide_eq_false (by omega)
         by_cases hc:57<l.getD k 0
         · have hno:decide (okD l)=false:=decide_eq_false fun h=>by have:=h.2.2 _ (getD_mem hk); omega
           simp only [go_sem,size_bl,get_bl,hl,hk,ha,ha',Int.toNat_natCast,hc]
           rw [hno]; exact .refl _
         · simp only [go_sem,size_bl,get_bl,hl,hk,ha,ha',Int.toNat_natCast,hc,hw]
           exact ⟨k+1,Kept.of rfl KT.z KM.z,⟨by omega,fun c hcm=>by
            rw [take_snoc hk] at hcm
            rcases List.mem_append.1 hcm with hcm|hcm
            · exact k2 c hcm
            · rw [List.mem_singleton.1 hcm]; omega⟩,by omega⟩
     · have hyes:decide (okD l)=true:=decide_eq_true ⟨h1,h0,by rwa [List.take_of_length_le (by omega)] at k2⟩
       simp only [go_sem,size_bl,get_bl,hl,hk]
       rw [hyes]; exact .refl _
def DigitsS:List AV→Option (Prop × AV)
 | [.str s]=>some ((bl s).length≤281474976710656,.bool (decide (okD (bl s))))
 | _=>none
theorem DigitsS_ok (hP:PrgOk P) (args p r) (h:DigitsS args=some (p,r)) (hp:p):CSpec P 135 args r:=by
 unfold DigitsS at h
 split at h
 · simp only [Option.some.injEq,Prod.mk.injEq] at h
   obtain ⟨rfl,rfl⟩:=h
   exact rDigits_spec hP _ hp
 · simp at h
attribute [go_sem] DigitsS
noncomputable def So:Nat→List AV→Option (Prop × AV):=addS (addS (addS Sn 128 rGcdS) 157 rTextS) 135 DigitsS
theorem So_ok (hP:PrgOk P):EnvOk P ⟨T0,So⟩:=((((Sn_ok hP).add (rGcdS_ok hP)).add (rTextS_ok hP)).add (DigitsS_ok hP))
theorem So_at (f a):So f a=(addS (addS (addS Sn 128 rGcdS) 157 rTextS) 135 DigitsS) f a:=rfl
attribute [go_sem] So_at
theorem valL_blen4 {l:List Nat} (h:∀ c ∈ l,c≤57):blen (valL l)≤4*l.length:=by
 have h1:=valL_lt (l:=l) h
 have h4:10^l.length≤16^l.length:=Nat.pow_le_pow_left (by decide) _
 have h5:(16:Nat)^l.length=2^(4*l.length):=by rw [show (16:Nat)=2^4 from rfl,← Nat.pow_mul]
 rw [blen_le_iff,← h5]; exact Nat.lt_of_lt_of_le h1 h4
theorem rParse_spec (hP:PrgOk P) (s:ByteArray) (hsz:(bl s).length≤8589934592) (hd:∀ c ∈ bl s,48≤c∧c≤57):CSpec P 136 [.str s] (.imm (digs 65536 (valL (bl s))).length (List.map (fun d:Nat=>AV.int .u32 (d:Int)) (digs 65536 (valL (bl s))))):=by
 have HE:=So_ok hP
 have h10:blen 10≤68719476736:=by decide
 have h10i:(10:Int).toNat=10:=rfl
 refine CSpec_go (E:=⟨T0,So⟩) (fn136 hP) HE hP.mix ?_
 obtain ⟨l,hl⟩:∃ l,bl s=l:=⟨_,rfl⟩
 rw [hl] at hsz hd ⊢
 simp only [go_sem,size_bl,get_bl,hl]
 refine trX_loop HE hP.mix [] (fun k:Nat × Option Nat=>⟨upd (upd (upd (fun _=>.junk) 0 (.str s)) 3 (rv k.2)) 4 (.int .i64 (k.1:Int)),fun _=>.unused,22⟩)
  (fun k=>k.1≤l.length∧ru k.2=valL (l.take k.1)) (fun k=>l.length-k.1) (0,none) 10
  Has.z (Kept.of rfl KT.z KM.z) ⟨Nat.zero_le _,rfl⟩ 22 (by kernel_rfl) ?_
 rintro ⟨k,r⟩ ⟨k1,k2⟩
 simp only [] at k1 k2
 by_cases hk:k<l.length
 · have hw:=wi_add1 k (by omega)
   have hkb:=hd _ (getD_mem hk)
   have hvb:blen (valL (l.take k))≤34359738368:=by
    have:=valL_blen4 (l:=l.take k) (fun c hc=>(hd c (List.mem_of_mem_take hc)).2)
    rw [List.length_take,Nat.min_eq_left k1] at this
    omega
   have hst:=valL_take_succ hk
   obtain ⟨d,hdd⟩:∃ d,l.getD k 0-48=d:=⟨_,rfl⟩
   have f1:IntKind.u8.wrap (((l.getD k 0:Nat):Int)-48)=(d:Int):=by rw [IntKind.wrap_u8]; omega
   have f2:IntKind.u64.wrap (d:Int)=(d:Int):=by rw [IntKind.wrap_u64]; omega
   have f3:((0:Int)≤(d:Int))=True:=eq_true (by omega)
   have f4:((d:Int)<18446744073709551616)=True:=eq_true (by omega)
   cases r with
   | none =>
     simp only [rv]
     simp only [go_sem,size_bl,get_bl,hl,hk,Int.toNat_natCast,f1,f2,f3,f4,h10,h10i,hw]
     have hdb:blen d≤68719476736:=Nat.le_trans (blen_17 (by omega)) (by decide)
     refine ⟨by decide,by decide,⟨by decide,hdb⟩,(k+1,some (d)),Kept.of rfl KT.z KM.z,⟨by simp only []; omega,?_⟩,by simp only []; omega⟩
     simp only [ru] at k2 ⊢
     rw [hst,hdd,← k2]; omega
   | some r =>
     have k2:r=valL (l.take k):=k2
     have hvb:blen r≤34359738368:=by rw [k2]; exact hvb
     simp only [rv]
     simp only [go_sem,size_bl,get_bl,hl,hk,Int.toNat_natCast,f1,f2,f3,f4,h10,h10i,hw]
     have hdb:blen d≤68719476736:=Nat.le_trans (blen_17 (by omega)) (by decide)
     refine ⟨by decide,Nat.le_trans hvb (by decide),⟨Nat.le_trans (blen_mul_le hvb (show blen 10≤4 by decide)) (by decide),hdb⟩,(k+1,some (r*10+d)),Kept.of rfl KT.z KM.z,⟨by simp only []; omega,?_⟩,by simp only []; omega⟩
     simp only [ru] at k2 ⊢
     rw [hst,hdd,← k2]; omega
 · have htk:l.take k=l:=List.take_of_length_le (by omega)
   rw [htk] at k2
   cases r with
   | none =>
     simp only [rv]
     simp only [go_sem,size_bl,get_bl,hl,hk]
     rw [← k2]
     have e:digs 65536 0=[]:=digs_zero _
     simp only [ru,e]
     exact CvL.conv (.nilR .nil)
   | some r =>
     simp only [rv]
     simp only [go_sem,size_bl,get_bl,hl,hk]
     rw [← k2]
     exact .refl _
def rParseS:List AV→Option (Prop × AV)
 | [.str s]=>some ((bl s).length≤8589934592∧∀ c ∈ bl s,48≤c∧c≤57,(.imm (digs 65536 (valL (bl s))).length (List.map (fun d:Nat=>AV.int .u32 (d:Int)) (digs 65536 (valL (bl s))))))
 | _=>none
theorem rParseS_ok (hP:PrgOk P) (args p r) (h:rParseS args=some (p,r)) (hp:p):CSpec P 136 args r:=by
 unfold rParseS at h
 split at h
 · simp only [Option.some.injEq,Prod.mk.injEq] at h
   obtain ⟨rfl,rfl⟩:=h
   exact rParse_spec hP _ hp.1 hp.2
 · simp at h
attribute [go_sem] rParseS
noncomputable def Sp:Nat→List AV→Option (Prop × AV):=addS So 136 rParseS
theorem Sp_ok (hP:PrgOk P):EnvOk P ⟨T0,Sp⟩:=((So_ok hP).add (rParseS_ok hP))
theorem Sp_at (f a):Sp f a=(addS So 136 rParseS) f a:=rfl
attribute [go_sem] Sp_at
def rOfA:List AV→Option (Prop × AV)
 | [.int .u64 n]=>some (0≤n∧n<18446744073709551616,(.opq (.rnat (n.toNat))))
 | _=>none
theorem rOfA_ok (hP:PrgOk P) (args p r) (h:rOfA args=some (p,r)) (hp:p):CSpec P 127 args r:=by
 unfold rOfA at h
 split at h
 · simp only [Option.some.injEq,Prod.mk.injEq] at h
   obtain ⟨rfl,rfl⟩:=h
   exact (rOfS_ok hP _ _ _ rfl hp).conv (.rnat _)
 · simp at h
def rAddA:List AV→Option (Prop × AV):=onR2 fun a b=>(blen a≤68719476736∧blen b≤68719476736,(.opq (.rnat (a+b))))
theorem rAddA_ok (hP:PrgOk P) (args p r):rAddA args=some (p,r)→p→CSpec P 138 args r:=onR2_ok (fun a b h=>by exact (rAdd_spec hP a b h.1 h.2).conv (.rnat _)) args p r
def rSubA:List AV→Option (Prop × AV):=onR2 fun a b=>(blen a≤68719476736∧b≤a,(.opq (.rnat (a-b))))
theorem rSubA_ok (hP:PrgOk P) (args p r):rSubA args=some (p,r)→p→CSpec P 140 args r:=onR2_ok (fun a b h=>by exact (rSub_spec hP a b h.1 h.2).conv (.rnat _)) args p r
def rMulA:List AV→Option (Prop × AV):=onR2 fun a b=>(blen a≤68719476736∧blen b≤68719476736,(.opq (.rnat (a*b))))
theorem rMulA_ok (hP:PrgOk P) (args p r):rMulA args=some (p,r)→p→CSpec P 114 args r:=onR2_ok (fun a b h=>by exact (rMul_spec hP a b h.1 h.2).conv (.rnat _)) args p r
theorem Conv.rnat2 (a b:Nat):Conv (.tup [(.imm (digs 65536 (a)).length (List.map (fun d:Nat=>AV.int .u32 (d:Int)) (digs 65536 (a)))),(.imm (digs 65536 (b)).length (List.map (fun d:Nat=>AV.int .u32 (d:Int)) (digs 65536 (b))))]) (.tup [(.opq (.rnat (a))),(.opq (.rnat (b)))]):=CvL.conv (CvL.tup (fun W φ w l hl=>by
 obtain ⟨v,vs,rfl,h1,h2⟩:=hl.uncons rfl
 obtain ⟨v',rfl,h2⟩:=h2.one
 exact (Conv.rnat a _ _ _ _ h1).app (Conv.rnat b _ _ _ _ h2)) .nil)
def rDivA:List AV→Option (Prop × AV):=onR2 fun a b=>(blen a≤68719476736∧blen b≤34359738368∧0<b,.tup [(.opq (.rnat (a / b))),(.opq (.rnat (a % b)))])
theorem rDivA_ok (hP:PrgOk P) (args p r):rDivA args=some (p,r)→p→CSpec P 129 args r:=onR2_ok (fun a b h=>by exact (rDiv_spec hP a b h.1 h.2.1 h.2.2).conv (.rnat2 _ _)) args p r
def rGcdA:List AV→Option (Prop × AV):=onR2 fun a b=>(blen a≤34359738368∧blen b≤34359738368,(.opq (.rnat (Nat.gcd a b))))
theorem rGcdA_ok (hP:PrgOk P) (args p r):rGcdA args=some (p,r)→p→CSpec P 128 args r:=onR2_ok (fun a b h=>by exact (rGcd_spec hP a b h.1 h.2).conv (.rnat _)) args p r
def rParseA:List AV→Option (Prop × AV)
 | [.str s]=>some ((bl s).length≤8589934592∧∀ c ∈ bl s,48≤c∧c≤57,(.opq (.rnat (valL (bl s)))))
 | _=>none
theorem rParseA_ok (hP:PrgOk P) (args p r) (h:rParseA args=some (p,r)) (hp:p):CSpec P 136 args r:=by
 unfold rParseA at h
 split at h
 · simp only [Option.some.injEq,Prod.mk.injEq] at h
   obtain ⟨rfl,rfl⟩:=h
   exact (rParse_spec hP _ hp.1 hp.2).conv (.rnat _)
 · simp at h
attribute [go_sem] rOfA rAddA rSubA rMulA rDivA rGcdA rParseA
noncomputable def Sr:Nat→List AV→Option (Prop × AV):=addS (addS (addS (addS (addS (addS (addS Sp 127 rOfA) 138 rAddA) 140 rSubA) 114 rMulA) 129 rDivA) 128 rGcdA) 136 rParseA
theorem Sr_all (hP:PrgOk P) (T) (hT:TyOk P T):EnvOk P ⟨T,Sr⟩:=(((((((((Sp_ok hP).re hT).add (rOfA_ok hP)).add (rAddA_ok hP)).add (rSubA_ok hP)).add (rMulA_ok hP)).add (rDivA_ok hP)).add (rGcdA_ok hP)).add (rParseA_ok hP))
theorem Sr_at (f a):Sr f a=(addS (addS (addS (addS (addS (addS (addS Sp 127 rOfA) 138 rAddA) 140 rSubA) 114 rMulA) 129 rDivA) 128 rGcdA) 136 rParseA) f a:=rfl
attribute [go_sem] Sr_at
def wC (z:Int):List AV:=[.bool (decide (z<0)),.opq (.nat z.natAbs),.pad]
theorem CvL.wholeIn (z:Int) {xs bs} (h:CvL xs bs):CvL ((.agg [.opq (.whole (z)),.pad,.pad])::xs) (.agg (wC z)::bs):=.agg (by simpa [Pay.open,Pay.width,wC] using CvL.unfold (.whole z) []) h
theorem CvL.wholeOut (z:Int) {xs bs} (h:CvL xs bs):CvL (.agg (wC z)::xs) ((.agg [.opq (.whole (z)),.pad,.pad])::bs):=.agg (by simpa [Pay.open,Pay.width,wC] using CvL.fold (.whole z) [] rfl) h
theorem Conv.whole (z:Int):Conv (.agg (wC z)) (.agg [.opq (.whole (z)),.pad,.pad]):=CvL.conv (.wholeOut z .nil)
def sg (m:Bool) (a:Nat):Int:=if m then -(a:Int) else a
theorem sg_t (a:Nat):sg true a = -(a:Int):=rfl
theorem sg_f (a:Nat):sg false a=(a:Int):=rfl
theorem sg_abs (m a):(sg m a).natAbs=a:=by cases m<;>simp [sg]
theorem sg_neg (m a):decide (sg m a<0)=(m && decide (0<a)):=by cases m<;>simp [sg]<;>omega
theorem sg_of (z:Int):sg (decide (z<0)) z.natAbs=z:=by
 unfold sg; by_cases h:z<0
 · rw [decide_eq_true h]; simp; omega
 · rw [decide_eq_false h]; simp; omega
def rawW:AV→Option (Prop × Int)
 | .agg [.opq (.whole z),.pad,.pad]=>some (True,z)
 | .agg [.bool m,.opq (.nat a),.pad]=>some (m=true→0<a,sg m a)
 | _=>none
theorem rawW_atom (z:Int):rawW (.agg [.opq (.whole (z)),.pad,.pad])=some (True,z):=rfl
theorem rawW_raw (m a):rawW (.agg [.bool m,.opq (.nat a),.pad])=some (m=true→0<a,sg m a):=rfl
theorem rawW_cv {v:AV} {p z} (h:rawW v=some (p,z)) (hp:p) {xs bs} (k:CvL xs bs):CvL (v::xs) ((.agg [.opq (.whole (z)),.pad,.pad])::bs):=by
 unfold rawW at h
 split at h
 · simp only [Option.some.injEq,Prod.mk.injEq] at h
   obtain ⟨rfl,rfl⟩:=h
   exact .agg (.refl _) k
 · simp only [Option.some.injEq,Prod.mk.injEq] at h
   obtain ⟨rfl,rfl⟩:=h
   rename_i m a
   have e:wC (sg m a)=[.bool m,.opq (.nat a),.pad]:=by
    unfold wC; rw [sg_abs,sg_neg]
    cases m
    · rfl
    · rw [decide_eq_true (hp rfl)]; rfl
   rw [← e]; exact .wholeOut _ k
 · simp at h
def onW1 (f:Int→Prop × AV):List AV→Option (Prop × AV)
 | [x]=>(rawW x).map fun a=>(a.1∧(f a.2).1,(f a.2).2)
 | _=>none
def onW2 (f:Int→Int→Prop × AV):List AV→Option (Prop × AV)
 | [x,y]=>(rawW x).bind fun a=>(rawW y).map fun b=>(a.1∧b.1∧(f a.2 b.2).1,(f a.2 b.2).2)
 | _=>none
theorem onW1_ok {fi:Nat} {f:Int→Prop × AV} (h:∀ a,(f a).1→CSpec P fi [(.agg [.opq (.whole (a)),.pad,.pad])] (f a).2) (args p r) (he:onW1 f args=some (p,r)) (hp:p):CSpec P fi args r:=by
 unfold onW1 at he
 split at he
 · simp only [Option.map_eq_some_iff,Prod.exists,Prod.mk.injEq] at he
   obtain ⟨q,a,h1,rfl,rfl⟩:=he
   exact (h a hp.2).cv (rawW_cv h1 hp.1 .nil)
 · simp at he
theorem onW2_ok {fi:Nat} {f:Int→Int→Prop × AV} (h:∀ a b,(f a b).1→CSpec P fi [(.agg [.opq (.whole (a)),.pad,.pad]),(.agg [.opq (.whole (b)),.pad,.pad])] (f a b).2) (args p r) (he:onW2 f args=some (p,r)) (hp:p):CSpec P fi args r:=by
 unfold onW2 at he
 split at he
 · simp only [Option.bind_eq_some_iff,Option.map_eq_some_iff,Prod.exists,Prod.mk.injEq] at he
   obtain ⟨q,a,h1,q',b,h2,rfl,rfl⟩:=he
   exact (h a b hp.2.2).cv (rawW_cv h1 hp.1 (rawW_cv h2 hp.2.1 .nil))
 · simp at he
theorem onW1_eq (f x):onW1 f [x]=(rawW x).map fun a=>(a.1∧(f a.2).1,(f a.2).2):=rfl
theorem onW2_eq (f x y):onW2 f [x,y]=(rawW x).bind fun a=>(rawW y).map fun b=>(a.1∧b.1∧(f a.2 b.2).1,(f a.2 b.2).2):=rfl
attribute [go_sem] rawW_atom rawW_raw onW1_eq onW2_eq
abbrev wl (z:Int):Nat:=blen z.natAbs
theorem wMake_spec (hP:PrgOk P) (m:Bool) (a:Nat) (ha:blen a≤68719476736):CSpec P 101 [.bool m,(.agg [.opq (.nat (a)),.pad])] (.agg [.opq (.whole (sg m a)),.pad,.pad]):=by
 have HE:=Sr_all hP T1 hP.t1
 refine CSpec.conv (r:=.agg (wC (sg m a))) ?_ (.whole _)
 unfold wC
 rw [sg_abs,sg_neg]
 refine CSpec_go (E:=⟨T1,Sr⟩) (fn101 hP) HE hP.mix ?_
 cases m
 · simp only [go_sem,ha]
   exact .refl _
 · rcases Nat.eq_zero_or_pos a with h|h
   · subst h
     have hb:blen 0=0:=by decide
     simp only [go_sem,ha,hb]
     exact .refl _
   · have hb:0<blen a:=by
      have:blen a ≠ 0:=by rw [Ne,blen_zero_iff]; omega
      omega
     simp only [go_sem,ha,hb,h]
     exact .refl _
def wMakeS:List AV→Option (Prop × AV)
 | [.bool m,x]=>(rawN x).map fun a=>(a.1∧blen a.2≤68719476736,(.agg [.opq (.whole (sg m a.2)),.pad,.pad]))
 | _=>none
theorem wMakeS_eq (m x):wMakeS [.bool m,x]=(rawN x).map fun a=>(a.1∧blen a.2≤68719476736,(.agg [.opq (.whole (sg m a.2)),.pad,.pad])):=rfl
theorem wMakeS_ok (hP:PrgOk P) (args p r) (he:wMakeS args=some (p,r)) (hp:p):CSpec P 101 args r:=by
 unfold wMakeS at he
 split at he
 · simp only [Option.map_eq_some_iff,Prod.exists,Prod.mk.injEq] at he
   obtain ⟨q,a,h1,rfl,rfl⟩:=he
   exact (wMake_spec hP _ a hp.2).cv (.cons rfl (rawN_cv h1 hp.1 .nil))
 · simp at he
attribute [go_sem] wMakeS_eq
noncomputable def Wt0:Nat→List AV→Option (Prop × AV):=addS Sr 101 wMakeS
theorem Wt0_all (hP:PrgOk P) (T) (hT:TyOk P T):EnvOk P ⟨T,Wt0⟩:=((Sr_all hP T hT).add (wMakeS_ok hP))
theorem Wt0_at (f a):Wt0 f a=(addS Sr 101 wMakeS) f a:=rfl
attribute [go_sem] Wt0_at
def sgnZ (z:Int):Int:=if z=0 then 0 else if z<0 then -1 else 1
def cmpZ (a b:Int):Int:=if a<b then -1 else if b<a then 1 else 0
theorem wSign_spec (hP:PrgOk P) (z:Int) (h:wl z≤68719476736):CSpec P 91 [(.agg [.opq (.whole (z)),.pad,.pad])] (.int .i64 (sgnZ z)):=by
 have HE:=Wt0_all hP T1 hP.t1
 refine CSpec.cv ?_ (.wholeIn z .nil)
 unfold wC
 refine CSpec_go (E:=⟨T1,Wt0⟩) (fn91 hP) HE hP.mix ?_
 unfold sgnZ
 unfold wl at h
 by_cases h0:z=0
 · have hb:(blen z.natAbs == 0)=true:=beq_iff_eq.2 ((blen_zero_iff _).2 (by omega))
   rw [if_pos h0]
   simp only [go_sem,h,hb]
   exact .refl _
 · have hb:(blen z.natAbs == 0)=false:=beq_eq_false_iff_ne.2 fun e=>h0 (by have:=(blen_zero_iff _).1 e; omega)
   rw [if_neg h0]
   by_cases h1:z<0
   · rw [if_pos h1]
     simp only [go_sem,h,hb,h1]
     exact .refl _
   · rw [if_neg h1]
     simp only [go_sem,h,hb,h1]
     exact .refl _
def wSignS:List AV→Option (Prop × AV):=onW1 fun a=>(wl a≤68719476736,.int .i64 (sgnZ a))
theorem wSignS_ok (hP:PrgOk P) (args p r):wSignS args=some (p,r)→p→CSpec P 91 args r:=onW1_ok (fun a h=>by exact wSign_spec hP a h) args p r
attribute [go_sem] wSignS
theorem wAbs_spec (hP:PrgOk P) (z:Int):CSpec P 62 [(.agg [.opq (.whole (z)),.pad,.pad])] (.agg [.opq (.nat (z.natAbs)),.pad]):=by
 have HE:=Wt0_all hP T1 hP.t1
 refine CSpec.cv ?_ (.wholeIn z .nil)
 unfold wC
 refine CSpec_go (E:=⟨T1,Wt0⟩) (fn62 hP) HE hP.mix ?_
 simp only [go_sem]
 exact .refl _
def wAbsS:List AV→Option (Prop × AV):=onW1 fun a=>(True,(.agg [.opq (.nat (a.natAbs)),.pad]))
theorem wAbsS_ok (hP:PrgOk P) (args p r):wAbsS args=some (p,r)→p→CSpec P 62 args r:=onW1_ok (fun a _=>by exact wAbs_spec hP a) args p r
attribute [go_sem] wAbsS
theorem wOf_spec (hP:PrgOk P) (n:Int) (h1 : -9223372036854775808≤n) (h2:n≤9223372036854775807):CSpec P 56 [.int .i64 n] (.agg [.opq (.whole (n)),.pad,.pad]):=by
 have HE:=Wt0_all hP T1 hP.t1
 refine CSpec.conv (r:=.agg (wC n)) ?_ (.whole _)
 unfold wC
 refine CSpec_go (E:=⟨T1,Wt0⟩) (fn56 hP) HE hP.mix ?_
 by_cases h:n<0
 · have e1:IntKind.u64.wrap n=n+18446744073709551616:=by rw [IntKind.wrap_u64]; omega
   have e2:IntKind.u64.wrap (0-(n+18446744073709551616)) = -n:=by rw [IntKind.wrap_u64]; omega
   have e3:((0:Int)≤-n)=True:=eq_true (by omega)
   have e4:(-n<18446744073709551616)=True:=eq_true (by omega)
   have e5:(-n).toNat=n.natAbs:=by omega
   simp only [go_sem,h,e1,e2,e3,e4,e5]
   exact .refl _
 · have e1:IntKind.u64.wrap n=n:=by rw [IntKind.wrap_u64]; omega
   have e3:((0:Int)≤n)=True:=eq_true (by omega)
   have e4:(n<18446744073709551616)=True:=eq_true (by omega)
   have e5:n.toNat=n.natAbs:=by omega
   simp only [go_sem,h,e1,e3,e4,e5]
   exact .refl _
def wOfS:List AV→Option (Prop × AV)
 | [.int .i64 n]=>some (-9223372036854775808≤n∧n≤9223372036854775807,(.agg [.opq (.whole (n)),.pad,.pad]))
 | _=>none
theorem wOfS_ok (hP:PrgOk P) (args p r) (h:wOfS args=some (p,r)) (hp:p):CSpec P 56 args r:=by
 unfold wOfS at h
 split at h
 · simp only [Option.some.injEq,Prod.mk.injEq] at h
   obtain ⟨rfl,rfl⟩:=h
   exact wOf_spec hP _ hp.1 hp.2
 · simp at h
attribute [go_sem] wOfS
theorem wCmp_spec (hP:PrgOk P) (a b:Int) (ha:wl a≤68719476736) (hb:wl b≤68719476736):CSpec P 111 [(.agg [.opq (.whole (a)),.pad,.pad]),(.agg [.opq (.whole (b)),.pad,.pad])] (.int .i64 (cmpZ a b)):=by
 have HE:=Wt0_all hP T1 hP.t1
 refine CSpec.cv ?_ (.wholeIn a (.wholeIn b .nil))
 unfold wC
 unfold wl at ha hb
 refine CSpec_go (E:=⟨T1,Wt0⟩) (fn111 hP) HE hP.mix ?_
 by_cases h1:a<0
 · by_cases h2:b<0
   · have e:cmpZ a b=cmpI b.natAbs a.natAbs:=by
      unfold cmpZ cmpI; repeat' split
      all_goals omega
     simp only [go_sem,h1,h2,ha,hb]
     rw [e]; exact .refl _
   · have e:cmpZ a b = -1:=by unfold cmpZ; rw [if_pos (by omega)]
     simp only [go_sem,h1,h2,ha,hb]
     rw [e]; exact .refl _
 · by_cases h2:b<0
   · have e:cmpZ a b=1:=by unfold cmpZ; rw [if_neg (by omega),if_pos (by omega)]
     simp only [go_sem,h1,h2,ha,hb]
     rw [e]; exact .refl _
   · have e:cmpZ a b=cmpI a.natAbs b.natAbs:=by
      unfold cmpZ cmpI; repeat' split
      all_goals omega
     simp only [go_sem,h1,h2,ha,hb]
     rw [e]; exact .refl _
def wCmpS:List AV→Option (Prop × AV):=onW2 fun a b=>(wl a≤68719476736∧wl b≤68719476736,.int .i64 (cmpZ a b))
theorem wCmpS_ok (hP:PrgOk P) (args p r):wCmpS args=some (p,r)→p→CSpec P 111 args r:=onW2_ok (fun a b h=>by exact wCmp_spec hP a b h.1 h.2) args p r
attribute [go_sem] wCmpS
theorem wNeg_spec (hP:PrgOk P) (a:Int) (ha:wl a≤68719476736):CSpec P 110 [(.agg [.opq (.whole (a)),.pad,.pad])] (.agg [.opq (.whole (-a)),.pad,.pad]):=by
 have HE:=Wt0_all hP T1 hP.t1
 refine CSpec.cv ?_ (.wholeIn a .nil)
 unfold wC
 unfold wl at ha
 refine CSpec_go (E:=⟨T1,Wt0⟩) (fn110 hP) HE hP.mix ?_
 have e:sg (!decide (a<0)) a.natAbs = -a:=by
  by_cases h:a<0
  · rw [decide_eq_true h]; simp [sg]; omega
  · rw [decide_eq_false h]; simp [sg]; omega
 simp only [go_sem,ha,e]
 exact .refl _
def wNegS:List AV→Option (Prop × AV):=onW1 fun a=>(wl a≤68719476736,(.agg [.opq (.whole (-a)),.pad,.pad]))
theorem wNegS_ok (hP:PrgOk P) (args p r):wNegS args=some (p,r)→p→CSpec P 110 args r:=onW1_ok (fun a h=>by exact wNeg_spec hP a h) args p r
attribute [go_sem] wNegS
theorem wAdd_spec (hP:PrgOk P) (a b:Int) (ha:wl a≤34359738368) (hb:wl b≤34359738368):CSpec P 94 [(.agg [.opq (.whole (a)),.pad,.pad]),(.agg [.opq (.whole (b)),.pad,.pad])] (.agg [.opq (.whole (a+b)),.pad,.pad]):=by
 have HE:=Wt0_all hP T1 hP.t1
 refine CSpec.cv ?_ (.wholeIn a (.wholeIn b .nil))
 unfold wC
 unfold wl at ha hb
 have hs:=Nat.le_trans (blen_add_le ha hb) (show _≤68719476736 by decide)
 have ha':=Nat.le_trans ha (show _≤68719476736 by decide)
 have hb':=Nat.le_trans hb (show _≤68719476736 by decide)
 refine CSpec_go (E:=⟨T1,Wt0⟩) (fn94 hP) HE hP.mix ?_
 by_cases h1:a<0
 · by_cases h2:b<0
   · have e:sg true (a.natAbs+b.natAbs)=a+b:=by rw [sg_t]; omega
     simp only [go_sem,h1,h2,ha',hb',hs,e]
     exact .refl _
   · rcases Nat.lt_or_ge a.natAbs b.natAbs with h|h
     · have hc:cmpI a.natAbs b.natAbs = -1:=cmpI_lt h
       have hn:(b.natAbs<a.natAbs)=False:=eq_false (by omega)
       have hd:=Nat.le_trans (blen_mono (Nat.sub_le b.natAbs a.natAbs)) hb'
       have e:sg false (b.natAbs-a.natAbs)=a+b:=by rw [sg_f]; omega
       simp only [go_sem,h1,h2,ha',hb',hc,hn,hd,e]
       exact .refl _
     · have hc:decide (cmpI a.natAbs b.natAbs<0)=false:=cmp_ge h
       have hn:(a.natAbs<b.natAbs)=False:=eq_false (by omega)
       have hd:=Nat.le_trans (blen_mono (Nat.sub_le a.natAbs b.natAbs)) ha'
       have e:sg true (a.natAbs-b.natAbs)=a+b:=by rw [sg_t]; omega
       simp only [go_sem,h1,h2,ha',hb',hc,hn,hd,e]
       exact .refl _
 · by_cases h2:b<0
   · rcases Nat.lt_or_ge a.natAbs b.natAbs with h|h
     · have hc:cmpI a.natAbs b.natAbs = -1:=cmpI_lt h
       have hn:(b.natAbs<a.natAbs)=False:=eq_false (by omega)
       have hd:=Nat.le_trans (blen_mono (Nat.sub_le b.natAbs a.natAbs)) hb'
       have e:sg true (b.natAbs-a.natAbs)=a+b:=by rw [sg_t]; omega
       simp only [go_sem,h1,h2,ha',hb',hc,hn,hd,e]
       exact .refl _
     · have hc:decide (cmpI a.natAbs b.natAbs<0)=false:=cmp_ge h
       have hn:(a.natAbs<b.natAbs)=False:=eq_false (by omega)
       have hd:=Nat.le_trans (blen_mono (Nat.sub_le a.natAbs b.natAbs)) ha'
       have e:sg false (a.natAbs-b.natAbs)=a+b:=by rw [sg_f]; omega
       simp only [go_sem,h1,h2,ha',hb',hc,hn,hd,e]
       exact .refl _
   · have e:sg false (a.natAbs+b.natAbs)=a+b:=by rw [sg_f]; omega
     simp only [go_sem,h1,h2,ha',hb',hs,e]
     exact .refl _
def wAddS:List AV→Option (Prop × AV):=onW2 fun a b=>(wl a≤34359738368∧wl b≤34359738368,(.agg [.opq (.whole (a+b)),.pad,.pad]))
theorem wAddS_ok (hP:PrgOk P) (args p r):wAddS args=some (p,r)→p→CSpec P 94 args r:=onW2_ok (fun a b h=>by exact wAdd_spec hP a b h.1 h.2) args p r
attribute [go_sem] wAddS
noncomputable def Wt1:Nat→List AV→Option (Prop × AV):=addS (addS (addS (addS (addS (addS Wt0 91 wSignS) 62 wAbsS) 56 wOfS) 111 wCmpS) 110 wNegS) 94 wAddS
theorem Wt1_all (hP:PrgOk P) (T) (hT:TyOk P T):EnvOk P ⟨T,Wt1⟩:=(((((((Wt0_all hP T hT).add (wSignS_ok hP)).add (wAbsS_ok hP)).add (wOfS_ok hP)).add (wCmpS_ok hP)).add (wNegS_ok hP)).add (wAddS_ok hP))
theorem Wt1_at (f a):Wt1 f a=(addS (addS (addS (addS (addS (addS Wt0 91 wSignS) 62 wAbsS) 56 wOfS) 111 wCmpS) 110 wNegS) 94 wAddS) f a:=rfl
attribute [go_sem] Wt1_at
theorem wl_neg (a:Int):wl (-a)=wl a:=by unfold wl; rw [Int.natAbs_neg]
theorem wSub_spec (hP:PrgOk P) (a b:Int) (ha:wl a≤34359738368) (hb:wl b≤34359738368):CSpec P 109 [(.agg [.opq (.whole (a)),.pad,.pad]),(.agg [.opq (.whole (b)),.pad,.pad])] (.agg [.opq (.whole (a-b)),.pad,.pad]):=by
 have HE:=Wt1_all hP T2 hP.t2
 have hb':=Nat.le_trans hb (show _≤68719476736 by decide)
 have e:a + -b=a-b:=rfl
 unfold wl at ha hb hb'
 refine CSpec_go (E:=⟨T2,Wt1⟩) (fn109 hP) HE hP.mix ?_
 simp only [go_sem,ha,hb,hb',wl,Int.natAbs_neg,e]
 exact .refl _
def wSubS:List AV→Option (Prop × AV):=onW2 fun a b=>(wl a≤34359738368∧wl b≤34359738368,(.agg [.opq (.whole (a-b)),.pad,.pad]))
theorem wSubS_ok (hP:PrgOk P) (args p r):wSubS args=some (p,r)→p→CSpec P 109 args r:=onW2_ok (fun a b h=>by exact wSub_spec hP a b h.1 h.2) args p r
attribute [go_sem] wSubS
theorem sg_mul (a b:Int):sg (!(decide (a<0) == decide (b<0))) (a.natAbs*b.natAbs)=a*b:=by
 rw [← Int.natAbs_mul]
 have ha:=sg_of a
 have hb:=sg_of b
 unfold sg at *
 by_cases h1:a<0<;>by_cases h2:b<0
 · have:=Int.mul_pos_of_neg_of_neg h1 h2; simp [h1,h2]; omega
 · have:=Int.mul_nonpos_of_nonpos_of_nonneg (Int.le_of_lt h1) (Int.not_lt.1 h2); simp [h1,h2]; omega
 · have:=Int.mul_nonpos_of_nonneg_of_nonpos (Int.not_lt.1 h1) (Int.le_of_lt h2); simp [h1,h2]; omega
 · have:=Int.mul_nonneg (Int.not_lt.1 h1) (Int.not_lt.1 h2); simp [h1,h2]; omega
theorem wMul_spec (hP:PrgOk P) (a b:Int) (ha:wl a≤34359738368) (hb:wl b≤34359738368):CSpec P 59 [(.agg [.opq (.whole (a)),.pad,.pad]),(.agg [.opq (.whole (b)),.pad,.pad])] (.agg [.opq (.whole (a*b)),.pad,.pad]):=by
 have HE:=Wt1_all hP T1 hP.t1
 refine CSpec.cv ?_ (.wholeIn a (.wholeIn b .nil))
 unfold wC
 unfold wl at ha hb
 have hs:=Nat.le_trans (blen_mul_le ha hb) (show _≤68719476736 by decide)
 have ha':=Nat.le_trans ha (show _≤68719476736 by decide)
 have hb':=Nat.le_trans hb (show _≤68719476736 by decide)
 refine CSpec_go (E:=⟨T1,Wt1⟩) (fn59 hP) HE hP.mix ?_
 simp only [go_sem,ha',hb',hs,sg_mul]
 exact .refl _
def wMulS:List AV→Option (Prop × AV):=onW2 fun a b=>(wl a≤34359738368∧wl b≤34359738368,(.agg [.opq (.whole (a*b)),.pad,.pad]))
theorem wMulS_ok (hP:PrgOk P) (args p r):wMulS args=some (p,r)→p→CSpec P 59 args r:=onW2_ok (fun a b h=>by exact wMul_spec hP a b h.1 h.2) args p r
attribute [go_sem] wMulS
noncomputable def Wt2:Nat→List AV→Option (Prop × AV):=addS (addS Wt1 109 wSubS) 59 wMulS
theorem Wt2_all (hP:PrgOk P) (T) (hT:TyOk P T):EnvOk P ⟨T,Wt2⟩:=(((Wt1_all hP T hT).add (wSubS_ok hP)).add (wMulS_ok hP))
theorem Wt2_at (f a):Wt2 f a=(addS (addS Wt1 109 wSubS) 59 wMulS) f a:=rfl
attribute [go_sem] Wt2_at
def itS (z:Int):ByteArray:=if z<0 then ⟨#[45]⟩++decS z.natAbs else decS z.natAbs
theorem decS_size (a:Nat):(decS a).size=(decL a).length:=by unfold decS; rw [bytesS_size,List.length_map]
theorem bl_inj {s t:ByteArray} (h:bl s=bl t):s=t:=by rw [← bytesS_bl s,← bytesS_bl t,h]
theorem sg_zero (m:Bool):sg m 0=0:=by cases m<;>rfl
noncomputable def Wt3:Nat→List AV→Option (Prop × AV):=Wt2
theorem Wt3_all (hP:PrgOk P) (T) (hT:TyOk P T):EnvOk P ⟨T,Wt3⟩:=(Wt2_all hP T hT)
attribute [go_sem] Wt3
theorem bl_app (s t:ByteArray):bl (s++t)=bl s++bl t:=by
 simp [bl,ByteArray.data_append]
theorem bl_itS (z:Int):bl (itS z)=if z<0 then 45::decL z.natAbs else decL z.natAbs:=by
 unfold itS; split
 · rw [bl_app,bl_decS]; rfl
 · exact bl_decS _
theorem wl_add {a b:Int} {n m:Nat} (h:wl a≤n) (h':wl b≤m):wl (a+b)≤n+m+1:=by
 unfold wl at *
 rw [blen_le_iff] at *
 have h1:(a+b).natAbs≤a.natAbs+b.natAbs:=Int.natAbs_add_le a b
 have e1:2^n≤2^(n+m):=Nat.pow_le_pow_right (by decide) (by omega)
 have e2:2^m≤2^(n+m):=Nat.pow_le_pow_right (by decide) (by omega)
 rw [Nat.pow_succ]; omega
theorem wl_sub {a b:Int} {n m:Nat} (h:wl a≤n) (h':wl b≤m):wl (a-b)≤n+m+1:=by
 have:=wl_add h (show wl (-b)≤m by rw [wl_neg]; exact h')
 exact this
theorem wl_mul {a b:Int} {n m:Nat} (h:wl a≤n) (h':wl b≤m):wl (a*b)≤n+m:=by
 unfold wl at *
 rw [Int.natAbs_mul]; exact blen_mul_le h h'
theorem wl_neg' {a:Int} {n:Nat} (h:wl a≤n):wl (-a)≤n:=by rw [wl_neg]; exact h
theorem itS_len {z:Int} {n:Nat} (h:wl z≤n):(bl (itS z)).length≤n+2:=by
 rw [bl_itS]
 have:=decL_len z.natAbs
 unfold wl at h
 split<;>simp<;>omega
end Go.Proofs.YtapddfjimhohcaaGreatDoor.AM
/- Fractions: plain facts. -/

namespace Go.Proofs.YtapddfjimhohcaaGreatDoor.AM
set_option linter.all false
set_option autoImplicit true
set_option relaxedAutoImplicit true
open Go Go.Proofs
set_option maxRecDepth 100000
def fl (q:Rat):Nat:=max (wl q.num) (blen q.den)
theorem fl_le {q:Rat} {n:Nat}:fl q≤n ↔ wl q.num≤n∧blen q.den≤n:=by unfold fl; exact Nat.max_le
theorem mk_num {z:Int} {d:Nat} (hd:0<d):(mkRat z d).num=sg (decide (z<0)) (z.natAbs / Nat.gcd z.natAbs d):=by
 rw [Rat.num_mkRat,if_neg (by omega),Nat.gcd_comm d]
 have hg:0<Nat.gcd z.natAbs d:=Nat.gcd_pos_of_pos_right _ hd
 have e:=Nat.div_mul_cancel (Nat.gcd_dvd_left z.natAbs d)
 refine Int.ediv_eq_of_eq_mul_left (by omega) ?_
 have hz:=sg_of z
 by_cases h:z<0
 · rw [decide_eq_true h,sg_t] at *
   rw [Int.neg_mul,← Int.natCast_mul,e]; exact hz.symm
 · rw [decide_eq_false h,sg_f] at *
   rw [← Int.natCast_mul,e]; exact hz.symm
theorem mk_den {z:Int} {d:Nat} (hd:0<d):(mkRat z d).den=d / Nat.gcd z.natAbs d:=by
 rw [Rat.den_mkRat,if_neg (by omega),Nat.gcd_comm]
theorem mk_one (z:Int):(mkRat z 1).num=z∧(mkRat z 1).den=1:=by
 rw [mk_num (by decide),mk_den (by decide),Nat.gcd_one_right,Nat.div_one]
 exact ⟨sg_of z,rfl⟩
theorem mk_int (z:Int):mkRat z 1=(z:Rat):=by
 apply Rat.ext
 · rw [(mk_one z).1]; rfl
 · rw [(mk_one z).2]; rfl
theorem fl_mk {z:Int} {d n:Nat} (hz:wl z≤n) (hd:blen d≤n) (h0:0<d):fl (mkRat z d)≤n:=by
 rw [fl_le,mk_num h0,mk_den h0]
 refine ⟨?_,blen_le_of (Nat.div_le_self _ _) hd⟩
 unfold wl; rw [sg_abs]; exact blen_le_of (Nat.div_le_self _ _) hz
theorem den_pos (q:Rat):0<q.den:=q.den_pos
theorem den_eq (q:Rat):q.den-1+1=q.den:=by have:=q.den_pos; omega
theorem q_self (q:Rat):mkRat q.num q.den=q:=Rat.mkRat_self q
theorem q_gcd (q:Rat):Nat.gcd q.num.natAbs q.den=1:=q.reduced
theorem add_mk (a b:Rat):a+b=mkRat (a.num*b.den+b.num*a.den) (a.den*b.den):=by rw [Rat.add_def,Rat.normalize_eq_mkRat]
theorem sub_mk (a b:Rat):a-b=mkRat (a.num*b.den-b.num*a.den) (a.den*b.den):=by rw [Rat.sub_def,Rat.normalize_eq_mkRat]
theorem mul_mk (a b:Rat):a*b=mkRat (a.num*b.num) (a.den*b.den):=by rw [Rat.mul_def,Rat.normalize_eq_mkRat]
theorem neg_nd (a:Rat):(-a).num = -a.num∧(-a).den=a.den:=⟨rfl,rfl⟩
theorem div_mk {a b:Rat} (hb:b.num ≠ 0):a / b=mkRat (a.num*sgnZ b.num*b.den) (a.den*b.num.natAbs):=by
 have hb0:b ≠ 0:=fun h=>hb (by rw [h]; rfl)
 have hd:a.den*b.num.natAbs ≠ 0:=Nat.mul_ne_zero a.den_nz (by omega)
 have e:a / b*b=a:=Rat.div_mul_cancel hb0
 have key:mkRat (a.num*sgnZ b.num*b.den) (a.den*b.num.natAbs)*b=a:=by
  have hs:sgnZ b.num*b.num=(b.num.natAbs:Int):=by
   rcases Int.lt_trichotomy b.num 0 with h|h|h
   · rw [show sgnZ b.num = -1 by unfold sgnZ; rw [if_neg (by omega),if_pos h]]; omega
   · exact absurd h hb
   · rw [show sgnZ b.num=1 by unfold sgnZ; rw [if_neg (by omega),if_neg (by omega)]]; omega
  conv=>lhs; rhs; rw [← q_self b]
  conv=>rhs; rw [← q_self a]
  rw [Rat.mkRat_mul_mkRat,Rat.mkRat_eq_iff (Nat.mul_ne_zero hd b.den_nz) a.den_nz]
  have:a.num*sgnZ b.num*↑b.den*b.num*(a.den:Int)=a.num*(sgnZ b.num*b.num)*↑b.den*↑a.den:=by grind
  rw [this,hs,Int.natCast_mul,Int.natCast_mul]; grind
 have h2:a / b*b=mkRat (a.num*sgnZ b.num*b.den) (a.den*b.num.natAbs)*b:=by rw [e,key]
 generalize mkRat (a.num*sgnZ b.num*b.den) (a.den*b.num.natAbs)=c at *
 generalize a / b=d at *
 have h3:(d-c)*b=0:=by grind
 rcases Rat.mul_eq_zero.1 h3 with h|h
 · grind
 · exact absurd h hb0
def cmpQ (a b:Rat):Int:=if a<b then -1 else if b<a then 1 else 0
theorem cmpQ_mk (a b:Rat):cmpQ a b=cmpZ (a.num*b.den) (b.num*a.den):=by
 unfold cmpQ cmpZ
 simp only [Rat.lt_iff]
theorem sgn_cmp (q:Rat):sgnZ q.num=cmpQ q 0:=by
 rw [cmpQ_mk]
 show _=cmpZ (q.num*1) (0*q.den)
 rw [Int.mul_one,Int.zero_mul]
 unfold sgnZ cmpZ; repeat' split
 all_goals first|rfl|omega
theorem num_zero {q:Rat}:q.num=0 ↔ q=0:=Rat.num_eq_zero
theorem wl_add2 {a b:Int} {n:Nat} (h:wl a≤n) (h':wl b≤n):wl (a+b)≤n+1:=by
 unfold wl at *
 rw [blen_le_iff] at *
 have h1:(a+b).natAbs≤a.natAbs+b.natAbs:=Int.natAbs_add_le a b
 rw [Nat.pow_succ]; omega
theorem fl_add {a b:Rat} {n m:Nat} (h:fl a≤n) (h':fl b≤m):fl (a+b)≤n+m+1:=by
 rw [fl_le] at h h'
 rw [add_mk]
 refine fl_mk ?_ ?_ (Nat.mul_pos a.den_pos b.den_pos)
 · have h1:=wl_mul h.1 (show wl (b.den:Int)≤m from h'.2)
   have h2:=wl_mul h'.1 (show wl (a.den:Int)≤n from h.2)
   exact wl_add2 h1 (Nat.le_trans h2 (by omega))
 · exact Nat.le_trans (blen_mul_le h.2 h'.2) (by omega)
theorem fl_neg {a:Rat} {n:Nat} (h:fl a≤n):fl (-a)≤n:=by
 rw [fl_le] at *
 exact ⟨by rw [(neg_nd a).1,wl_neg]; exact h.1,h.2⟩
theorem fl_sub {a b:Rat} {n m:Nat} (h:fl a≤n) (h':fl b≤m):fl (a-b)≤n+m+1:=by
 rw [Rat.sub_eq_add_neg]; exact fl_add h (fl_neg h')
theorem fl_mul {a b:Rat} {n m:Nat} (h:fl a≤n) (h':fl b≤m):fl (a*b)≤n+m:=by
 rw [fl_le] at h h'
 rw [mul_mk]
 exact fl_mk (wl_mul h.1 h'.1) (blen_mul_le h.2 h'.2) (Nat.mul_pos a.den_pos b.den_pos)
theorem wl_sgn (z:Int):wl (sgnZ z)≤1:=by
 unfold sgnZ
 split
 · exact Nat.le_of_ble_eq_true rfl
 · split<;>exact Nat.le_of_ble_eq_true rfl
theorem fl_div {a b:Rat} {n m:Nat} (h:fl a≤n) (h':fl b≤m):fl (a / b)≤n+m+1:=by
 rw [fl_le] at h h'
 by_cases hb:b.num=0
 · rw [num_zero.1 hb,Rat.div_def,Rat.inv_zero,Rat.mul_zero]
   exact fl_le.2 ⟨Nat.le_trans (Nat.le_of_ble_eq_true rfl:wl (0:Rat).num≤0) (by omega),Nat.le_trans (Nat.le_of_ble_eq_true rfl:blen (0:Rat).den≤1) (by omega)⟩
 · rw [div_mk hb]
   refine fl_mk ?_ ?_ (Nat.mul_pos a.den_pos (by omega))
   · exact Nat.le_trans (wl_mul (wl_mul h.1 (wl_sgn _)) (show wl (b.den:Int)≤m from h'.2)) (by omega)
   · exact Nat.le_trans (blen_mul_le h.2 h'.1) (by omega)
theorem fl_int {z:Int} {n:Nat} (h:wl z≤n) (hn:1≤n):fl (z:Rat)≤n:=fl_le.2 ⟨h,Nat.le_trans (Nat.le_of_ble_eq_true rfl:blen 1≤1) hn⟩
theorem qo_ex:∃ x:(Rat→Rat→Rat) × (Rat→Rat→Rat) × (Rat→Rat→Rat) × (Rat→Rat→Rat) × (Int→Nat→Rat) × (Rat→Rat),x=((·+·),(·-·),(·*·),(· / ·),mkRat,(- ·)):=⟨_,rfl⟩
noncomputable def qo:(Rat→Rat→Rat) × (Rat→Rat→Rat) × (Rat→Rat→Rat) × (Rat→Rat→Rat) × (Int→Nat→Rat) × (Rat→Rat):=Classical.choose qo_ex
theorem qo_eq:qo=((·+·),(·-·),(·*·),(· / ·),mkRat,(- ·)):=Classical.choose_spec qo_ex
noncomputable def qadd (a b:Rat):Rat:=qo.1 a b
noncomputable def qsub (a b:Rat):Rat:=qo.2.1 a b
noncomputable def qmul (a b:Rat):Rat:=qo.2.2.1 a b
noncomputable def qdiv (a b:Rat):Rat:=qo.2.2.2.1 a b
noncomputable def qlow (z:Int) (d:Nat):Rat:=qo.2.2.2.2.1 z d
noncomputable def qneg (a:Rat):Rat:=qo.2.2.2.2.2 a
theorem qadd_eq (a b):qadd a b=a+b:=by unfold qadd; rw [qo_eq]
theorem qsub_eq (a b):qsub a b=a-b:=by unfold qsub; rw [qo_eq]
theorem qmul_eq (a b):qmul a b=a*b:=by unfold qmul; rw [qo_eq]
theorem qdiv_eq (a b):qdiv a b=a / b:=by unfold qdiv; rw [qo_eq]
theorem qlow_eq (z d):qlow z d=mkRat z d:=by unfold qlow; rw [qo_eq]
theorem qneg_eq (a):qneg a = -a:=by unfold qneg; rw [qo_eq]
theorem fl_qadd {a b:Rat} {n m:Nat} (h:fl a≤n) (h':fl b≤m):fl (qadd a b)≤n+m+1:=qadd_eq a b ▸ fl_add h h'
theorem fl_qsub {a b:Rat} {n m:Nat} (h:fl a≤n) (h':fl b≤m):fl (qsub a b)≤n+m+1:=qsub_eq a b ▸ fl_sub h h'
theorem fl_qmul {a b:Rat} {n m:Nat} (h:fl a≤n) (h':fl b≤m):fl (qmul a b)≤n+m:=qmul_eq a b ▸ fl_mul h h'
theorem fl_qdiv {a b:Rat} {n m:Nat} (h:fl a≤n) (h':fl b≤m):fl (qdiv a b)≤n+m+1:=qdiv_eq a b ▸ fl_div h h'
theorem fl_qneg {a:Rat} {n:Nat} (h:fl a≤n):fl (qneg a)≤n:=qneg_eq a ▸ fl_neg h
def qtS (q:Rat):ByteArray:=if q.den=1 then itS q.num else itS q.num++⟨#[47]⟩++decS q.den
abbrev V3:=Rat × Rat × Rat
def pick (p:Nat) (a:V3):Rat:=if p=0 then a.1 else if p=1 then a.2.1 else a.2.2
theorem pick0 (a:V3):pick 0 a=a.1:=rfl
theorem pick1 (a:V3):pick 1 a=a.2.1:=rfl
theorem pick2 (a:V3):pick 2 a=a.2.2:=rfl
def vsc (k:Rat) (a:V3):V3:=(k*a.1,k*a.2.1,k*a.2.2)
def vad (a b:V3):V3:=(a.1+b.1,a.2.1+b.2.1,a.2.2+b.2.2)
def vsb (a b:V3):V3:=(a.1-b.1,a.2.1-b.2.1,a.2.2-b.2.2)
def vcr (a b:V3):V3:=(a.2.1*b.2.2-a.2.2*b.2.1,a.2.2*b.1-a.1*b.2.2,a.1*b.2.1-a.2.1*b.1)
def vdt (a b:V3):Rat:=a.1*b.1+a.2.1*b.2.1+a.2.2*b.2.2
def vdet (a b c:V3):Rat:=vdt a (vcr b c)
def v0:V3:=(0,0,0)
theorem v3_ext {a b:V3} (h1:a.1=b.1) (h2:a.2.1=b.2.1) (h3:a.2.2=b.2.2):a=b:=Prod.ext h1 (Prod.ext h2 h3)
theorem v0_iff (a:V3):a=v0 ↔ a.1=0∧a.2.1=0∧a.2.2=0:=⟨fun h=>by rw [h]; exact ⟨rfl,rfl,rfl⟩,fun h=>v3_ext h.1 h.2.1 h.2.2⟩
def nzP (a:V3):Option Nat:=if a.1 ≠ 0 then some 0 else if a.2.1 ≠ 0 then some 1 else if a.2.2 ≠ 0 then some 2 else none
theorem nz_none {a:V3} (h:nzP a=none):a=v0:=by
 unfold nzP at h
 by_cases h1:a.1=0
 · by_cases h2:a.2.1=0
   · by_cases h3:a.2.2=0
     · exact (v0_iff a).2 ⟨h1,h2,h3⟩
     · simp [h1,h2,h3] at h
   · simp [h1,h2] at h
 · simp [h1] at h
theorem nz_some {a:V3} {p:Nat} (h:nzP a=some p):pick p a ≠ 0∧p<3:=by
 unfold nzP at h
 by_cases h1:a.1=0
 · by_cases h2:a.2.1=0
   · by_cases h3:a.2.2=0
     · simp [h1,h2,h3] at h
     · simp [h1,h2,h3] at h; subst h; exact ⟨h3,by decide⟩
   · simp [h1,h2] at h; subst h; exact ⟨h2,by decide⟩
 · simp [h1] at h; subst h; exact ⟨h1,by decide⟩
theorem pick_sc (p:Nat) (k:Rat) (a:V3):pick p (vsc k a)=k*pick p a:=by
 unfold pick vsc; split
 · rfl
 · split<;>rfl
theorem pick_sb (p:Nat) (a b:V3):pick p (vsb a b)=pick p a-pick p b:=by
 unfold pick vsb; split
 · rfl
 · split<;>rfl
def red1 (r:V3) (p:Nat) (a:V3):V3:=vsb (vsc (pick p r) a) (vsc (pick p a) r)
theorem red1_p (r p a):pick p (red1 r p a)=0:=by
 unfold red1; rw [pick_sb,pick_sc,pick_sc]; grind
theorem mul_nz {a b:Rat} (ha:a ≠ 0) (hb:b ≠ 0):a*b ≠ 0:=fun h=>by
 rcases Rat.mul_eq_zero.1 h with h|h
 · exact ha h
 · exact hb h
theorem nz_of_mul {a b:Rat} (h:a*b ≠ 0):a ≠ 0∧b ≠ 0:=⟨fun e=>h (by rw [e,Rat.zero_mul]),fun e=>h (by rw [e,Rat.mul_zero])⟩
theorem zero_of_mul {a b:Rat} (ha:a ≠ 0) (h:a*b=0):b=0:=by
 rcases Rat.mul_eq_zero.1 h with h|h
 · exact absurd h ha
 · exact h
theorem cr_zero {a b:V3}:vcr a b=v0 ↔ a.2.1*b.2.2-a.2.2*b.2.1=0∧a.2.2*b.1-a.1*b.2.2=0∧a.1*b.2.1-a.2.1*b.1=0:=v0_iff _
theorem red_zero {r a:V3} {p:Nat} (hr:pick p r ≠ 0) (h:red1 r p a=v0):vcr a r=v0:=by
 have h':=(v0_iff _).1 h
 obtain ⟨h1,h2,h3⟩:=h'
 unfold red1 vsb vsc at h1 h2 h3
 simp only [] at h1 h2 h3
 rw [cr_zero]
 generalize hk:pick p r=k at *
 generalize pick p a=l at *
 refine ⟨zero_of_mul hr ?_,zero_of_mul hr ?_,zero_of_mul hr ?_⟩<;>grind
theorem cr_red (r a:V3) (p:Nat) (k:Rat):vcr r (vsc k (red1 r p a))=vsc (k*pick p r) (vcr r a):=by
 unfold red1 vsb vsc vcr
 generalize pick p r=x
 generalize pick p a=y
 refine v3_ext ?_ ?_ ?_<;>(simp only []; grind)
theorem cr_sc (k:Rat) (a b:V3):vcr (vsc k a) b=vsc k (vcr a b):=by
 unfold vsc vcr; refine v3_ext ?_ ?_ ?_<;>(simp only []; grind)
theorem sc_sc (k l:Rat) (a:V3):vsc k (vsc l a)=vsc (k*l) a:=by
 unfold vsc; refine v3_ext ?_ ?_ ?_<;>(simp only []; grind)
theorem dt_sc (k:Rat) (a b:V3):vdt a (vsc k b)=k*vdt a b:=by unfold vsc vdt; simp only []; grind
theorem dt_cr_self (a r:V3):vdt a (vcr r a)=0:=by unfold vdt vcr; simp only []; grind
theorem dt_par {b r s:V3} (h:vcr b r=v0):vdt b (vcr r s)=0:=by
 obtain ⟨h1,h2,h3⟩:=cr_zero.1 h
 unfold vdt vcr; simp only []; grind
theorem cr_zl (b:V3):vcr v0 b=v0:=by rw [cr_zero]; unfold v0; simp only []; refine ⟨?_,?_,?_⟩<;>grind
theorem cr_self (k:Rat) (a:V3):vcr a (vsc k a)=v0:=by rw [cr_zero]; unfold vsc; simp only []; refine ⟨?_,?_,?_⟩<;>grind
theorem third {r s a:V3} {p q:Nat} (hp:p<3) (hq:q<3) (hr:pick p r ≠ 0) (hs:pick q s ≠ 0) (h0:pick p s=0) (hn:red1 s q (red1 r p a) ≠ v0):vdt a (vcr r s) ≠ 0:=by
 intro hd
 have hpq:p ≠ q:=fun e=>hs (e ▸ h0)
 have e1:pick p (red1 s q (red1 r p a))=0:=by
  unfold red1; rw [pick_sb,pick_sc,pick_sc,pick_sb,pick_sc,pick_sc,h0]; grind
 have e2:=red1_p s q (red1 r p a)
 have key:vdt (red1 s q (red1 r p a)) (vcr r s)=pick q s*pick p r*vdt a (vcr r s):=by
  unfold red1 vsb vsc vdt vcr
  simp only []
  generalize pick q s=x
  generalize pick p r=y
  generalize pick p a=z
  generalize pick q _=w
  grind
 rw [hd,Rat.mul_zero] at key
 generalize red1 s q (red1 r p a)=b at *
 refine hn ((v0_iff _).2 ?_)
 unfold vdt vcr at key
 simp only [] at key
 rcases (show p=0∨p=1∨p=2 by omega) with rfl|rfl|rfl<;>rcases (show q=0∨q=1∨q=2 by omega) with rfl|rfl|rfl<;>first|exact absurd rfl hpq|skip
 all_goals simp only [pick0,pick1,pick2] at e1 e2 hr hs h0
 all_goals rw [e1,e2] at key
 all_goals rw [h0] at key
 · exact ⟨e1,e2,zero_of_mul (mul_nz hr hs) (by grind)⟩
 · exact ⟨e1,zero_of_mul (mul_nz hr hs) (by grind),e2⟩
 · exact ⟨e2,e1,zero_of_mul (mul_nz hr hs) (by grind)⟩
 · exact ⟨zero_of_mul (mul_nz hr hs) (by grind),e1,e2⟩
 · exact ⟨e2,zero_of_mul (mul_nz hr hs) (by grind),e1⟩
 · exact ⟨zero_of_mul (mul_nz hr hs) (by grind),e2,e1⟩
def Rk (l:List V3) (n:Nat):Prop :=
 (n=0∧∀ a ∈ l,a=v0) ∨
 (n=1∧(∃ a ∈ l,a ≠ v0)∧∀ a ∈ l,∀ b ∈ l,vcr a b=v0) ∨
 (n=2∧(∃ a ∈ l,∃ b ∈ l,vcr a b ≠ v0)∧∀ a ∈ l,∀ b ∈ l,∀ c ∈ l,vdet a b c=0) ∨
 (n=3∧∃ a ∈ l,∃ b ∈ l,∃ c ∈ l,vdet a b c ≠ 0)
theorem det_cr {a b c:V3} (h:vdet a b c ≠ 0):vcr b c ≠ v0:=fun e=>h (by unfold vdet; rw [e]; unfold vdt v0; simp only []; grind)
theorem cr_nz {a b:V3} (h:vcr a b ≠ v0):a ≠ v0:=fun e=>h (by rw [e]; exact cr_zl b)
theorem Rk.uniq {l:List V3} {n m:Nat} (h:Rk l n) (h':Rk l m):n=m:=by
 rcases h with ⟨rfl,h⟩|⟨rfl,⟨a,ha,h1⟩,h⟩|⟨rfl,⟨a,ha,b,hb,h1⟩,h⟩|⟨rfl,a,ha,b,hb,c,hc,h⟩ <;>
 rcases h' with ⟨rfl,k⟩|⟨rfl,⟨x,hx,k1⟩,k⟩|⟨rfl,⟨x,hx,y,hy,k1⟩,k⟩|⟨rfl,x,hx,y,hy,z,hz,k⟩
 all_goals first
  | rfl
  | exact absurd (h _ hx) k1
  | exact absurd (h _ hx) (cr_nz k1)
  | exact absurd (h _ hy) (cr_nz (det_cr k))
  | exact absurd (k _ ha) h1
  | exact absurd (h _ hx _ hy) k1
  | exact absurd (h _ hy _ hz) (det_cr k)
  | exact absurd (k _ ha) (cr_nz h1)
  | exact absurd (k _ ha _ hb) h1
  | exact absurd (h _ hx _ hy _ hz) k
  | exact absurd (k _ hb) (cr_nz (det_cr h))
  | exact absurd (k _ hb _ hc) (det_cr h)
  | exact absurd (k _ ha _ hb _ hc) h
def redA (rows:List (V3 × Nat)) (a:V3):V3:=rows.foldl (fun b r=>red1 r.1 r.2 b) a
def stepR (dir:V3→V3):List V3→List (V3 × Nat)→Nat
 | [],rows=>rows.length
 | a::l,rows=>match nzP (redA rows a) with
   | none=>stepR dir l rows
   | some p=>if rows.length+1=3 then 3 else stepR dir l (rows++[(dir (redA rows a),p)])
theorem nz_rat {x y:Rat} (hx:x ≠ 0) (h:x*y=0):y=0:=zero_of_mul hx h
theorem det_perp {n a b c:V3} (hn:n ≠ v0) (ha:vdt a n=0) (hb:vdt b n=0) (hc:vdt c n=0):vdet a b c=0:=by
 have h1:n.1*vdet a b c=0:=by
  have:n.1*vdet a b c=vdt a n*(vcr b c).1+vdt b n*(vcr c a).1+vdt c n*(vcr a b).1:=by
   unfold vdet vdt vcr; simp only []; grind
  rw [this,ha,hb,hc]; grind
 have h2:n.2.1*vdet a b c=0:=by
  have:n.2.1*vdet a b c=vdt a n*(vcr b c).2.1+vdt b n*(vcr c a).2.1+vdt c n*(vcr a b).2.1:=by
   unfold vdet vdt vcr; simp only []; grind
  rw [this,ha,hb,hc]; grind
 have h3:n.2.2*vdet a b c=0:=by
  have:n.2.2*vdet a b c=vdt a n*(vcr b c).2.2+vdt b n*(vcr c a).2.2+vdt c n*(vcr a b).2.2:=by
   unfold vdet vdt vcr; simp only []; grind
  rw [this,ha,hb,hc]; grind
 by_cases e1:n.1=0
 · by_cases e2:n.2.1=0
   · by_cases e3:n.2.2=0
     · exact absurd ((v0_iff n).2 ⟨e1,e2,e3⟩) hn
     · exact nz_rat e3 h3
   · exact nz_rat e2 h2
 · exact nz_rat e1 h1
theorem par_trans {r a b:V3} (hr:r ≠ v0) (ha:vcr a r=v0) (hb:vcr b r=v0):vcr a b=v0:=by
 obtain ⟨a1,a2,a3⟩:=cr_zero.1 ha
 obtain ⟨b1,b2,b3⟩:=cr_zero.1 hb
 rw [cr_zero]
 by_cases e1:r.1=0
 · by_cases e2:r.2.1=0
   · by_cases e3:r.2.2=0
     · exact absurd ((v0_iff r).2 ⟨e1,e2,e3⟩) hr
     · refine ⟨nz_rat e3 ?_,nz_rat e3 ?_,nz_rat e3 ?_⟩<;>grind
   · refine ⟨nz_rat e2 ?_,nz_rat e2 ?_,nz_rat e2 ?_⟩<;>grind
 · refine ⟨nz_rat e1 ?_,nz_rat e1 ?_,nz_rat e1 ?_⟩<;>grind
theorem rs_nz {r s:V3} {p q:Nat} (hp:p<3) (hq:q<3) (hr:pick p r ≠ 0) (hs:pick q s ≠ 0) (h0:pick p s=0):vcr r s ≠ v0:=by
 intro h
 obtain ⟨h1,h2,h3⟩:=cr_zero.1 h
 have hpq:p ≠ q:=fun e=>hs (e ▸ h0)
 rcases (show p=0∨p=1∨p=2 by omega) with rfl|rfl|rfl<;>rcases (show q=0∨q=1∨q=2 by omega) with rfl|rfl|rfl<;>first|exact absurd rfl hpq|skip
 all_goals simp only [pick0,pick1,pick2] at hr hs h0
 all_goals exact mul_nz hr hs (by grind)
def InvR (seen:List V3):List (V3 × Nat)→Prop
 | []=>∀ a ∈ seen,a=v0
 | [(r,p)]=>p<3∧pick p r ≠ 0∧(∃ a ∈ seen,∃ k,r=vsc k a)∧∀ a ∈ seen,vcr a r=v0
 | [(r,p),(s,q)]=>p<3∧q<3∧pick p r ≠ 0∧pick q s ≠ 0∧pick p s=0∧(∃ a ∈ seen,∃ b ∈ seen,∃ k,vcr r s=vsc k (vcr a b))∧∀ a ∈ seen,vdt a (vcr r s)=0
 | _=>False
theorem sc_v0 (k:Rat):vsc k v0=v0:=by unfold vsc v0; refine v3_ext ?_ ?_ ?_<;>(simp only []; grind)
theorem pick_v0 (p:Nat):pick p v0=0:=by
 unfold pick v0
 split
 · rfl
 · split<;>rfl
theorem rank_ok {dir:V3→V3} (hd:∀ a,a ≠ v0→∃ k,k ≠ 0∧dir a=vsc k a):∀ (l:List V3) (rows:List (V3 × Nat)) (seen:List V3),InvR seen rows→Rk (seen++l) (stepR dir l rows)
 | [],rows,seen,h=>by
   rw [List.append_nil]
   unfold stepR
   match rows,h with
   | [],h=>exact .inl ⟨rfl,h⟩
   | [(r,p)],⟨h1,h2,⟨a,ha,k,hk⟩,h4⟩ =>
     have hr0:r ≠ v0:=fun e=>h2 (by rw [e]; exact pick_v0 p)
     exact .inr (.inl ⟨rfl,⟨a,ha,fun e=>hr0 (by rw [hk,e]; exact sc_v0 k)⟩,fun x hx y hy=>par_trans hr0 (h4 x hx) (h4 y hy)⟩)
   | [(r,p),(s,q)],⟨h1,h2,h3,h4,h5,⟨a,ha,b,hb,k,hk⟩,h7⟩ =>
     have hn:=rs_nz h1 h2 h3 h4 h5
     exact .inr (.inr (.inl ⟨rfl,⟨a,ha,b,hb,fun e=>hn (by rw [hk,e]; exact sc_v0 k)⟩,fun x hx y hy z hz=>det_perp hn (h7 x hx) (h7 y hy) (h7 z hz)⟩))
   | _::_::_::_,h=>exact absurd h id
 | a::l,rows,seen,h=>by
   have e:seen++a::l=(seen++[a])++l:=by simp
   have hin:a ∈ seen++[a]:=by simp
   have hup:∀ x ∈ seen,x ∈ seen++[a]:=fun x hx=>by simp [hx]
   have hall:∀ {Q:V3→Prop},(∀ x ∈ seen,Q x)→Q a→∀ x ∈ seen++[a],Q x:=fun h1 h2 x hx=>by
    rcases List.mem_append.1 hx with hx|hx
    · exact h1 x hx
    · rw [List.mem_singleton.1 hx]; exact h2
   rw [e]
   unfold stepR
   match rows,h with
   | [],h =>
     have er:redA [] a=a:=rfl
     rw [er]
     cases hz:nzP a with
     | none=>exact rank_ok hd l [] _ (hall h (nz_none hz))
     | some p =>
       obtain ⟨k1,k2⟩:=nz_some hz
       have ha0:a ≠ v0:=fun e=>k1 (by rw [e]; exact pick_v0 p)
       obtain ⟨k,hk0,hk⟩:=hd a ha0
       refine rank_ok hd l [(dir a,p)] _ ⟨k2,?_,⟨a,hin,k,hk⟩,hall (fun x hx=>by rw [h x hx]; exact cr_zl _) (by rw [hk]; exact cr_self k a)⟩
       rw [hk,pick_sc]; exact mul_nz hk0 k1
   | [(r,p)],⟨h1,h2,⟨b,hb,k,hk⟩,h4⟩ =>
     have er:redA [(r,p)] a=red1 r p a:=rfl
     rw [er]
     cases hz:nzP (red1 r p a) with
     | none=>exact rank_ok hd l [(r,p)] _ ⟨h1,h2,⟨b,hup b hb,k,hk⟩,hall h4 (red_zero h2 (nz_none hz))⟩
     | some q =>
       obtain ⟨k1,k2⟩:=nz_some hz
       have ha0:red1 r p a ≠ v0:=fun e=>k1 (by rw [e]; exact pick_v0 q)
       obtain ⟨j,hj0,hj⟩:=hd _ ha0
       refine rank_ok hd l [(r,p),(dir (red1 r p a),q)] _ ⟨h1,k2,h2,?_,?_,⟨b,hup b hb,a,hin,j*pick p r*k,?_⟩,hall (fun x hx=>dt_par (h4 x hx)) ?_⟩
       · rw [hj,pick_sc]; exact mul_nz hj0 k1
       · rw [hj,pick_sc,red1_p,Rat.mul_zero]
       · rw [hj,cr_red,hk,cr_sc,sc_sc,← hk]
       · rw [hj,cr_red,dt_sc,dt_cr_self,Rat.mul_zero]
   | [(r,p),(s,q)],⟨h1,h2,h3,h4,h5,⟨b,hb,c,hc,k,hk⟩,h7⟩ =>
     have er:redA [(r,p),(s,q)] a=red1 s q (red1 r p a):=rfl
     rw [er]
     cases hz:nzP (red1 s q (red1 r p a)) with
     | none =>
       refine rank_ok hd l [(r,p),(s,q)] _ ⟨h1,h2,h3,h4,h5,⟨b,hup b hb,c,hup c hc,k,hk⟩,hall h7 ?_⟩
       have hz:=nz_none hz
       have key:vdt (red1 s q (red1 r p a)) (vcr r s)=pick q s*pick p r*vdt a (vcr r s):=by
        unfold red1 vsb vsc vdt vcr
        simp only []
        generalize pick q s=x
        generalize pick p r=y
        generalize pick p a=z
        generalize pick q _=w
        grind
       rw [hz] at key
       have:vdt v0 (vcr r s)=0:=by unfold vdt v0; simp only []; grind
       rw [this] at key
       exact nz_rat (mul_nz h4 h3) key.symm
     | some t =>
       obtain ⟨k1,k2⟩:=nz_some hz
       have ha0:red1 s q (red1 r p a) ≠ v0:=fun e=>k1 (by rw [e]; exact pick_v0 t)
       have hd3:=third h1 h2 h3 h4 h5 ha0
       rw [hk,dt_sc] at hd3
       exact .inr (.inr (.inr ⟨rfl,a,by simp,b,by simp [hb],c,by simp [hc],(nz_of_mul hd3).2⟩))
   | _::_::_::_,h=>exact absurd h id
end Go.Proofs.YtapddfjimhohcaaGreatDoor.AM
/- The document's whole numbers. -/
namespace Go.Proofs.YtapddfjimhohcaaGreatDoor.AM
set_option linter.all false
set_option autoImplicit true
set_option relaxedAutoImplicit true
open Go Go.Proofs
set_option maxRecDepth 100000
set_option maxHeartbeats 8000000
set_option linter.unusedSimpArgs false
variable {P:Program}
def rC (z:Int):List AV:=[.bool (decide (z<0)),.opq (.rnat z.natAbs)]
theorem CvL.rintOut (z:Int) {xs bs} (h:CvL xs bs):CvL (.agg (rC z)::xs) ((.agg [.opq (.rint (z)),.pad])::bs):=.agg (by simpa [Pay.open,Pay.width,rC] using CvL.fold (.rint z) [] rfl) h
theorem Conv.rint (z:Int):Conv (.agg (rC z)) (.agg [.opq (.rint (z)),.pad]):=CvL.conv (.rintOut z .nil)
theorem cmp_ge' {a b:Nat} (h:b≤a):decide (0≤cmpI a b)=true:=by
 rcases Nat.lt_or_eq_of_le h with h|h
 · rw [cmpI_gt h]; rfl
 · rw [h,cmpI_eq]; rfl
noncomputable def Wt4:Nat→List AV→Option (Prop × AV):=Wt3
theorem Wt4_all (hP:PrgOk P) (T) (hT:TyOk P T):EnvOk P ⟨T,Wt4⟩:=(Wt3_all hP T hT)
attribute [go_sem] Wt4
end Go.Proofs.YtapddfjimhohcaaGreatDoor.AM
/- Lists of numbers in cells. -/
namespace Go.Proofs.YtapddfjimhohcaaGreatDoor.AM
set_option linter.all false
set_option autoImplicit true
set_option relaxedAutoImplicit true
open Go Go.Proofs
theorem nq_l (q k:Nat):(q+(k+1) == q)=false:=by simp
theorem nq_r (q k:Nat):(q == q+(k+1))=false:=by simp
attribute [go_sem] nq_l nq_r true_or or_true ne_eq not_false_eq_true not_true_eq_false imp_self
class Wd {α:Type} (f:α→List AV) (k:outParam Nat):Prop where
 len:∀ a,(f a).length=k
 pos:0<k
 head:∀ a,AV.head (f a)=true
 ck:∀ a,(f a).all AV.ck=true
 only:∀ g a,onlyL g (f a)=true
 fv:∀ m j a,(f a).map (fzV m j)=f a
 fc:∀ m j a,∀ x ∈ f a,fzC m j x
def cl {α:Type} (f:α→List AV) (l:List α):List AV:=l.flatMap f
section
variable {α:Type} {f:α→List AV} {k:Nat} {l:List α} {a:α} {i:Nat}
theorem cl_cons:cl f (a::l)=f a++cl f l:=rfl
theorem cl_app (l'):cl f l++cl f l'=cl f (l++l'):=by simp [cl]
theorem cl_snoc:cl f l++f a=cl f (l++[a]):=by simp [cl]
variable [h:Wd f k]
theorem cl_len:(cl f l).length=l.length*k:=by
 induction l with
 | nil=>simp [cl]
 | cons a l ih=>rw [cl_cons,List.length_append,h.len,ih,List.length_cons,Nat.succ_mul,Nat.add_comm]
theorem cl_drop:(cl f l).drop (i*k)=cl f (l.drop i):=by
 induction i generalizing l with
 | zero=>simp
 | succ i ih =>
   cases l with
   | nil=>simp [cl]
   | cons a l =>
     rw [cl_cons,Nat.succ_mul,Nat.add_comm,← List.drop_drop,← h.len a,List.drop_left,List.drop_succ_cons,h.len a]; exact ih
theorem cl_take:(cl f l).take (i*k)=cl f (l.take i):=by
 induction i generalizing l with
 | zero=>simp [cl]
 | succ i ih =>
   cases l with
   | nil=>simp [cl]
   | cons a l =>
     rw [cl_cons,Nat.succ_mul,Nat.add_comm,List.take_append,h.len,List.take_of_length_le (by rw [h.len]; omega),Nat.add_sub_cancel_left,List.take_succ_cons,ih]; rfl
theorem cl_head {α:Type} {f:α→List AV} {k:Nat} {l:List α} [h:Wd f k]:AV.head (cl f l)=true:=by
 cases l with
 | nil=>rfl
 | cons a l =>
   have h1:=h.head a
   have h2:=h.len a
   have h3:=h.pos
   rw [cl_cons]
   cases hf:f a with
   | nil=>rw [hf] at h2; simp at h2; omega
   | cons x t=>rw [hf] at h1; cases x<;>first|rfl|exact h1
theorem cl_ck {α:Type} {f:α→List AV} {k:Nat} {l:List α} [h:Wd f k]:(cl f l).all AV.ck=true:=by
 induction l with
 | nil=>rfl
 | cons a l ih=>rw [cl_cons,List.all_append,h.ck,ih]; rfl
theorem cl_only {α:Type} {f:α→List AV} {k:Nat} {l:List α} [h:Wd f k] (g):onlyL g (cl f l)=true:=by
 induction l with
 | nil=>rfl
 | cons a l ih=>rw [cl_cons,onlyL_append,h.only,ih]; rfl
theorem cl_fv {α:Type} {f:α→List AV} {k:Nat} {l:List α} [h:Wd f k] (m j):(cl f l).map (fzV m j)=cl f l:=by
 induction l with
 | nil=>rfl
 | cons a l ih=>rw [cl_cons,List.map_append,h.fv,ih]
theorem cl_fc {α:Type} {f:α→List AV} {k:Nat} {l:List α} [h:Wd f k] (m j):(∀ x ∈ cl f l,fzC m j x)=True:=eq_true fun x hx=>by
 obtain ⟨a,_,hx⟩:=List.mem_flatMap.1 hx
 exact h.fc m j a x hx
theorem cl_all {α:Type} {f:α→List AV} {k:Nat} {l:List α} [h:Wd f k] {n:Nat} (hn:n=l.length*k):(cl f l).take n=cl f l:=List.take_of_length_le (by rw [cl_len]; omega)
theorem cl_repl {α:Type} {f:α→List AV} (n:Nat) (a:α):(List.replicate n (f a)).flatten=cl f (List.replicate n a):=by
 induction n with
 | zero=>rfl
 | succ n ih=>rw [List.replicate_succ,List.flatten_cons,ih,List.replicate_succ,cl_cons]
theorem cl_set (hi:i<l.length):(cl f l).take (i*k)++f a++(cl f l).drop (i*k+k)=cl f (l.set i a):=by
 rw [cl_take,show i*k+k=(i+1)*k by rw [Nat.succ_mul],cl_drop,cl_snoc,cl_app]
 congr 1
 rw [List.set_eq_take_append_cons_drop,if_pos hi]; simp
end
theorem CvL.imm {n:Nat} {cs cs' xs bs:List AV} (h:CvL cs cs') (h':CvL xs bs):CvL (.imm n cs::xs) (.imm n cs'::bs):=fun X φ w l hl=>by
 generalize e:(AV.imm n cs::xs)=t at hl
 cases hl with
 | imm0 a c h1 =>
   obtain ⟨e1,e2⟩:=List.cons.inj e
   simp only [AV.imm.injEq] at e1
   obtain ⟨rfl,rfl⟩:=e1
   obtain rfl:=e2
   have h2:=h X φ w [] .nil
   have:cs'=[]:=by have:=h2.length; simpa using this.symm
   subst this
   exact .imm0 _ _ (h' _ _ _ _ h1)
 | imm z h1 h2 h3 h4 =>
   obtain ⟨e1,e2⟩:=List.cons.inj e
   simp only [AV.imm.injEq] at e1
   obtain ⟨rfl,rfl⟩:=e1
   obtain rfl:=e2
   exact .imm z h1 h2 (h _ _ _ _ h3) (h' _ _ _ _ h4)
 | _=>cases e
theorem RL.app_inv {W φ w} {us bs:List AV} {l:List Value} (h:RL W φ w l (us++bs)) (hh:AV.head bs=true):RL W φ w (l.take us.length) us∧RL W φ w (l.drop us.length) bs:=by
 have:=h.split us.length (by simp) (by simpa using hh)
 simpa using this
theorem CvL.app {a b c d:List AV} (h:CvL a b) (h':CvL c d) (hc:AV.head c=true):CvL (a++c) (b++d):=fun X φ w l hl=>by
 obtain ⟨h1,h2⟩:=RL.app_inv hl hc
 have:=(h _ _ _ _ h1).app (h' _ _ _ _ h2)
 rwa [List.take_append_drop] at this
theorem CvL.cl {α:Type} {f g:α→List AV} {k:Nat} [Wd f k] (h:∀ a,CvL (f a) (g a)) (l:List α):CvL (AM.cl f l) (AM.cl g l):=by
 induction l with
 | nil=>exact .refl _
 | cons a l ih=>rw [cl_cons,cl_cons]; exact CvL.app (h a) ih cl_head
theorem CvL.clm {α β:Type} {f:α→List AV} {g:β→List AV} {k:Nat} [Wd f k] {h:α→β} (hh:∀ a,CvL (f a) (g (h a))) (l:List α):CvL (AM.cl f l) (AM.cl g (l.map h)):=by
 induction l with
 | nil=>exact .refl _
 | cons a l ih=>rw [cl_cons,List.map_cons,cl_cons]; exact CvL.app (hh a) ih cl_head
def wG (z:Int):List AV:=[.opq (.whole z),.pad,.pad]
theorem fz_flat {l:List AV} (h:∀ x ∈ l,∀ m j,fzC m j x∧fzV m j x=x):(∀ m j,l.map (fzV m j)=l)∧∀ m j,∀ x ∈ l,fzC m j x:=by
 refine ⟨fun m j=>?_,fun m j x hx=>(h x hx m j).1⟩
 conv=>rhs; rw [← List.map_id l]
 exact List.map_congr_left fun x hx=>(h x hx m j).2
theorem fz_wC (z:Int):∀ x ∈ wC z,∀ m j,fzC m j x∧fzV m j x=x:=by
 intro x hx m j
 simp only [wC,List.mem_cons,List.not_mem_nil,or_false] at hx
 rcases hx with rfl|rfl|rfl<;>cases j<;>exact ⟨trivial,rfl⟩
theorem fz_wG (z:Int):∀ x ∈ wG z,∀ m j,fzC m j x∧fzV m j x=x:=by
 intro x hx m j
 simp only [wG,List.mem_cons,List.not_mem_nil,or_false] at hx
 rcases hx with rfl|rfl|rfl<;>cases j<;>exact ⟨trivial,rfl⟩
instance:Wd wC 3:=⟨fun _=>rfl,by decide,fun _=>rfl,fun _=>rfl,fun _ _=>rfl,fun m j z=>(fz_flat (fz_wC z)).1 m j,fun m j z=>(fz_flat (fz_wC z)).2 m j⟩
instance:Wd wG 3:=⟨fun _=>rfl,by decide,fun _=>rfl,fun _=>rfl,fun _ _=>rfl,fun m j z=>(fz_flat (fz_wG z)).1 m j,fun m j z=>(fz_flat (fz_wG z)).2 m j⟩
theorem CvL.GC (z:Int):CvL (wG z) (wC z):=by simpa [Pay.open,Pay.width,wC,wG] using CvL.unfold (.whole z) []
theorem CvL.CG (z:Int):CvL (wC z) (wG z):=by simpa [Pay.open,Pay.width,wC,wG] using CvL.fold (.whole z) [] rfl
end Go.Proofs.YtapddfjimhohcaaGreatDoor.AM
/- Whole numbers without what divides them all. -/
namespace Go.Proofs.YtapddfjimhohcaaGreatDoor.AM
set_option linter.all false
set_option autoImplicit true
set_option relaxedAutoImplicit true
open Go Go.Proofs
set_option maxRecDepth 100000
set_option maxHeartbeats 8000000
set_option linter.unusedSimpArgs false
variable {P:Program}
def gcdL (l:List Int):Nat:=l.foldl (fun g z=>Nat.gcd g z.natAbs) 0
theorem gcdL_snoc (l:List Int) (z:Int):gcdL (l++[z])=Nat.gcd (gcdL l) z.natAbs:=by simp [gcdL]
theorem gcdF_blen {n:Nat}:∀ (l:List Int) (g:Nat),blen g≤n→(∀ z ∈ l,wl z≤n)→blen (l.foldl (fun g z=>Nat.gcd g z.natAbs) g)≤n
 | [],_,hg,_=>hg
 | z::l,g,hg,h=>gcdF_blen l _ (gcd_blen hg (h z (by simp))) fun y hy=>h y (by simp [hy])
theorem gcdL_blen {n:Nat} (l:List Int) (h:∀ z ∈ l,wl z≤n):blen (gcdL l)≤n:=gcdF_blen l 0 (Nat.le_trans (Nat.le_of_eq (show blen 0=0 by decide)) (Nat.zero_le _)) h
def primZ (g:Nat) (z:Int):Int:=if g=0 then z else sg (decide (z<0)) (z.natAbs / g)
def primL (l:List Int):List Int:=l.map (primZ (gcdL l))
theorem prim2_ic (hP:PrgOk P) {l:List Int} {i g:Nat} {z:Int} {K:Nat→AV→(Nat→AObj)→Prop} (hi:i<l.length) (hz:l[i]=z) (hzb:wl z≤34359738368) (hg:blen g≤34359738368)
 (k:∀ nx m',KM [2,0] m' (upd (upd (fun _=>.unused) 0 (.live [.imm l.length (cl wC l)])) 2 (.live [.opq (.nat (Nat.gcd g z.natAbs)),.pad]))→K nx (.tup []) m') :
 icX (ICall P) 159 [.int .i64 (i:Int),.ref 2 0,.ref 0 0] (upd (upd (fun _=>.unused) 0 (.live [.imm l.length (cl wC l)])) 2 (.live [.opq (.nat g),.pad])) (K:=⟨K⟩):=by
 have HE:=Wt4_all hP T1 hP.t1
 refine icX_vc (E:=⟨T1,Wt4⟩) (fn159 hP) HE hP.mix rfl rfl (Nat.le_of_ble_eq_true rfl) 0 ?_
 have h3:i*3≤l.length*3:=by omega
 have hd:(cl wC l).drop (i*3) = .bool (decide (z<0)) :: .opq (.nat z.natAbs) :: .pad::cl wC (l.drop (i+1)):=by
  rw [cl_drop,List.drop_eq_getElem_cons hi,cl_cons,hz]; rfl
 have hlen:(cl wC (l.drop (i+1))).length=(l.length-(i+1))*3:=by rw [cl_len,List.length_drop]
 have hh:AV.head (cl wC (l.drop (i+1)))=true:=cl_head
 have hzb':=Nat.le_trans hzb (show _≤68719476736 by decide)
 have hg':=Nat.le_trans hg (show _≤68719476736 by decide)
 unfold wl at hzb'
 simp only [go_sem,hi,cl_len,h3,hd,hzb',hg',hlen,hh,upd_upd]
 have ho:objOnly [2,0] (.live [.imm l.length (cl wC l)])=true:=by simp only [objOnly,onlyL,AV.only,cl_only,Bool.and_true]
 exact k _ _ (KM.p (.upd rfl rfl (.upd rfl ho .nil)))
theorem each_ic (hP:PrgOk P) {n fd:Nat} {dcs cs0:List AV} {M:Nat→Nat→AObj} {L:List Nat} {K:Nat→AV→(Nat→AObj)→Prop} (hn:n≤1099511627776)
 (h0:∀ i,M i 0 = .live [.imm n cs0]) (hM:∀ i,GenM L (M i)) (hd:onlyL (fun r=>L.contains r) dcs=true) (h0L:L.contains 0=true)
 (step:∀ i,i<n→∀ K':Nat→AV→(Nat→AObj)→Prop,(∀ nx m',KM L m' (M (i+1))→K' nx (.tup []) m')→icX (ICall P) fd (.int .i64 (i:Int)::dcs) (M i) (K:=⟨K'⟩))
 (k:∀ nx,K nx (.tup []) (M n)) :
 icX (ICall P) 158 [.fn fd [] dcs,.ref 0 0] (M 0) (K:=⟨K⟩):=by
 have HE:=EnvOk.no hP.t1
 refine icX_vc (E:=⟨T1,noS⟩) (fn158 hP) HE hP.mix rfl rfl (Nat.le_of_ble_eq_true rfl) 0 ?_
 have h00:=h0 0
 have hdo:(AV.fn fd [] dcs).only (fun r=>L.contains r)=true:=by simp only [AV.only,onlyL,Bool.true_and]; exact hd
 have hro:(AV.ref 0 0).only (fun r=>L.contains r)=true:=by simp only [AV.only]; exact h0L
 simp only [go_sem,h00]
 refine trX_loop HE hP.mix L (fun i:Nat=>⟨upd (upd (upd (upd (fun _=>.junk) 0 (.fn fd [] dcs)) 1 (.ref 0 0)) 5 (.int .i64 (n:Int))) 6 (.int .i64 (i:Int)),M i,13⟩)
  (fun i=>i≤n) (fun i=>n-i) 0 0 (hM 0).1 (Kept.of rfl (by repeat (first|exact KT.nil|refine KT.upd rfl (by first|rfl|exact hdo|exact hro) ?_)) (KM.gen (hM 0))) (Nat.zero_le _) 13 (by kernel_rfl) ?_
 intro i hi
 by_cases h:i<n
 · have hwi:=wi_add1 i (by omega)
   simp only [go_sem,h,h0 i]
   refine step i h _ fun nx m' hm'=>?_
   simp only [go_sem,hwi]
   exact ⟨i+1,Kept.of rfl (by repeat (first|exact KT.nil|refine KT.upd rfl (by first|rfl|exact hdo|exact hro) ?_)) hm',by omega,by omega⟩
 · obtain rfl:i=n:=by omega
   simp only [go_sem,h]
   exact k _
def wX (p:Bool × Int):List AV:=if p.1 then wG p.2 else wC p.2
theorem fz_wX (p:Bool × Int):∀ x ∈ wX p,∀ m j,fzC m j x∧fzV m j x=x:=by
 obtain ⟨b,z⟩:=p
 cases b
 · exact fz_wC z
 · exact fz_wG z
instance:Wd wX 3:=⟨fun ⟨b,_⟩=>by cases b<;>rfl,by decide,fun ⟨b,_⟩=>by cases b<;>rfl,fun ⟨b,_⟩=>by cases b<;>rfl,fun _ ⟨b,_⟩=>by cases b<;>rfl,fun m j z=>(fz_flat (fz_wX z)).1 m j,fun m j z=>(fz_flat (fz_wX z)).2 m j⟩
theorem CvL.XG (p:Bool × Int):CvL (wX p) (wG p.2):=by
 obtain ⟨b,z⟩:=p
 cases b
 · exact .CG z
 · exact .refl _
def stP (g:Nat) (z:Int):Bool × Int:=if g=0 then (false,z) else (true,primZ g z)
theorem stP_snd (g z):(stP g z).2=primZ g z:=by unfold stP primZ; split<;>rfl
abbrev M3 (l:List Int) (g:Nat) (o:List (Bool × Int)):Nat→AObj:=upd (upd (upd (upd (fun _=>.unused) 0 (.live [.imm l.length (cl wC l)])) 2 (.live [.opq (.nat g),.pad])) 10 (.live (cl wX o))) 11 (.live [.sl 10 0 l.length 3])
theorem prim3_ic (hP:PrgOk P) {l:List Int} {i g:Nat} {z:Int} {o:List (Bool × Int)} {K:Nat→AV→(Nat→AObj)→Prop} (hi:i<l.length) (ho:o.length=l.length) (hz:l[i]=z) (hzb:wl z≤34359738368) (hg:blen g≤34359738368)
 (k:∀ nx m',KM [11,10,2,0] m' (M3 l g (o.set i (stP g z)))→K nx (.tup []) m') :
 icX (ICall P) 160 [.int .i64 (i:Int),.ref 0 0,.ref 11 0,.ref 2 0] (M3 l g o) (K:=⟨K⟩):=by
 have HE:=Wt4_all hP T1 hP.t1
 refine icX_any 0 (icX_vc (E:=⟨T1,Wt4⟩) (fn160 hP) HE hP.mix rfl rfl (Nat.le_of_ble_eq_true rfl) 20 ?_)
 have hio:i<o.length:=by omega
 have h3:i*3≤l.length*3:=by omega
 have h4:i*3+3≤o.length*3:=by omega
 have h5:i*3+3≤l.length*3:=by omega
 have h6:i*3+3=(i+1)*3:=by omega
 have hd:(cl wC l).drop (i*3) = .bool (decide (z<0)) :: .opq (.nat z.natAbs) :: .pad::cl wC (l.drop (i+1)):=by
  rw [cl_drop,List.drop_eq_getElem_cons hi,cl_cons,hz]; rfl
 have hlen:(cl wC (l.drop (i+1))).length=(l.length-(i+1))*3:=by rw [cl_len,List.length_drop]
 have hh:AV.head (cl wC (l.drop (i+1)))=true:=cl_head
 have o1:AV.head ((cl wX o).drop (i*3))=true:=by rw [cl_drop]; exact cl_head
 have o2:AV.head ((cl wX o).drop (i*3+3))=true:=by rw [h6,cl_drop]; exact cl_head
 have s1:(cl wX o).take (i*3)++[.bool (decide (z<0)),.opq (.nat z.natAbs),.pad]++(cl wX o).drop (i*3+3)=cl wX (o.set i (false,z)):=cl_set (f:=wX) (a:=(false,z)) hio
 have hzb':=Nat.le_trans hzb (show _≤68719476736 by decide)
 have hg':=Nat.le_trans hg (show _≤68719476736 by decide)
 unfold wl at hzb'
 have ho0:objOnly [11,10,2,0] (.live [.imm l.length (cl wC l)])=true:=by simp only [objOnly,onlyL,AV.only,cl_only,Bool.and_true]
 have hoX:∀ o:List (Bool × Int),objOnly [11,10,2,0] (.live (cl wX o))=true:=fun o=>by simp only [objOnly,cl_only]
 by_cases h0:g=0
 · have hs:stP g z=(false,z):=by unfold stP; rw [if_pos h0]
   rw [hs] at k
   subst h0
   have b0:blen 0≤68719476736:=by decide
   simp only [go_sem,hi,hio,cl_len,ho,h3,h4,h5,hd,hzb',hg',hlen,hh,upd_upd,o1,o2,s1,b0]
   exact k _ _ (KM.p (.upd rfl rfl (.upd rfl (hoX _) (.upd rfl rfl (.upd rfl ho0 .nil)))))
 · have hs:stP g z=(true,primZ g z):=by unfold stP; rw [if_neg h0]
   rw [hs] at k
   have h0':(g=0)=False:=eq_false h0
   have hq:=Nat.le_trans (blen_le_of (Nat.div_le_self z.natAbs g) hzb) (show _≤68719476736 by decide)
   have hpz:sg (decide (z<0)) (z.natAbs / g)=primZ g z:=by unfold primZ; rw [if_neg h0]
   have o3:(o.set i (false,z)).length=l.length:=by rw [List.length_set,ho]
   have o4:AV.head ((cl wX (o.set i (false,z))).drop (i*3))=true:=by rw [cl_drop]; exact cl_head
   have o5:AV.head ((cl wX (o.set i (false,z))).drop (i*3+3))=true:=by rw [h6,cl_drop]; exact cl_head
   have s2:(cl wX (o.set i (false,z))).take (i*3)++[.opq (.whole (primZ g z)),.pad,.pad]++(cl wX (o.set i (false,z))).drop (i*3+3)=cl wX (o.set i (true,primZ g z)):=by
    have:=cl_set (f:=wX) (l:=o.set i (false,z)) (a:=(true,primZ g z)) (i:=i) (by omega)
    rw [List.set_set] at this; exact this
   simp only [go_sem,hi,hio,cl_len,ho,h3,h4,h5,hd,hzb',hg',hlen,hh,upd_upd,o1,o2,s1,h0',hq,hpz,o3,o4,o5,s2]
   exact k _ _ (KM.p (.upd rfl rfl (.upd rfl (hoX _) (.upd rfl rfl (.upd rfl ho0 .nil)))))
end Go.Proofs.YtapddfjimhohcaaGreatDoor.AM
/- What divides some numbers. -/
namespace Go.Proofs.YtapddfjimhohcaaGreatDoor.AM
set_option linter.all false
set_option autoImplicit true
set_option relaxedAutoImplicit true
open Go Go.Proofs
set_option maxRecDepth 100000
theorem primZ_wl (g:Nat) (z:Int):wl (primZ g z)≤wl z:=by
 unfold primZ; split
 · exact Nat.le_refl _
 · rw [show wl (sg (decide (z<0)) (z.natAbs / g))=blen (z.natAbs / g) by unfold wl; rw [sg_abs]]
   exact blen_mono (Nat.div_le_self _ _)
theorem gcdF_dvd:∀ (l:List Int) (g:Nat),l.foldl (fun g z=>Nat.gcd g z.natAbs) g ∣ g∧∀ z ∈ l,l.foldl (fun g z=>Nat.gcd g z.natAbs) g ∣ z.natAbs
 | [],g=>⟨Nat.dvd_refl _,by simp⟩
 | y::l,g=>by
   obtain ⟨h1,h2⟩:=gcdF_dvd l (Nat.gcd g y.natAbs)
   simp only [List.foldl_cons]
   refine ⟨Nat.dvd_trans h1 (Nat.gcd_dvd_left _ _),fun z hz=>?_⟩
   rcases List.mem_cons.1 hz with rfl|hz
   · exact Nat.dvd_trans h1 (Nat.gcd_dvd_right _ _)
   · exact h2 z hz
theorem gcdL_dvd {l:List Int} {z:Int} (h:z ∈ l):gcdL l ∣ z.natAbs:=(gcdF_dvd l 0).2 z h
theorem primZ_mul {g:Nat} {z:Int} (h:g ≠ 0) (hd:g ∣ z.natAbs):primZ g z*(g:Int)=z:=by
 have hz:=sg_of z
 unfold primZ
 rw [if_neg h]
 have e:=Nat.div_mul_cancel hd
 by_cases h1:z<0
 · rw [decide_eq_true h1,sg_t] at *
   rw [Int.neg_mul,← Int.natCast_mul,e]; exact hz
 · rw [decide_eq_false h1,sg_f] at *
   rw [← Int.natCast_mul,e]; exact hz
theorem gcdL_zero {l:List Int} (h:gcdL l=0) {z:Int} (hz:z ∈ l):z=0:=by
 have:=gcdL_dvd hz
 rw [h] at this
 have:=Nat.zero_dvd.1 this
 omega
def lcmD (m d:Nat):Nat:=m*(d / Nat.gcd m d)
theorem lcmD_blen {m d x y:Nat} (h:blen m≤x) (h':blen d≤y):blen (lcmD m d)≤x+y:=blen_mul_le h (blen_le_of (Nat.div_le_self _ _) h')
theorem lcmD_l (m d):m ∣ lcmD m d:=⟨_,rfl⟩
theorem lcmD_r (m d:Nat):d ∣ lcmD m d:=by
 unfold lcmD
 obtain ⟨c,hc⟩:=Nat.gcd_dvd_left m d
 have e:=Nat.div_mul_cancel (Nat.gcd_dvd_right m d)
 refine ⟨c,?_⟩
 generalize Nat.gcd m d=g at *
 calc m*(d / g)=(d / g*g)*c:=by rw [hc]; rw [Nat.mul_comm (g*c),Nat.mul_assoc]
  _=d*c:=by rw [e]
theorem lcmD_pos {m d:Nat} (hm:0<m) (hd:0<d):0<lcmD m d:=Nat.mul_pos hm (Nat.div_pos (Nat.le_of_dvd hd (Nat.gcd_dvd_right m d)) (Nat.gcd_pos_of_pos_right m hd))
def mV (a:V3):Nat:=lcmD (lcmD (lcmD 1 a.1.den) a.2.1.den) a.2.2.den
theorem mV_pos (a:V3):0<mV a:=lcmD_pos (lcmD_pos (lcmD_pos (by decide) a.1.den_pos) a.2.1.den_pos) a.2.2.den_pos
theorem mV_1 (a:V3):a.1.den ∣ mV a:=Nat.dvd_trans (lcmD_r _ _) (Nat.dvd_trans (lcmD_l _ _) (lcmD_l _ _))
theorem mV_2 (a:V3):a.2.1.den ∣ mV a:=Nat.dvd_trans (lcmD_r _ _) (lcmD_l _ _)
theorem mV_3 (a:V3):a.2.2.den ∣ mV a:=lcmD_r _ _
def nV (a:V3) (x:Rat):Int:=x.num*((mV a / x.den:Nat):Int)
def gV (a:V3):Nat:=gcdL [nV a a.1,nV a a.2.1,nV a a.2.2]
def dV (a:V3) (x:Rat):Int:=primZ (gV a) (nV a x)
noncomputable def dirA (a:V3):V3:=((dV a a.1:Int),(dV a a.2.1:Int),(dV a a.2.2:Int))
theorem num_den (x:Rat):(x.num:Rat)=x*(x.den:Rat):=by
 rw [mul_mk,← mk_int]
 show mkRat x.num 1=mkRat (x.num*(x.den:Int)) (x.den*1)
 have:=Rat.mkRat_mul_right (n:=x.num) (d:=1) (a:=x.den) x.den_nz
 rw [Nat.mul_one,← this,Nat.one_mul]
theorem nV_eq {a:V3} {x:Rat} (h:x.den ∣ mV a):((nV a x:Int):Rat)=x*(mV a:Rat):=by
 unfold nV
 obtain ⟨c,hc⟩:=h
 have hd:mV a / x.den=c:=by rw [hc]; exact Nat.mul_div_cancel_left c x.den_pos
 rw [hd,hc,Rat.intCast_mul,num_den x,Rat.natCast_mul,Rat.mul_assoc]
 rfl
theorem nat_nz {n:Nat} (h:n ≠ 0):(n:Rat) ≠ 0:=fun e=>h (by exact_mod_cast e)
theorem gV_zero (a:V3):gV a=0 ↔ a=v0:=by
 have hm:=nat_nz (Nat.pos_iff_ne_zero.1 (mV_pos a))
 constructor
 · intro h
   have k:∀ {x:Rat},x.den ∣ mV a→nV a x=0→x=0:=fun hd e=>by
    have:=nV_eq hd
    rw [e] at this
    rcases Rat.mul_eq_zero.1 this.symm with h|h
    · exact h
    · exact absurd h hm
   refine (v0_iff a).2 ⟨k (mV_1 a) (gcdL_zero h (by simp)),k (mV_2 a) (gcdL_zero h (by simp)),k (mV_3 a) (gcdL_zero h (by simp))⟩
 · rintro rfl
   decide +kernel
theorem dV_mul {a:V3} (h0:a ≠ v0) {x:Rat} (hd:x.den ∣ mV a) (hx:nV a x ∈ [nV a a.1,nV a a.2.1,nV a a.2.2]):((dV a x:Int):Rat)=((mV a:Rat) / (gV a:Rat))*x:=by
 have hg:gV a ≠ 0:=fun e=>h0 ((gV_zero a).1 e)
 have e:primZ (gV a) (nV a x)*(gV a:Int)=nV a x:=primZ_mul hg (gcdL_dvd hx)
 have e2:((dV a x:Int):Rat)*(gV a:Rat)=x*(mV a:Rat):=by
  rw [← nV_eq hd]
  have:((primZ (gV a) (nV a x)*(gV a:Int):Int):Rat)=((nV a x:Int):Rat):=by rw [e]
  rw [Rat.intCast_mul] at this
  exact this
 have hg':=nat_nz hg
 generalize (gV a:Rat)=g at *
 generalize (mV a:Rat)=m at *
 generalize ((dV a x:Int):Rat)=d at *
 rw [Rat.div_def]
 have h1:=Rat.mul_inv_cancel g hg'
 generalize g⁻¹=i at *
 calc d=d*g*i:=by rw [Rat.mul_assoc,h1,Rat.mul_one]
  _=m*i*x:=by rw [e2]; grind
theorem nat_pos' {n:Nat} (h:n ≠ 0):(0:Rat)<(n:Rat):=by
 have:0<n:=Nat.pos_of_ne_zero h
 exact_mod_cast this
theorem dirA_sc {a:V3} (h:a ≠ v0):∃ k:Rat,0<k∧dirA a=vsc k a:=by
 have hg:gV a ≠ 0:=fun e=>h ((gV_zero a).1 e)
 refine ⟨(mV a:Rat) / (gV a:Rat),?_,?_⟩
 · rw [Rat.div_def]
   exact Rat.mul_pos (nat_pos' (Nat.pos_iff_ne_zero.1 (mV_pos a))) (Rat.inv_pos.2 (nat_pos' hg))
 · exact v3_ext (dV_mul h (mV_1 a) (by simp)) (dV_mul h (mV_2 a) (by simp)) (dV_mul h (mV_3 a) (by simp))
theorem vsc_one (a:V3):vsc 1 a=a:=by unfold vsc; refine v3_ext ?_ ?_ ?_<;>(simp only []; grind)
theorem vsc_z (a:V3):vsc 0 a=v0:=by unfold vsc v0; refine v3_ext ?_ ?_ ?_<;>(simp only []; grind)
theorem vsc_nz {k:Rat} {a:V3} (hk:k ≠ 0) (ha:a ≠ v0):vsc k a ≠ v0:=fun e=>ha (by
 have:=(v0_iff _).1 e
 exact (v0_iff a).2 ⟨zero_of_mul hk this.1,zero_of_mul hk this.2.1,zero_of_mul hk this.2.2⟩)
theorem dir_ok (a:V3) (h:a ≠ v0):∃ k,k ≠ 0∧dirA a=vsc k a:=by
 obtain ⟨j,hj,ej⟩:=dirA_sc h
 exact ⟨j,by grind,ej⟩
noncomputable def rkN (l:List V3):Nat:=stepR dirA l []
theorem rkN_ok (l:List V3):Rk l (rkN l):=by
 have:=rank_ok dir_ok l [] [] (by intro a ha; simp at ha)
 rwa [List.nil_append] at this
end Go.Proofs.YtapddfjimhohcaaGreatDoor.AM
/- Fractions: their cells; in lowest terms. -/
namespace Go.Proofs.YtapddfjimhohcaaGreatDoor.AM
set_option linter.all false
set_option autoImplicit true
set_option relaxedAutoImplicit true
open Go Go.Proofs
set_option maxRecDepth 100000
set_option maxHeartbeats 8000000
set_option linter.unusedSimpArgs false
variable {P:Program}
def fC (q:Rat):List AV:=[.opq (.whole q.num),.pad,.pad,.opq (.nat (q.den-1)),.pad]
theorem CvL.fracIn (q:Rat) {xs bs} (h:CvL xs bs):CvL ((.agg [.opq (.frac (q)),.pad,.pad,.pad,.pad])::xs) (.agg (fC q)::bs):=.agg (by simpa [Pay.open,Pay.width,fC] using CvL.unfold (.frac q) []) h
theorem CvL.fracOut (q:Rat) {xs bs} (h:CvL xs bs):CvL (.agg (fC q)::xs) ((.agg [.opq (.frac (q)),.pad,.pad,.pad,.pad])::bs):=.agg (by simpa [Pay.open,Pay.width,fC] using CvL.fold (.frac q) [] rfl) h
theorem Conv.frac (q:Rat):Conv (.agg (fC q)) (.agg [.opq (.frac (q)),.pad,.pad,.pad,.pad]):=CvL.conv (.fracOut q .nil)
noncomputable def rawF:AV→Option (Prop × Rat)
 | .agg [.opq (.frac q),.pad,.pad,.pad,.pad]=>some (True,q)
 | .agg [.opq (.whole z),.pad,.pad,.opq (.nat l),.pad]=>some (Nat.gcd z.natAbs (l+1)=1,qlow z (l+1))
 | _=>none
theorem rawF_atom (q:Rat):rawF (.agg [.opq (.frac (q)),.pad,.pad,.pad,.pad])=some (True,q):=rfl
theorem rawF_raw (z l):rawF (.agg [.opq (.whole z),.pad,.pad,.opq (.nat l),.pad])=some (Nat.gcd z.natAbs (l+1)=1,qlow z (l+1)):=rfl
theorem q_self' (q:Rat):qlow q.num (q.den-1+1)=q:=by rw [den_eq,qlow_eq]; exact q_self q
theorem q_gcd' (q:Rat):(Nat.gcd q.num.natAbs (q.den-1+1)=1)=True:=by rw [den_eq]; exact eq_true (q_gcd q)
theorem fC_mk {z:Int} {d:Nat} (hd:0<d) (h:Nat.gcd z.natAbs d=1):fC (mkRat z d)=[.opq (.whole z),.pad,.pad,.opq (.nat (d-1)),.pad]:=by
 unfold fC
 rw [mk_num hd,mk_den hd,h,Nat.div_one,Nat.div_one,sg_of]
theorem rawF_cv {v:AV} {p q} (h:rawF v=some (p,q)) (hp:p) {xs bs} (k:CvL xs bs):CvL (v::xs) ((.agg [.opq (.frac (q)),.pad,.pad,.pad,.pad])::bs):=by
 unfold rawF at h
 split at h
 · simp only [Option.some.injEq,Prod.mk.injEq] at h
   obtain ⟨rfl,rfl⟩:=h
   exact .agg (.refl _) k
 · simp only [Option.some.injEq,Prod.mk.injEq] at h
   obtain ⟨rfl,rfl⟩:=h
   rename_i z l
   have e:fC (mkRat z (l+1))=[.opq (.whole z),.pad,.pad,.opq (.nat l),.pad]:=fC_mk (by omega) hp
   rw [← e,qlow_eq]; exact .fracOut _ k
 · simp at h
noncomputable def onF1 (f:Rat→Prop × AV):List AV→Option (Prop × AV)
 | [x]=>(rawF x).map fun a=>(a.1∧(f a.2).1,(f a.2).2)
 | _=>none
noncomputable def onF2 (f:Rat→Rat→Prop × AV):List AV→Option (Prop × AV)
 | [x,y]=>(rawF x).bind fun a=>(rawF y).map fun b=>(a.1∧b.1∧(f a.2 b.2).1,(f a.2 b.2).2)
 | _=>none
theorem onF1_ok {fi:Nat} {f:Rat→Prop × AV} (h:∀ a,(f a).1→CSpec P fi [(.agg [.opq (.frac (a)),.pad,.pad,.pad,.pad])] (f a).2) (args p r) (he:onF1 f args=some (p,r)) (hp:p):CSpec P fi args r:=by
 unfold onF1 at he
 split at he
 · simp only [Option.map_eq_some_iff,Prod.exists,Prod.mk.injEq] at he
   obtain ⟨q,a,h1,rfl,rfl⟩:=he
   exact (h a hp.2).cv (rawF_cv h1 hp.1 .nil)
 · simp at he
theorem onF2_ok {fi:Nat} {f:Rat→Rat→Prop × AV} (h:∀ a b,(f a b).1→CSpec P fi [(.agg [.opq (.frac (a)),.pad,.pad,.pad,.pad]),(.agg [.opq (.frac (b)),.pad,.pad,.pad,.pad])] (f a b).2) (args p r) (he:onF2 f args=some (p,r)) (hp:p):CSpec P fi args r:=by
 unfold onF2 at he
 split at he
 · simp only [Option.bind_eq_some_iff,Option.map_eq_some_iff,Prod.exists,Prod.mk.injEq] at he
   obtain ⟨q,a,h1,q',b,h2,rfl,rfl⟩:=he
   exact (h a b hp.2.2).cv (rawF_cv h1 hp.1 (rawF_cv h2 hp.2.1 .nil))
 · simp at he
theorem onF1_eq (f x):onF1 f [x]=(rawF x).map fun a=>(a.1∧(f a.2).1,(f a.2).2):=rfl
theorem onF2_eq (f x y):onF2 f [x,y]=(rawF x).bind fun a=>(rawF y).map fun b=>(a.1∧b.1∧(f a.2 b.2).1,(f a.2 b.2).2):=rfl
attribute [go_sem] rawF_atom rawF_raw onF1_eq onF2_eq q_self' q_gcd'
abbrev FB:Nat:=1073741824
theorem one_spec (hP:PrgOk P):CSpec P 103 [] (.agg [.opq (.nat (1)),.pad]):=by
 have HE:=Wt3_all hP T2 hP.t2
 have h1:(1:Int).toNat=1:=rfl
 refine CSpec_go (E:=⟨T2,Wt3⟩) (fn103 hP) HE hP.mix ?_
 simp only [go_sem,h1]
 exact fin_z
def oneS:List AV→Option (Prop × AV)
 | []=>some (True,(.agg [.opq (.nat (1)),.pad]))
 | _=>none
theorem oneS_ok (hP:PrgOk P) (args p r) (h:oneS args=some (p,r)) (hp:p):CSpec P 103 args r:=by
 unfold oneS at h
 split at h
 · simp only [Option.some.injEq,Prod.mk.injEq] at h
   obtain ⟨rfl,rfl⟩:=h
   exact one_spec hP
 · simp at h
attribute [go_sem] oneS
theorem part_spec (hP:PrgOk P) (x g:Nat) (hx:blen x≤68719476736) (hg:blen g≤34359738368) (h0:0<g):CSpec P 99 [(.agg [.opq (.nat (x)),.pad]),.fref [.opq (.nat g),.pad]] (.agg [.opq (.nat (x / g)),.pad]):=by
 have HE:=Wt3_all hP T2 hP.t2
 have hz:(g=0)=False:=eq_false (by omega)
 refine CSpec_go (E:=⟨T2,Wt3⟩) (fn99 hP) HE hP.mix ?_
 simp only [go_sem,hx,hg,hz]
 exact fin_z
def partS:List AV→Option (Prop × AV)
 | [x,.fref [.opq (.nat g),.pad]]=>(rawN x).map fun a=>(a.1∧blen a.2≤68719476736∧blen g≤34359738368∧0<g,(.agg [.opq (.nat (a.2 / g)),.pad]))
 | _=>none
theorem partS_eq (x g):partS [x,.fref [.opq (.nat g),.pad]]=(rawN x).map fun a=>(a.1∧blen a.2≤68719476736∧blen g≤34359738368∧0<g,(.agg [.opq (.nat (a.2 / g)),.pad])):=rfl
theorem partS_ok (hP:PrgOk P) (args p r) (he:partS args=some (p,r)) (hp:p):CSpec P 99 args r:=by
 unfold partS at he
 split at he
 · simp only [Option.map_eq_some_iff,Prod.exists,Prod.mk.injEq] at he
   obtain ⟨q,a,h1,rfl,rfl⟩:=he
   exact (part_spec hP a _ hp.2.1 hp.2.2.1 hp.2.2.2).cv (rawN_cv h1 hp.1 (.refl _))
 · simp at he
attribute [go_sem] partS_eq
noncomputable def Ft0:Nat→List AV→Option (Prop × AV):=addS (addS Wt3 103 oneS) 99 partS
theorem Ft0_all (hP:PrgOk P) (T) (hT:TyOk P T):EnvOk P ⟨T,Ft0⟩:=(((Wt3_all hP T hT).add (oneS_ok hP)).add (partS_ok hP))
theorem Ft0_at (f a):Ft0 f a=(addS (addS Wt3 103 oneS) 99 partS) f a:=rfl
attribute [go_sem] Ft0_at
theorem fr_live2 (cs):(AObj.live cs).freeze = .ro cs:=rfl
theorem fr_ro (cs):(AObj.ro cs).freeze = .ro cs:=rfl
attribute [go_sem] fr_live2 fr_ro
theorem sgn_neg (z:Int):(sgnZ z<0)=(z<0):=by
 unfold sgnZ; rw [eq_iff_iff]; split
 · omega
 · split<;>omega
theorem blen_one_iff (d:Nat):blen d=1 ↔ d=1:=by
 constructor
 · intro h
   have h1:d<2^1:=(blen_le_iff d 1).1 (by omega)
   have h2:d ≠ 0:=fun e=>by rw [e] at h; exact absurd h (by decide)
   omega
 · intro h; rw [h]; decide
theorem blen_two {d:Nat} (h0:0<d) (h:d ≠ 1):1<blen d:=by
 have h1:blen d ≠ 0:=by rw [Ne,blen_zero_iff]; omega
 have h2:=mt (blen_one_iff d).1 h
 omega
theorem low_spec (hP:PrgOk P) (z:Int) (d:Nat) (hz:wl z≤34359738368) (hd:blen d≤34359738368) (h0:0<d):CSpec P 57 [(.agg [.opq (.whole (z)),.pad,.pad]),(.agg [.opq (.nat (d)),.pad])] (.agg [.opq (.frac (qlow z d)),.pad,.pad,.pad,.pad]):=by
 have HE:=Ft0_all hP T2 hP.t2
 rw [qlow_eq]
 refine CSpec.conv (r:=.agg (fC (mkRat z d))) ?_ (.frac _)
 have hz':=Nat.le_trans hz (show _≤68719476736 by decide)
 have hd':=Nat.le_trans hd (show _≤68719476736 by decide)
 refine CSpec_go (E:=⟨T2,Ft0⟩) (fn57 hP) HE hP.mix ?_
 by_cases h1:d=1
 · subst h1
   have hb:(blen 1 == 1)=true:=by decide
   rw [fC_mk (by decide) (Nat.gcd_one_right _)]
   simp only [go_sem,hz',hd',hb]
   exact fin_z
 · have hb:(blen d == 1)=false:=beq_eq_false_iff_ne.2 (mt (blen_one_iff d).1 h1)
   have hg0:0<Nat.gcd z.natAbs d:=Nat.gcd_pos_of_pos_right _ h0
   have hgb:blen (Nat.gcd z.natAbs d)≤34359738368:=gcd_blen hz hd
   have hgb':=Nat.le_trans hgb (show _≤68719476736 by decide)
   by_cases h2:Nat.gcd z.natAbs d=1
   · have hb2:(1<blen 1)=False:=eq_false (by decide)
     have hlt:(d<1)=False:=eq_false (by omega)
     rw [fC_mk h0 h2]
     simp only [go_sem,hz,hd,hz',hd',hb,h2,hb2,hlt]
     exact fin_z
   · have hb2:(1<blen (Nat.gcd z.natAbs d))=True:=eq_true (blen_two hg0 h2)
     have hgz:(Nat.gcd z.natAbs d=0)=False:=eq_false (by omega)
     have hq1:=blen_le_of (Nat.div_le_self z.natAbs (Nat.gcd z.natAbs d)) hz'
     have hq2:=blen_le_of (Nat.div_le_self d (Nat.gcd z.natAbs d)) hd'
     have hdg:0<d / Nat.gcd z.natAbs d:=Nat.div_pos (Nat.le_of_dvd h0 (Nat.gcd_dvd_right _ _)) hg0
     have hlt:(d / Nat.gcd z.natAbs d<1)=False:=eq_false (by omega)
     have e:fC (mkRat z d)=[.opq (.whole (sg (decide (z<0)) (z.natAbs / Nat.gcd z.natAbs d))),.pad,.pad,.opq (.nat (d / Nat.gcd z.natAbs d-1)),.pad]:=by
      unfold fC; rw [mk_num h0,mk_den h0]
     rw [e]
     simp only [go_sem,hz,hd,hz',hd',hb,hb2,hgb,hgb',sgn_neg,hg0,hq1,hq2,hlt]
     exact fin_z
noncomputable def lowS:List AV→Option (Prop × AV)
 | [x,y]=>(rawW x).bind fun z=>(rawN y).map fun d=>(z.1∧d.1∧wl z.2≤34359738368∧blen d.2≤34359738368∧0<d.2,(.agg [.opq (.frac (qlow z.2 d.2)),.pad,.pad,.pad,.pad]))
 | _=>none
theorem lowS_eq (x y):lowS [x,y]=(rawW x).bind fun z=>(rawN y).map fun d=>(z.1∧d.1∧wl z.2≤34359738368∧blen d.2≤34359738368∧0<d.2,(.agg [.opq (.frac (qlow z.2 d.2)),.pad,.pad,.pad,.pad])):=rfl
theorem lowS_ok (hP:PrgOk P) (args p r) (he:lowS args=some (p,r)) (hp:p):CSpec P 57 args r:=by
 unfold lowS at he
 split at he
 · simp only [Option.bind_eq_some_iff,Option.map_eq_some_iff,Prod.exists,Prod.mk.injEq] at he
   obtain ⟨q,a,h1,q',b,h2,rfl,rfl⟩:=he
   exact (low_spec hP a b hp.2.2.1 hp.2.2.2.1 hp.2.2.2.2).cv (rawW_cv h1 hp.1 (rawN_cv h2 hp.2.1 .nil))
 · simp at he
attribute [go_sem] lowS_eq
theorem fDen_spec (hP:PrgOk P) (q:Rat) (h:blen q.den≤34359738368):CSpec P 60 [(.agg [.opq (.frac (q)),.pad,.pad,.pad,.pad])] (.agg [.opq (.nat (q.den)),.pad]):=by
 have HE:=Ft0_all hP T2 hP.t2
 refine CSpec.cv ?_ (.fracIn q .nil)
 have hl:blen (q.den-1)≤68719476736:=blen_le_of (Nat.sub_le _ _) (Nat.le_trans h (by decide))
 have h1:blen 1≤68719476736:=by decide
 have e:=den_eq q
 unfold fC
 refine CSpec_go (E:=⟨T2,Ft0⟩) (fn60 hP) HE hP.mix ?_
 simp only [go_sem,hl,h1,e]
 exact fin_z
noncomputable def fDenS:List AV→Option (Prop × AV):=onF1 fun q=>(blen q.den≤34359738368,(.agg [.opq (.nat (q.den)),.pad]))
theorem fDenS_ok (hP:PrgOk P) (args p r):fDenS args=some (p,r)→p→CSpec P 60 args r:=onF1_ok (fun a h=>by exact fDen_spec hP a h) args p r
theorem fNum_spec (hP:PrgOk P) (q:Rat):CSpec P 141 [(.agg [.opq (.frac (q)),.pad,.pad,.pad,.pad])] (.agg [.opq (.whole (q.num)),.pad,.pad]):=by
 have HE:=Ft0_all hP T2 hP.t2
 refine CSpec.cv ?_ (.fracIn q .nil)
 unfold fC
 refine CSpec_go (E:=⟨T2,Ft0⟩) (fn141 hP) HE hP.mix ?_
 simp only [go_sem]
 exact fin_z
noncomputable def fNumS:List AV→Option (Prop × AV):=onF1 fun q=>(True,(.agg [.opq (.whole (q.num)),.pad,.pad]))
theorem fNumS_ok (hP:PrgOk P) (args p r):fNumS args=some (p,r)→p→CSpec P 141 args r:=onF1_ok (fun a _=>by exact fNum_spec hP a) args p r
theorem fSign_spec (hP:PrgOk P) (q:Rat) (h:wl q.num≤68719476736):CSpec P 47 [(.agg [.opq (.frac (q)),.pad,.pad,.pad,.pad])] (.int .i64 (cmpQ q 0)):=by
 have HE:=Ft0_all hP T2 hP.t2
 refine CSpec.cv ?_ (.fracIn q .nil)
 rw [← sgn_cmp]
 unfold fC
 refine CSpec_go (E:=⟨T2,Ft0⟩) (fn47 hP) HE hP.mix ?_
 simp only [go_sem,h]
 exact fin_z
noncomputable def fSignS:List AV→Option (Prop × AV):=onF1 fun q=>(wl q.num≤68719476736,.int .i64 (cmpQ q 0))
theorem fSignS_ok (hP:PrgOk P) (args p r):fSignS args=some (p,r)→p→CSpec P 47 args r:=onF1_ok (fun a h=>by exact fSign_spec hP a h) args p r
theorem ent_spec (hP:PrgOk P) (q:Rat) (h:blen q.den≤34359738368):CSpec P 95 [(.agg [.opq (.frac (q)),.pad,.pad,.pad,.pad])] (.bool (decide (q.den=1))):=by
 have HE:=Ft0_all hP T2 hP.t2
 refine CSpec.cv ?_ (.fracIn q .nil)
 have hl:blen (q.den-1)≤68719476736:=blen_le_of (Nat.sub_le _ _) (Nat.le_trans h (by decide))
 have hp:=q.den_pos
 have e:(blen (q.den-1) == 0)=decide (q.den=1):=by
  rw [Bool.eq_iff_iff]; simp only [beq_iff_eq,decide_eq_true_eq,blen_zero_iff]; omega
 unfold fC
 refine CSpec_go (E:=⟨T2,Ft0⟩) (fn95 hP) HE hP.mix ?_
 simp only [go_sem,hl,e]
 exact fin_z
noncomputable def entS:List AV→Option (Prop × AV):=onF1 fun q=>(blen q.den≤34359738368,.bool (decide (q.den=1)))
theorem entS_ok (hP:PrgOk P) (args p r):entS args=some (p,r)→p→CSpec P 95 args r:=onF1_ok (fun a h=>by exact ent_spec hP a h) args p r
theorem by_spec (hP:PrgOk P) (z:Int) (d:Nat) (hz:wl z≤34359738368) (hd:blen d≤34359738368):CSpec P 58 [(.agg [.opq (.whole (z)),.pad,.pad]),(.agg [.opq (.nat (d)),.pad])] (.agg [.opq (.whole (z*d)),.pad,.pad]):=by
 have HE:=Ft0_all hP T2 hP.t2
 have hd':=Nat.le_trans hd (show _≤68719476736 by decide)
 have hdz:wl (d:Int)≤34359738368:=hd
 refine CSpec_go (E:=⟨T2,Ft0⟩) (fn58 hP) HE hP.mix ?_
 simp only [go_sem,hz,hd',hdz,sg_abs,sg_f]
 exact fin_z
def byS:List AV→Option (Prop × AV)
 | [x,y]=>(rawW x).bind fun z=>(rawN y).map fun d=>(z.1∧d.1∧wl z.2≤34359738368∧blen d.2≤34359738368,(.agg [.opq (.whole (z.2*d.2)),.pad,.pad]))
 | _=>none
theorem byS_eq (x y):byS [x,y]=(rawW x).bind fun z=>(rawN y).map fun d=>(z.1∧d.1∧wl z.2≤34359738368∧blen d.2≤34359738368,(.agg [.opq (.whole (z.2*d.2)),.pad,.pad])):=rfl
theorem byS_ok (hP:PrgOk P) (args p r) (he:byS args=some (p,r)) (hp:p):CSpec P 58 args r:=by
 unfold byS at he
 split at he
 · simp only [Option.bind_eq_some_iff,Option.map_eq_some_iff,Prod.exists,Prod.mk.injEq] at he
   obtain ⟨q,a,h1,q',b,h2,rfl,rfl⟩:=he
   exact (by_spec hP a b hp.2.2.1 hp.2.2.2).cv (rawW_cv h1 hp.1 (rawN_cv h2 hp.2.1 .nil))
 · simp at he
theorem fOf_spec (hP:PrgOk P) (z:Int):CSpec P 144 [(.agg [.opq (.whole (z)),.pad,.pad])] (.agg [.opq (.frac ((z:Rat))),.pad,.pad,.pad,.pad]):=by
 have HE:=Ft0_all hP T2 hP.t2
 refine CSpec.conv (r:=.agg (fC (z:Rat))) ?_ (.frac _)
 have e:fC (z:Rat)=[.opq (.whole z),.pad,.pad,.opq (.nat 0),.pad]:=rfl
 rw [e]
 refine CSpec_go (E:=⟨T2,Ft0⟩) (fn144 hP) HE hP.mix ?_
 simp only [go_sem]
 exact fin_z
def fOfS:List AV→Option (Prop × AV):=onW1 fun z=>(True,(.agg [.opq (.frac ((z:Rat))),.pad,.pad,.pad,.pad]))
theorem fOfS_ok (hP:PrgOk P) (args p r):fOfS args=some (p,r)→p→CSpec P 144 args r:=onW1_ok (fun a _=>by exact fOf_spec hP a) args p r
theorem fInt_spec (hP:PrgOk P) (n:Int) (h1 : -9223372036854775808≤n) (h2:n≤9223372036854775807):CSpec P 25 [.int .i64 n] (.agg [.opq (.frac ((n:Rat))),.pad,.pad,.pad,.pad]):=by
 have HE:=Ft0_all hP T2 hP.t2
 refine CSpec.conv (r:=.agg (fC (n:Rat))) ?_ (.frac _)
 have e:fC (n:Rat)=[.opq (.whole n),.pad,.pad,.opq (.nat 0),.pad]:=rfl
 rw [e]
 refine CSpec_go (E:=⟨T2,Ft0⟩) (fn25 hP) HE hP.mix ?_
 simp only [go_sem,h1,h2]
 exact fin_z
def fIntS:List AV→Option (Prop × AV)
 | [.int .i64 n]=>some (-9223372036854775808≤n∧n≤9223372036854775807,(.agg [.opq (.frac ((n:Rat))),.pad,.pad,.pad,.pad]))
 | _=>none
theorem fIntS_ok (hP:PrgOk P) (args p r) (h:fIntS args=some (p,r)) (hp:p):CSpec P 25 args r:=by
 unfold fIntS at h
 split at h
 · simp only [Option.some.injEq,Prod.mk.injEq] at h
   obtain ⟨rfl,rfl⟩:=h
   exact fInt_spec hP _ hp.1 hp.2
 · simp at h
theorem fNeg_spec (hP:PrgOk P) (q:Rat) (h:wl q.num≤68719476736):CSpec P 71 [(.agg [.opq (.frac (q)),.pad,.pad,.pad,.pad])] (.agg [.opq (.frac (qneg q)),.pad,.pad,.pad,.pad]):=by
 have HE:=Ft0_all hP T2 hP.t2
 rw [qneg_eq]
 refine CSpec.cv ?_ (.fracIn q .nil)
 refine CSpec.conv (r:=.agg (fC (-q))) ?_ (.frac _)
 unfold fC
 rw [(neg_nd q).1,(neg_nd q).2]
 refine CSpec_go (E:=⟨T2,Ft0⟩) (fn71 hP) HE hP.mix ?_
 simp only [go_sem,h]
 exact fin_z
noncomputable def fNegS:List AV→Option (Prop × AV):=onF1 fun q=>(wl q.num≤68719476736,(.agg [.opq (.frac (qneg q)),.pad,.pad,.pad,.pad]))
theorem fNegS_ok (hP:PrgOk P) (args p r):fNegS args=some (p,r)→p→CSpec P 71 args r:=onF1_ok (fun a h=>by exact fNeg_spec hP a h) args p r
attribute [go_sem] fDenS fNumS fSignS entS byS_eq fOfS fIntS fNegS
noncomputable def Ft1:Nat→List AV→Option (Prop × AV):=addS (addS (addS (addS (addS (addS (addS (addS (addS Ft0 57 lowS) 60 fDenS) 141 fNumS) 47 fSignS) 95 entS) 58 byS) 144 fOfS) 25 fIntS) 71 fNegS
theorem Ft1_all (hP:PrgOk P) (T) (hT:TyOk P T):EnvOk P ⟨T,Ft1⟩:=((((((((((Ft0_all hP T hT).add (lowS_ok hP)).add (fDenS_ok hP)).add (fNumS_ok hP)).add (fSignS_ok hP)).add (entS_ok hP)).add (byS_ok hP)).add (fOfS_ok hP)).add (fIntS_ok hP)).add (fNegS_ok hP))
theorem Ft1_at (f a):Ft1 f a=(addS (addS (addS (addS (addS (addS (addS (addS (addS Ft0 57 lowS) 60 fDenS) 141 fNumS) 47 fSignS) 95 entS) 58 byS) 144 fOfS) 25 fIntS) 71 fNegS) f a:=rfl
attribute [go_sem] Ft1_at
theorem fl_num {q:Rat} {n:Nat} (h:fl q≤n):wl q.num≤n:=(fl_le.1 h).1
theorem fl_den {q:Rat} {n:Nat} (h:fl q≤n):blen q.den≤n:=(fl_le.1 h).2
theorem fl_denZ {q:Rat} {n:Nat} (h:fl q≤n):wl (q.den:Int)≤n:=(fl_le.1 h).2
theorem fCmp_spec (hP:PrgOk P) (a b:Rat) (ha:fl a≤FB) (hb:fl b≤FB):CSpec P 73 [(.agg [.opq (.frac (a)),.pad,.pad,.pad,.pad]),(.agg [.opq (.frac (b)),.pad,.pad,.pad,.pad])] (.int .i64 (cmpQ a b)):=by
 have HE:=Ft1_all hP T2 hP.t2
 refine CSpec.cv ?_ (.fracIn a (.fracIn b .nil))
 have a1:wl a.num≤34359738368:=Nat.le_trans (fl_num ha) (by decide)
 have a2:blen a.den≤34359738368:=Nat.le_trans (fl_den ha) (by decide)
 have a3:wl a.num≤68719476736:=Nat.le_trans (fl_num ha) (by decide)
 have a4:blen a.den≤68719476736:=Nat.le_trans (fl_den ha) (by decide)
 have a5:0<a.den:=a.den_pos
 have b1:wl b.num≤34359738368:=Nat.le_trans (fl_num hb) (by decide)
 have b2:blen b.den≤34359738368:=Nat.le_trans (fl_den hb) (by decide)
 have b3:wl b.num≤68719476736:=Nat.le_trans (fl_num hb) (by decide)
 have b4:blen b.den≤68719476736:=Nat.le_trans (fl_den hb) (by decide)
 have b5:0<b.den:=b.den_pos
 have m1:wl (a.num*b.den)≤68719476736:=Nat.le_trans (wl_mul (fl_num ha) (fl_denZ hb)) (by decide)
 have m2:wl (b.num*a.den)≤68719476736:=Nat.le_trans (wl_mul (fl_num hb) (fl_denZ ha)) (by decide)
 rw [cmpQ_mk]
 unfold fC
 refine CSpec_go (E:=⟨T2,Ft1⟩) (fn73 hP) HE hP.mix ?_
 by_cases h1:a.den=1
 · by_cases h2:b.den=1
   · have h1':decide (a.den=1)=true:=decide_eq_true h1
     have h2':decide (b.den=1)=true:=decide_eq_true h2
     have e:cmpZ (a.num*b.den) (b.num*a.den)=cmpZ a.num b.num:=by rw [h1,h2,Int.natCast_one,Int.mul_one,Int.mul_one]
     rw [e]
     simp only [go_sem,a1,a2,a3,b1,b2,b3,m1,m2,h1',h2']
     exact fin_z
   · have h1':decide (a.den=1)=true:=decide_eq_true h1
     have h2':decide (b.den=1)=false:=decide_eq_false h2
     simp only [go_sem,a1,a2,a3,b1,b2,b3,m1,m2,h1',h2']
     exact fin_z
 · have h1':decide (a.den=1)=false:=decide_eq_false h1
   simp only [go_sem,a1,a2,a3,b1,b2,b3,m1,m2,h1']
   exact fin_z
noncomputable def fCmpS:List AV→Option (Prop × AV):=onF2 fun a b=>(fl a≤FB∧fl b≤FB,.int .i64 (cmpQ a b))
theorem fCmpS_ok (hP:PrgOk P) (args p r):fCmpS args=some (p,r)→p→CSpec P 73 args r:=onF2_ok (fun a b h=>by exact fCmp_spec hP a b h.1 h.2) args p r
theorem jAdd_spec (hP:PrgOk P) (a b:Rat) (ha:fl a≤FB) (hb:fl b≤FB):CSpec P 93 [(.agg [.opq (.frac (a)),.pad,.pad,.pad,.pad]),(.agg [.opq (.frac (b)),.pad,.pad,.pad,.pad]),.fn 94 [] []] (.agg [.opq (.frac (qadd a b)),.pad,.pad,.pad,.pad]):=by
 have HE:=Ft1_all hP T2 hP.t2
 rw [qadd_eq]
 refine CSpec.cv ?_ (.fracIn a (.fracIn b (.refl _)))
 have a1:wl a.num≤34359738368:=Nat.le_trans (fl_num ha) (by decide)
 have a2:blen a.den≤34359738368:=Nat.le_trans (fl_den ha) (by decide)
 have a3:wl a.num≤68719476736:=Nat.le_trans (fl_num ha) (by decide)
 have a4:blen a.den≤68719476736:=Nat.le_trans (fl_den ha) (by decide)
 have a5:0<a.den:=a.den_pos
 have b1:wl b.num≤34359738368:=Nat.le_trans (fl_num hb) (by decide)
 have b2:blen b.den≤34359738368:=Nat.le_trans (fl_den hb) (by decide)
 have b3:wl b.num≤68719476736:=Nat.le_trans (fl_num hb) (by decide)
 have b4:blen b.den≤68719476736:=Nat.le_trans (fl_den hb) (by decide)
 have b5:0<b.den:=b.den_pos
 have m0:wl (a.num+b.num)≤34359738368:=Nat.le_trans (wl_add (fl_num ha) (fl_num hb)) (by decide)
 have m1:wl (a.num*b.den)≤34359738368:=Nat.le_trans (wl_mul (fl_num ha) (fl_denZ hb)) (by decide)
 have m2:wl (b.num*a.den)≤34359738368:=Nat.le_trans (wl_mul (fl_num hb) (fl_denZ ha)) (by decide)
 have m3:wl (a.num*b.den+b.num*a.den)≤34359738368:=Nat.le_trans (wl_add (wl_mul (fl_num ha) (fl_denZ hb)) (wl_mul (fl_num hb) (fl_denZ ha))) (by decide)
 have m4:blen (a.den*b.den)≤34359738368:=Nat.le_trans (blen_mul_le (fl_den ha) (fl_den hb)) (by decide)
 have m5:0<a.den*b.den:=Nat.mul_pos a5 b5
 by_cases h:a.den=1∧b.den=1
 · refine CSpec.conv (r:=.agg (fC (a+b))) ?_ (.frac _)
   have e:fC (a+b)=[.opq (.whole (a.num+b.num)),.pad,.pad,.opq (.nat 0),.pad]:=by
    rw [add_mk,h.1,h.2,fC_mk (by decide) (Nat.gcd_one_right _),Int.natCast_one,Int.mul_one,Int.mul_one]
   have h1':decide (a.den=1)=true:=decide_eq_true h.1
   have h2':decide (b.den=1)=true:=decide_eq_true h.2
   rw [e]
   unfold fC
   refine CSpec_go (E:=⟨T2,Ft1⟩) (fn93 hP) HE hP.mix ?_
   simp only [go_sem,a1,a2,b1,b2,m0,h1',h2']
   exact fin_z
 · rw [add_mk,← qlow_eq]
   unfold fC
   refine CSpec_go (E:=⟨T2,Ft1⟩) (fn93 hP) HE hP.mix ?_
   by_cases h1:a.den=1
   · have h2:¬ b.den=1:=fun e=>h ⟨h1,e⟩
     have h1':decide (a.den=1)=true:=decide_eq_true h1
     have h2':decide (b.den=1)=false:=decide_eq_false h2
     simp only [go_sem,a1,a2,a4,b1,b2,b4,m1,m2,m3,m4,m5,h1',h2']
     exact fin_z
   · have h1':decide (a.den=1)=false:=decide_eq_false h1
     simp only [go_sem,a1,a2,a4,b1,b2,b4,m1,m2,m3,m4,m5,h1']
     exact fin_z
theorem jSub_spec (hP:PrgOk P) (a b:Rat) (ha:fl a≤FB) (hb:fl b≤FB):CSpec P 93 [(.agg [.opq (.frac (a)),.pad,.pad,.pad,.pad]),(.agg [.opq (.frac (b)),.pad,.pad,.pad,.pad]),.fn 109 [] []] (.agg [.opq (.frac (qsub a b)),.pad,.pad,.pad,.pad]):=by
 have HE:=Ft1_all hP T2 hP.t2
 rw [qsub_eq]
 refine CSpec.cv ?_ (.fracIn a (.fracIn b (.refl _)))
 have a1:wl a.num≤34359738368:=Nat.le_trans (fl_num ha) (by decide)
 have a2:blen a.den≤34359738368:=Nat.le_trans (fl_den ha) (by decide)
 have a3:wl a.num≤68719476736:=Nat.le_trans (fl_num ha) (by decide)
 have a4:blen a.den≤68719476736:=Nat.le_trans (fl_den ha) (by decide)
 have a5:0<a.den:=a.den_pos
 have b1:wl b.num≤34359738368:=Nat.le_trans (fl_num hb) (by decide)
 have b2:blen b.den≤34359738368:=Nat.le_trans (fl_den hb) (by decide)
 have b3:wl b.num≤68719476736:=Nat.le_trans (fl_num hb) (by decide)
 have b4:blen b.den≤68719476736:=Nat.le_trans (fl_den hb) (by decide)
 have b5:0<b.den:=b.den_pos
 have m0:wl (a.num-b.num)≤34359738368:=Nat.le_trans (wl_sub (fl_num ha) (fl_num hb)) (by decide)
 have m1:wl (a.num*b.den)≤34359738368:=Nat.le_trans (wl_mul (fl_num ha) (fl_denZ hb)) (by decide)
 have m2:wl (b.num*a.den)≤34359738368:=Nat.le_trans (wl_mul (fl_num hb) (fl_denZ ha)) (by decide)
 have m3:wl (a.num*b.den-b.num*a.den)≤34359738368:=Nat.le_trans (wl_sub (wl_mul (fl_num ha) (fl_denZ hb)) (wl_mul (fl_num hb) (fl_denZ ha))) (by decide)
 have m4:blen (a.den*b.den)≤34359738368:=Nat.le_trans (blen_mul_le (fl_den ha) (fl_den hb)) (by decide)
 have m5:0<a.den*b.den:=Nat.mul_pos a5 b5
 by_cases h:a.den=1∧b.den=1
 · refine CSpec.conv (r:=.agg (fC (a-b))) ?_ (.frac _)
   have e:fC (a-b)=[.opq (.whole (a.num-b.num)),.pad,.pad,.opq (.nat 0),.pad]:=by
    rw [sub_mk,h.1,h.2,fC_mk (by decide) (Nat.gcd_one_right _),Int.natCast_one,Int.mul_one,Int.mul_one]
   have h1':decide (a.den=1)=true:=decide_eq_true h.1
   have h2':decide (b.den=1)=true:=decide_eq_true h.2
   rw [e]
   unfold fC
   refine CSpec_go (E:=⟨T2,Ft1⟩) (fn93 hP) HE hP.mix ?_
   simp only [go_sem,a1,a2,b1,b2,m0,h1',h2']
   exact fin_z
 · rw [sub_mk,← qlow_eq]
   unfold fC
   refine CSpec_go (E:=⟨T2,Ft1⟩) (fn93 hP) HE hP.mix ?_
   by_cases h1:a.den=1
   · have h2:¬ b.den=1:=fun e=>h ⟨h1,e⟩
     have h1':decide (a.den=1)=true:=decide_eq_true h1
     have h2':decide (b.den=1)=false:=decide_eq_false h2
     simp only [go_sem,a1,a2,a4,b1,b2,b4,m1,m2,m3,m4,m5,h1',h2']
     exact fin_z
   · have h1':decide (a.den=1)=false:=decide_eq_false h1
     simp only [go_sem,a1,a2,a4,b1,b2,b4,m1,m2,m3,m4,m5,h1']
     exact fin_z
noncomputable def joinS:List AV→Option (Prop × AV)
 | [x,y,.fn f [] []]=>(rawF x).bind fun a=>(rawF y).map fun b=>(a.1∧b.1∧fl a.2≤FB∧fl b.2≤FB∧(f=94∨f=109),(.agg [.opq (.frac (if f=94 then qadd a.2 b.2 else qsub a.2 b.2)),.pad,.pad,.pad,.pad]))
 | _=>none
theorem joinS_eq (x y f):joinS [x,y,.fn f [] []]=(rawF x).bind fun a=>(rawF y).map fun b=>(a.1∧b.1∧fl a.2≤FB∧fl b.2≤FB∧(f=94∨f=109),(.agg [.opq (.frac (if f=94 then qadd a.2 b.2 else qsub a.2 b.2)),.pad,.pad,.pad,.pad])):=rfl
theorem joinS_ok (hP:PrgOk P) (args p r) (he:joinS args=some (p,r)) (hp:p):CSpec P 93 args r:=by
 unfold joinS at he
 split at he
 · simp only [Option.bind_eq_some_iff,Option.map_eq_some_iff,Prod.exists,Prod.mk.injEq] at he
   obtain ⟨q,a,h1,q',b,h2,rfl,rfl⟩:=he
   obtain ⟨p1,p2,p3,p4,h|h⟩:=hp
   · subst h
     exact (jAdd_spec hP a b p3 p4).cv (rawF_cv h1 p1 (rawF_cv h2 p2 (.refl _)))
   · subst h
     exact (jSub_spec hP a b p3 p4).cv (rawF_cv h1 p1 (rawF_cv h2 p2 (.refl _)))
 · simp at he
attribute [go_sem] joinS_eq fCmpS
noncomputable def Ft2:Nat→List AV→Option (Prop × AV):=addS (addS Ft1 73 fCmpS) 93 joinS
theorem Ft2_all (hP:PrgOk P) (T) (hT:TyOk P T):EnvOk P ⟨T,Ft2⟩:=(((Ft1_all hP T hT).add (fCmpS_ok hP)).add (joinS_ok hP))
theorem Ft2_at (f a):Ft2 f a=(addS (addS Ft1 73 fCmpS) 93 joinS) f a:=rfl
attribute [go_sem] Ft2_at
theorem fAdd_spec (hP:PrgOk P) (a b:Rat) (ha:fl a≤FB) (hb:fl b≤FB):CSpec P 53 [(.agg [.opq (.frac (a)),.pad,.pad,.pad,.pad]),(.agg [.opq (.frac (b)),.pad,.pad,.pad,.pad])] (.agg [.opq (.frac (qadd a b)),.pad,.pad,.pad,.pad]):=by
 have HE:=Ft2_all hP TF hP.tF
 refine CSpec_go (E:=⟨TF,Ft2⟩) (fn53 hP) HE hP.mix ?_
 simp only [go_sem,ha,hb]
 exact fin_z
noncomputable def fAddS:List AV→Option (Prop × AV):=onF2 fun a b=>(fl a≤FB∧fl b≤FB,(.agg [.opq (.frac (qadd a b)),.pad,.pad,.pad,.pad]))
theorem fAddS_ok (hP:PrgOk P) (args p r):fAddS args=some (p,r)→p→CSpec P 53 args r:=onF2_ok (fun a b h=>by exact fAdd_spec hP a b h.1 h.2) args p r
theorem fSub_spec (hP:PrgOk P) (a b:Rat) (ha:fl a≤FB) (hb:fl b≤FB):CSpec P 69 [(.agg [.opq (.frac (a)),.pad,.pad,.pad,.pad]),(.agg [.opq (.frac (b)),.pad,.pad,.pad,.pad])] (.agg [.opq (.frac (qsub a b)),.pad,.pad,.pad,.pad]):=by
 have HE:=Ft2_all hP TF hP.tF
 refine CSpec_go (E:=⟨TF,Ft2⟩) (fn69 hP) HE hP.mix ?_
 simp only [go_sem,ha,hb]
 exact fin_z
noncomputable def fSubS:List AV→Option (Prop × AV):=onF2 fun a b=>(fl a≤FB∧fl b≤FB,(.agg [.opq (.frac (qsub a b)),.pad,.pad,.pad,.pad]))
theorem fSubS_ok (hP:PrgOk P) (args p r):fSubS args=some (p,r)→p→CSpec P 69 args r:=onF2_ok (fun a b h=>by exact fSub_spec hP a b h.1 h.2) args p r
theorem fMul_spec (hP:PrgOk P) (a b:Rat) (ha:fl a≤FB) (hb:fl b≤FB):CSpec P 55 [(.agg [.opq (.frac (a)),.pad,.pad,.pad,.pad]),(.agg [.opq (.frac (b)),.pad,.pad,.pad,.pad])] (.agg [.opq (.frac (qmul a b)),.pad,.pad,.pad,.pad]):=by
 have HE:=Ft1_all hP T2 hP.t2
 rw [qmul_eq]
 refine CSpec.cv ?_ (.fracIn a (.fracIn b .nil))
 have a1:wl a.num≤34359738368:=Nat.le_trans (fl_num ha) (by decide)
 have a2:blen a.den≤34359738368:=Nat.le_trans (fl_den ha) (by decide)
 have a3:wl a.num≤68719476736:=Nat.le_trans (fl_num ha) (by decide)
 have a4:blen a.den≤68719476736:=Nat.le_trans (fl_den ha) (by decide)
 have a5:0<a.den:=a.den_pos
 have b1:wl b.num≤34359738368:=Nat.le_trans (fl_num hb) (by decide)
 have b2:blen b.den≤34359738368:=Nat.le_trans (fl_den hb) (by decide)
 have b3:wl b.num≤68719476736:=Nat.le_trans (fl_num hb) (by decide)
 have b4:blen b.den≤68719476736:=Nat.le_trans (fl_den hb) (by decide)
 have b5:0<b.den:=b.den_pos
 have m0:wl (a.num*b.num)≤34359738368:=Nat.le_trans (wl_mul (fl_num ha) (fl_num hb)) (by decide)
 have m4:blen (a.den*b.den)≤34359738368:=Nat.le_trans (blen_mul_le (fl_den ha) (fl_den hb)) (by decide)
 have m5:0<a.den*b.den:=Nat.mul_pos a5 b5
 by_cases h:a.den=1∧b.den=1
 · refine CSpec.conv (r:=.agg (fC (a*b))) ?_ (.frac _)
   have e:fC (a*b)=[.opq (.whole (a.num*b.num)),.pad,.pad,.opq (.nat 0),.pad]:=by
    rw [mul_mk,h.1,h.2,fC_mk (by decide) (Nat.gcd_one_right _)]
   have h1':decide (a.den=1)=true:=decide_eq_true h.1
   have h2':decide (b.den=1)=true:=decide_eq_true h.2
   rw [e]
   unfold fC
   refine CSpec_go (E:=⟨T2,Ft1⟩) (fn55 hP) HE hP.mix ?_
   simp only [go_sem,a1,a2,b1,b2,m0,h1',h2']
   exact fin_z
 · rw [mul_mk,← qlow_eq]
   unfold fC
   refine CSpec_go (E:=⟨T2,Ft1⟩) (fn55 hP) HE hP.mix ?_
   by_cases h1:a.den=1
   · have h2:¬ b.den=1:=fun e=>h ⟨h1,e⟩
     have h1':decide (a.den=1)=true:=decide_eq_true h1
     have h2':decide (b.den=1)=false:=decide_eq_false h2
     simp only [go_sem,a1,a2,a4,b1,b2,b4,m0,m4,m5,h1',h2']
     exact fin_z
   · have h1':decide (a.den=1)=false:=decide_eq_false h1
     simp only [go_sem,a1,a2,a4,b1,b2,b4,m0,m4,m5,h1']
     exact fin_z
noncomputable def fMulS:List AV→Option (Prop × AV):=onF2 fun a b=>(fl a≤FB∧fl b≤FB,(.agg [.opq (.frac (qmul a b)),.pad,.pad,.pad,.pad]))
theorem fMulS_ok (hP:PrgOk P) (args p r):fMulS args=some (p,r)→p→CSpec P 55 args r:=onF2_ok (fun a b h=>by exact fMul_spec hP a b h.1 h.2) args p r
theorem sgn_zero (z:Int):(sgnZ z == 0)=decide (z=0):=by
 unfold sgnZ; split
 · rename_i h; rw [decide_eq_true h]; rfl
 · rename_i h; rw [decide_eq_false h]; split<;>rfl
theorem fDiv_spec (hP:PrgOk P) (a b:Rat) (ha:fl a≤FB) (hb:fl b≤FB):CSpec P 26 [(.agg [.opq (.frac (a)),.pad,.pad,.pad,.pad]),(.agg [.opq (.frac (b)),.pad,.pad,.pad,.pad])] (if b=0 then .tup [(.agg [.opq (.frac (0)),.pad,.pad,.pad,.pad]),.int .i64 11] else .tup [(.agg [.opq (.frac (qdiv a b)),.pad,.pad,.pad,.pad]),.int .i64 0]):=by
 have HE:=Ft1_all hP T2 hP.t2
 refine CSpec.cv ?_ (.fracIn a (.fracIn b .nil))
 have a1:wl a.num≤34359738368:=Nat.le_trans (fl_num ha) (by decide)
 have a2:blen a.den≤34359738368:=Nat.le_trans (fl_den ha) (by decide)
 have a3:wl a.num≤68719476736:=Nat.le_trans (fl_num ha) (by decide)
 have a4:blen a.den≤68719476736:=Nat.le_trans (fl_den ha) (by decide)
 have a5:0<a.den:=a.den_pos
 have b1:wl b.num≤34359738368:=Nat.le_trans (fl_num hb) (by decide)
 have b2:blen b.den≤34359738368:=Nat.le_trans (fl_den hb) (by decide)
 have b3:wl b.num≤68719476736:=Nat.le_trans (fl_num hb) (by decide)
 have b4:blen b.den≤68719476736:=Nat.le_trans (fl_den hb) (by decide)
 have b5:0<b.den:=b.den_pos
 by_cases h0:b=0
 · have hs:cmpQ b 0=0:=by rw [h0]; rfl
   rw [if_pos h0]
   refine CSpec.conv (r:=.tup [.agg (fC 0),.int .i64 11]) ?_ (CvL.conv (CvL.tup (.fracOut 0 (.refl _)) .nil))
   have e:fC 0=[.opq (.whole 0),.pad,.pad,.opq (.nat 0),.pad]:=rfl
   rw [e]
   unfold fC
   refine CSpec_go (E:=⟨T2,Ft1⟩) (fn26 hP) HE hP.mix ?_
   simp only [go_sem,b3,hs]
   exact fin_z
 · have hn:b.num ≠ 0:=fun e=>h0 (num_zero.1 e)
   have hs:(sgnZ b.num == 0)=false:=by rw [sgn_zero,decide_eq_false hn]
   have hr : -9223372036854775808≤sgnZ b.num∧sgnZ b.num≤9223372036854775807:=by
    unfold sgnZ; split
    · decide
    · split<;>decide
   have hr1:=hr.1
   have hr2:=hr.2
   have sb:wl (sgnZ b.num)≤34359738368:=Nat.le_trans (wl_sgn _) (by decide)
   have m1:wl (a.num*sgnZ b.num)≤34359738368:=Nat.le_trans (wl_mul (fl_num ha) (wl_sgn _)) (by decide)
   have m2:wl (a.num*sgnZ b.num*b.den)≤34359738368:=Nat.le_trans (wl_mul (wl_mul (fl_num ha) (wl_sgn _)) (fl_denZ hb)) (by decide)
   have m3:blen (a.den*b.num.natAbs)≤34359738368:=Nat.le_trans (blen_mul_le (fl_den ha) (fl_num hb)) (by decide)
   have m4:0<a.den*b.num.natAbs:=Nat.mul_pos a5 (by omega)
   have b6:blen b.num.natAbs≤68719476736:=b3
   rw [if_neg h0,qdiv_eq,div_mk hn,← qlow_eq]
   unfold fC
   refine CSpec_go (E:=⟨T2,Ft1⟩) (fn26 hP) HE hP.mix ?_
   simp only [go_sem,a1,a2,a4,b1,b2,b3,b4,b6,hs,← sgn_cmp,hr1,hr2,sb,m1,m2,m3,m4]
   exact fin_z
noncomputable def fDivS:List AV→Option (Prop × AV):=onF2 fun a b=>(fl a≤FB∧fl b≤FB,if b=0 then .tup [(.agg [.opq (.frac (0)),.pad,.pad,.pad,.pad]),.int .i64 11] else .tup [(.agg [.opq (.frac (qdiv a b)),.pad,.pad,.pad,.pad]),.int .i64 0])
theorem fDivS_ok (hP:PrgOk P) (args p r):fDivS args=some (p,r)→p→CSpec P 26 args r:=onF2_ok (fun a b h=>by exact fDiv_spec hP a b h.1 h.2) args p r
attribute [go_sem] fAddS fSubS fMulS fDivS
end Go.Proofs.YtapddfjimhohcaaGreatDoor.AM
