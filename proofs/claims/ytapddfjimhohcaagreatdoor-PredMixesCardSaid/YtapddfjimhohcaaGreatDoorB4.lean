/- Package nat: products. -/
import Derived.Test.YtapddfjimhohcaaGreatDoorB3
namespace Go.Proofs.YtapddfjimhohcaaGreatDoor.AM
set_option linter.all false
set_option autoImplicit true
set_option relaxedAutoImplicit true
open Go Go.Proofs
set_option maxRecDepth 100000
set_option maxHeartbeats 8000000
set_option linter.unusedSimpArgs false
variable {P:Program}
theorem Mul_small (hP:PrgOk P) (a b:Nat) (ha:a<18446744073709551616) (hb:b<18446744073709551616):CSpec P 61 [.agg [.int .u64 (a:Int),.nils],.agg [.int .u64 (b:Int),.nils]] (.agg [.opq (.nat (a*b)),.pad]):=by
 have HE:=Sb_ok hP
 refine CSpec_go (E:=⟨T0,Sb⟩) (fn61 hP) HE hP.mix ?_
 simp only [go_sem,ha,hb]
 have h2:=mul_all a b
 have h3:=mull_lt a b
 have h4:=mulh_lt ha hb
 refine if_split (fun h=>?_) (fun h=>?_)
 · simp only [go_sem]
   have h:=eq_of_beq h
   have e:mull a b=a*b:=by rw [h] at h2; omega
   rw [e]; exact Conv.nat1 (by omega)
 · simp only [go_sem]
   have h:mulh a b ≠ 0:=by simpa using h
   have e:dOf 18446744073709551616 [mull a b,mulh a b]=a*b:=by simp only [dOf]; omega
   have:=Conv.natL (l:=[mull a b,mulh a b]) (n:=2) ?_ ?_ (by simp) rfl
   · rw [e] at this; exact this
   · intro d hd
     simp only [List.mem_cons,List.not_mem_nil,or_false] at hd
     rcases hd with rfl|rfl<;>omega
   · intro _; simpa using h
theorem Mul_great (hP:PrgOk P) (a b:Nat) (ha:blen a≤68719476736) (hb:blen b≤68719476736) (hg:¬ (a<18446744073709551616∧b<18446744073709551616)):CSpec P 61 [.agg (natC a),.agg (natC b)] (.agg [.opq (.nat (a*b)),.pad]):=by
 have HE:=Sb_ok hP
 have hxd:∀ d ∈ digs 18446744073709551616 a,d<18446744073709551616:=digs_lt 18446744073709551616 a (by decide)
 have hyd:∀ d ∈ digs 18446744073709551616 b,d<18446744073709551616:=digs_lt 18446744073709551616 b (by decide)
 have hx:=dOf_digs 18446744073709551616 a (by decide)
 have hy:=dOf_digs 18446744073709551616 b (by decide)
 have hlx:=digs_len_blen a
 have hly:=digs_len_blen b
 by_cases h1:a<18446744073709551616
 · rw [natC_small h1,natC_great (by omega)]
   have hl:=digs_length_gt 18446744073709551616 b 1 (by decide) (by omega)
   have hl2:2≤(digs 18446744073709551616 b).length:=by omega
   have hl3:((digs 18446744073709551616 b).length ≠ 0)=True:=eq_true (by omega)
   refine CSpec_go (E:=⟨T0,Sb⟩) (fn61 hP) HE hP.mix ?_
   simp only [go_sem,h1,hl2,hl3]
   generalize digs 18446744073709551616 a=x at *
   generalize digs 18446744073709551616 b=y at *
   have hi:=wi_add x.length y.length (by omega)
   have hi2:x.length+y.length≤1099511627776:=by omega
   simp only [go_sem,hi,hi2]
   refine trX_loop HE hP.mix [22,2,1,0] (fun q:Nat × List Nat=>⟨upd (upd (upd (upd (upd (upd (fun _=>.junk) 4 (.ref 2 0)) 7 (sv x)) 8 (sv y)) 9 (.sl 22 0 (x.length+y.length) 1)) 51 (.int .i64 (x.length:Int))) 52 (.int .i64 (q.1:Int)),upd (upd (upd (upd (fun _=>.unused) 0 (.live [.int .u64 (a:Int),.nils])) 1 (.live [.int .u64 0,.imm y.length (List.map (fun d:Nat=>AV.int .u64 (d:Int)) (y))])) 2 (.live [.int .u64 0,.nils])) 22 (.live (List.map (fun d:Nat=>AV.int .u64 (d:Int)) (q.2))),111⟩)
    (fun q=>q.1≤x.length∧q.2.length=x.length+y.length∧(∀ d ∈ q.2,d<18446744073709551616)∧(∀ j,q.1+y.length≤j→q.2.getD j 0=0)∧dOf 18446744073709551616 q.2=dOf 18446744073709551616 (x.take q.1)*dOf 18446744073709551616 y) (fun q=>x.length-q.1) (0,List.replicate (x.length+y.length) 0) 60
    Has.z (Kept.of rfl KT.z KM.z) ⟨by simp,by simp,by intro d hd; rw [List.eq_of_mem_replicate hd]; decide,by intro j _; simp [List.getD_eq_getElem?_getD,List.getElem?_replicate]; split<;>rfl,by simp [dOf,dOf_zeros]⟩ 111 (by kernel_rfl) ?_
   rintro ⟨i,z⟩ ⟨q1,q2,q3,q4,q5⟩
   simp only [] at q1 q2 q3 q4 q5
   by_cases hk:i<x.length
   · have hxi:=hxd _ (getD_mem hk)
     simp only [go_sem,hk]
     refine trX_loop HE hP.mix [22,2,1,0] (fun q:Nat × List Nat × Nat=>⟨upd (upd (upd (upd (upd (upd (upd (upd (upd (upd (fun _=>.junk) 4 (.ref 2 0)) 7 (sv x)) 8 (sv y)) 9 (.sl 22 0 (x.length+y.length) 1)) 51 (.int .i64 (x.length:Int))) 52 (.int .i64 (i:Int))) 10 (.int .i64 (i:Int))) 11 (.int .u64 (q.2.2:Int))) 56 (.int .i64 (y.length:Int))) 57 (.int .i64 (q.1:Int)),upd (upd (upd (upd (fun _=>.unused) 0 (.live [.int .u64 (a:Int),.nils])) 1 (.live [.int .u64 0,.imm y.length (List.map (fun d:Nat=>AV.int .u64 (d:Int)) (y))])) 2 (.live [.int .u64 0,.nils])) 22 (.live (List.map (fun d:Nat=>AV.int .u64 (d:Int)) (q.2.1))),111⟩)
      (fun q=>q.1≤y.length∧q.2.1.length=x.length+y.length∧(∀ d ∈ q.2.1,d<18446744073709551616)∧q.2.2<18446744073709551616∧(∀ j,i+y.length≤j→q.2.1.getD j 0=0)∧dOf 18446744073709551616 q.2.1+18446744073709551616^(i+q.1)*q.2.2=dOf 18446744073709551616 z+18446744073709551616^i*x.getD i 0*dOf 18446744073709551616 (y.take q.1)) (fun q=>y.length-q.1) (0,z,0) 60
      Has.z (Kept.of rfl KT.z KM.z) ⟨by simp,q2,q3,by simp,q4,by simp [dOf]⟩ 111 (by kernel_rfl) ?_
     rintro ⟨j,z',c⟩ ⟨r1,r2,r3,r4,r5,r6⟩
     simp only [] at r1 r2 r3 r4 r5 r6
     by_cases hj:j<y.length
     · have e1:x ≠ []:=by intro e; rw [e] at hk; simp at hk
       have e2:y ≠ []:=by intro e; rw [e] at hj; simp at hj
       have hyj:=hyd _ (getD_mem hj)
       have hij:i+j<x.length+y.length:=by omega
       have hz:i+j<z'.length:=by omega
       have hzd:=r3 _ (getD_mem hz)
       have hm:=mull_lt (x.getD i 0) (y.getD j 0)
       have hal:=addl_lt (mull (x.getD i 0) (y.getD j 0)) c 0
       have hcar:=mul_carry hxi hyj r4 hzd
       have hw1:=wu_add' (mulh (x.getD i 0) (y.getD j 0)) (addh (mull (x.getD i 0) (y.getD j 0)) c 0) (by omega)
       have hw2:=wu_add' (mulh (x.getD i 0) (y.getD j 0)+addh (mull (x.getD i 0) (y.getD j 0)) c 0) (addh (z'.getD (i+j) 0) (addl (mull (x.getD i 0) (y.getD j 0)) c 0) 0) hcar
       have hw3:=wi_add i j (by omega)
       have hw4:=wi_add1 j (by omega)
       have hki:i≤x.length:=by omega
       have hkj:j≤y.length:=by omega
       simp only [go_sem,hj,hk,hki,hkj,sv_ia e1,sv_ia e2,gU' hk,gU' hj,hxi,hyj,hm,hal,hw1,hw2,hw3,hw4,hij,hz,gU hz,hzd]
       have hs:=dOf_set 18446744073709551616 z' (i+j) (addl (z'.getD (i+j) 0) (addl (mull (x.getD i 0) (y.getD j 0)) c 0) 0) hz
       have hst:=mul_step (18446744073709551616^(i+j)) (x.getD i 0) (y.getD j 0) c (z'.getD (i+j) 0) _ _ _ r6 hs
       refine ⟨(j+1,z'.set (i+j) (addl (z'.getD (i+j) 0) (addl (mull (x.getD i 0) (y.getD j 0)) c 0) 0),mulh (x.getD i 0) (y.getD j 0)+addh (mull (x.getD i 0) (y.getD j 0)) c 0+addh (z'.getD (i+j) 0) (addl (mull (x.getD i 0) (y.getD j 0)) c 0) 0),Kept.of rfl KT.z KM.z,⟨by simp only []; omega,by simp only [List.length_set]; omega,?_,hcar,?_,?_⟩,by simp only []; omega⟩
       · intro d hd
         rcases List.mem_or_eq_of_mem_set hd with hd|rfl
         · exact r3 d hd
         · exact addl_lt _ _ _
       · intro j' hj'
         simp only []
         rw [getD_set_ne _ _ _ _ (by omega)]; exact r5 j' hj'
       · simp only []
         rw [dOf_take_succ 18446744073709551616 y j hj,← Nat.add_assoc,Nat.pow_succ]
         refine hst.trans ?_
         rw [Nat.mul_add (18446744073709551616^i*x.getD i 0)]
         congr 2
         rw [Nat.pow_add]
         generalize x.getD i 0=u; generalize y.getD j 0=v; generalize 18446744073709551616^i=p1; generalize 18446744073709551616^j=p2
         simp only [Nat.mul_assoc]; congr 1; rw [← Nat.mul_assoc,← Nat.mul_assoc,Nat.mul_comm p2 u]
     · have hw1:=wi_add i y.length (by omega)
       have hz:i+y.length<z'.length:=by omega
       have hij:i+y.length<x.length+y.length:=by omega
       have hw2:=wi_add1 i (by omega)
       simp only [go_sem,hj,hw1,hw2,hz,hij,gU hz]
       have htj:y.take j=y:=List.take_of_length_le (by omega)
       have hjl:j=y.length:=by omega
       rw [htj,hjl] at r6
       refine ⟨(i+1,z'.set (i+y.length) c),Kept.of rfl KT.z KM.z,⟨by simp only []; omega,by simp only [List.length_set]; omega,?_,?_,?_⟩,by simp only []; omega⟩
       · intro d hd
         rcases List.mem_or_eq_of_mem_set hd with hd|rfl
         · exact r3 d hd
         · exact r4
       · intro j' hj'
         simp only [] at hj' ⊢
         rw [getD_set_ne _ _ _ _ (by omega)]; exact r5 j' (by omega)
       · simp only []
         have hs:=dOf_set 18446744073709551616 z' (i+y.length) c hz
         rw [r5 _ (Nat.le_refl _),Nat.mul_zero,Nat.add_zero] at hs
         rw [hs,r6,q5,dOf_take_succ 18446744073709551616 x i hk,Nat.add_mul]
   · have htk:z.take (x.length+y.length)=z:=List.take_of_length_le (by omega)
     have hsl:x.length+y.length<4611686018427387904:=by omega
     have hz3:(∀ d ∈ z,d<18446744073709551616)=True:=eq_true q3
     have hti:x.take i=x:=List.take_of_length_le (by omega)
     simp only [go_sem,hk,htk,q2,hz3,hsl]
     rw [q5,hti,hx,hy]; exact .refl _
 · have hl:=digs_length_gt 18446744073709551616 a 1 (by decide) (by omega)
   have hl2:2≤(digs 18446744073709551616 a).length:=by omega
   have hl3:((digs 18446744073709551616 a).length ≠ 0)=True:=eq_true (by omega)
   by_cases h2:b<18446744073709551616
   · rw [natC_great h1,natC_small h2]
     refine CSpec_go (E:=⟨T0,Sb⟩) (fn61 hP) HE hP.mix ?_
     simp only [go_sem,h2,hl2,hl3]
     generalize digs 18446744073709551616 a=x at *
     generalize digs 18446744073709551616 b=y at *
     have hi:=wi_add x.length y.length (by omega)
     have hi2:x.length+y.length≤1099511627776:=by omega
     simp only [go_sem,hi,hi2]
     refine trX_loop HE hP.mix [19,2,1,0] (fun q:Nat × List Nat=>⟨upd (upd (upd (upd (upd (upd (fun _=>.junk) 4 (.ref 2 0)) 7 (sv x)) 8 (sv y)) 9 (.sl 19 0 (x.length+y.length) 1)) 51 (.int .i64 (x.length:Int))) 52 (.int .i64 (q.1:Int)),upd (upd (upd (upd (fun _=>.unused) 0 (.live [.int .u64 0,.imm x.length (List.map (fun d:Nat=>AV.int .u64 (d:Int)) (x))])) 1 (.live [.int .u64 (b:Int),.nils])) 2 (.live [.int .u64 0,.nils])) 19 (.live (List.map (fun d:Nat=>AV.int .u64 (d:Int)) (q.2))),111⟩)
      (fun q=>q.1≤x.length∧q.2.length=x.length+y.length∧(∀ d ∈ q.2,d<18446744073709551616)∧(∀ j,q.1+y.length≤j→q.2.getD j 0=0)∧dOf 18446744073709551616 q.2=dOf 18446744073709551616 (x.take q.1)*dOf 18446744073709551616 y) (fun q=>x.length-q.1) (0,List.replicate (x.length+y.length) 0) 60
      Has.z (Kept.of rfl KT.z KM.z) ⟨by simp,by simp,by intro d hd; rw [List.eq_of_mem_replicate hd]; decide,by intro j _; simp [List.getD_eq_getElem?_getD,List.getElem?_replicate]; split<;>rfl,by simp [dOf,dOf_zeros]⟩ 111 (by kernel_rfl) ?_
     rintro ⟨i,z⟩ ⟨q1,q2,q3,q4,q5⟩
     simp only [] at q1 q2 q3 q4 q5
     by_cases hk:i<x.length
     · have hxi:=hxd _ (getD_mem hk)
       simp only [go_sem,hk]
       refine trX_loop HE hP.mix [19,2,1,0] (fun q:Nat × List Nat × Nat=>⟨upd (upd (upd (upd (upd (upd (upd (upd (upd (upd (fun _=>.junk) 4 (.ref 2 0)) 7 (sv x)) 8 (sv y)) 9 (.sl 19 0 (x.length+y.length) 1)) 51 (.int .i64 (x.length:Int))) 52 (.int .i64 (i:Int))) 10 (.int .i64 (i:Int))) 11 (.int .u64 (q.2.2:Int))) 56 (.int .i64 (y.length:Int))) 57 (.int .i64 (q.1:Int)),upd (upd (upd (upd (fun _=>.unused) 0 (.live [.int .u64 0,.imm x.length (List.map (fun d:Nat=>AV.int .u64 (d:Int)) (x))])) 1 (.live [.int .u64 (b:Int),.nils])) 2 (.live [.int .u64 0,.nils])) 19 (.live (List.map (fun d:Nat=>AV.int .u64 (d:Int)) (q.2.1))),111⟩)
        (fun q=>q.1≤y.length∧q.2.1.length=x.length+y.length∧(∀ d ∈ q.2.1,d<18446744073709551616)∧q.2.2<18446744073709551616∧(∀ j,i+y.length≤j→q.2.1.getD j 0=0)∧dOf 18446744073709551616 q.2.1+18446744073709551616^(i+q.1)*q.2.2=dOf 18446744073709551616 z+18446744073709551616^i*x.getD i 0*dOf 18446744073709551616 (y.take q.1)) (fun q=>y.length-q.1) (0,z,0) 60
        Has.z (Kept.of rfl KT.z KM.z) ⟨by simp,q2,q3,by simp,q4,by simp [dOf]⟩ 111 (by kernel_rfl) ?_
       rintro ⟨j,z',c⟩ ⟨r1,r2,r3,r4,r5,r6⟩
       simp only [] at r1 r2 r3 r4 r5 r6
       by_cases hj:j<y.length
       · have e1:x ≠ []:=by intro e; rw [e] at hk; simp at hk
         have e2:y ≠ []:=by intro e; rw [e] at hj; simp at hj
         have hyj:=hyd _ (getD_mem hj)
         have hij:i+j<x.length+y.length:=by omega
         have hz:i+j<z'.length:=by omega
         have hzd:=r3 _ (getD_mem hz)
         have hm:=mull_lt (x.getD i 0) (y.getD j 0)
         have hal:=addl_lt (mull (x.getD i 0) (y.getD j 0)) c 0
         have hcar:=mul_carry hxi hyj r4 hzd
         have hw1:=wu_add' (mulh (x.getD i 0) (y.getD j 0)) (addh (mull (x.getD i 0) (y.getD j 0)) c 0) (by omega)
         have hw2:=wu_add' (mulh (x.getD i 0) (y.getD j 0)+addh (mull (x.getD i 0) (y.getD j 0)) c 0) (addh (z'.getD (i+j) 0) (addl (mull (x.getD i 0) (y.getD j 0)) c 0) 0) hcar
         have hw3:=wi_add i j (by omega)
         have hw4:=wi_add1 j (by omega)
         have hki:i≤x.length:=by omega
         have hkj:j≤y.length:=by omega
         simp only [go_sem,hj,hk,hki,hkj,sv_ia e1,sv_ia e2,gU' hk,gU' hj,hxi,hyj,hm,hal,hw1,hw2,hw3,hw4,hij,hz,gU hz,hzd]
         have hs:=dOf_set 18446744073709551616 z' (i+j) (addl (z'.getD (i+j) 0) (addl (mull (x.getD i 0) (y.getD j 0)) c 0) 0) hz
         have hst:=mul_step (18446744073709551616^(i+j)) (x.getD i 0) (y.getD j 0) c (z'.getD (i+j) 0) _ _ _ r6 hs
         refine ⟨(j+1,z'.set (i+j) (addl (z'.getD (i+j) 0) (addl (mull (x.getD i 0) (y.getD j 0)) c 0) 0),mulh (x.getD i 0) (y.getD j 0)+addh (mull (x.getD i 0) (y.getD j 0)) c 0+addh (z'.getD (i+j) 0) (addl (mull (x.getD i 0) (y.getD j 0)) c 0) 0),Kept.of rfl KT.z KM.z,⟨by simp only []; omega,by simp only [List.length_set]; omega,?_,hcar,?_,?_⟩,by simp only []; omega⟩
         · intro d hd
           rcases List.mem_or_eq_of_mem_set hd with hd|rfl
           · exact r3 d hd
           · exact addl_lt _ _ _
         · intro j' hj'
           simp only []
           rw [getD_set_ne _ _ _ _ (by omega)]; exact r5 j' hj'
         · simp only []
           rw [dOf_take_succ 18446744073709551616 y j hj,← Nat.add_assoc,Nat.pow_succ]
           refine hst.trans ?_
           rw [Nat.mul_add (18446744073709551616^i*x.getD i 0)]
           congr 2
           rw [Nat.pow_add]
           generalize x.getD i 0=u; generalize y.getD j 0=v; generalize 18446744073709551616^i=p1; generalize 18446744073709551616^j=p2
           simp only [Nat.mul_assoc]; congr 1; rw [← Nat.mul_assoc,← Nat.mul_assoc,Nat.mul_comm p2 u]
       · have hw1:=wi_add i y.length (by omega)
         have hz:i+y.length<z'.length:=by omega
         have hij:i+y.length<x.length+y.length:=by omega
         have hw2:=wi_add1 i (by omega)
         simp only [go_sem,hj,hw1,hw2,hz,hij,gU hz]
         have htj:y.take j=y:=List.take_of_length_le (by omega)
         have hjl:j=y.length:=by omega
         rw [htj,hjl] at r6
         refine ⟨(i+1,z'.set (i+y.length) c),Kept.of rfl KT.z KM.z,⟨by simp only []; omega,by simp only [List.length_set]; omega,?_,?_,?_⟩,by simp only []; omega⟩
         · intro d hd
           rcases List.mem_or_eq_of_mem_set hd with hd|rfl
           · exact r3 d hd
           · exact r4
         · intro j' hj'
           simp only [] at hj' ⊢
           rw [getD_set_ne _ _ _ _ (by omega)]; exact r5 j' (by omega)
         · simp only []
           have hs:=dOf_set 18446744073709551616 z' (i+y.length) c hz
           rw [r5 _ (Nat.le_refl _),Nat.mul_zero,Nat.add_zero] at hs
           rw [hs,r6,q5,dOf_take_succ 18446744073709551616 x i hk,Nat.add_mul]
     · have htk:z.take (x.length+y.length)=z:=List.take_of_length_le (by omega)
       have hsl:x.length+y.length<4611686018427387904:=by omega
       have hz3:(∀ d ∈ z,d<18446744073709551616)=True:=eq_true q3
       have hti:x.take i=x:=List.take_of_length_le (by omega)
       simp only [go_sem,hk,htk,q2,hz3,hsl]
       rw [q5,hti,hx,hy]; exact .refl _
   · rw [natC_great h1,natC_great h2]
     have hl4:=digs_length_gt 18446744073709551616 b 1 (by decide) (by omega)
     have hl5:2≤(digs 18446744073709551616 b).length:=by omega
     have hl6:((digs 18446744073709551616 b).length ≠ 0)=True:=eq_true (by omega)
     refine CSpec_go (E:=⟨T0,Sb⟩) (fn61 hP) HE hP.mix ?_
     simp only [go_sem,hl2,hl3,hl5,hl6]
     generalize digs 18446744073709551616 a=x at *
     generalize digs 18446744073709551616 b=y at *
     have hi:=wi_add x.length y.length (by omega)
     have hi2:x.length+y.length≤1099511627776:=by omega
     simp only [go_sem,hi,hi2]
     refine trX_loop HE hP.mix [19,2,1,0] (fun q:Nat × List Nat=>⟨upd (upd (upd (upd (upd (upd (fun _=>.junk) 4 (.ref 2 0)) 7 (sv x)) 8 (sv y)) 9 (.sl 19 0 (x.length+y.length) 1)) 51 (.int .i64 (x.length:Int))) 52 (.int .i64 (q.1:Int)),upd (upd (upd (upd (fun _=>.unused) 0 (.live [.int .u64 0,.imm x.length (List.map (fun d:Nat=>AV.int .u64 (d:Int)) (x))])) 1 (.live [.int .u64 0,.imm y.length (List.map (fun d:Nat=>AV.int .u64 (d:Int)) (y))])) 2 (.live [.int .u64 0,.nils])) 19 (.live (List.map (fun d:Nat=>AV.int .u64 (d:Int)) (q.2))),111⟩)
      (fun q=>q.1≤x.length∧q.2.length=x.length+y.length∧(∀ d ∈ q.2,d<18446744073709551616)∧(∀ j,q.1+y.length≤j→q.2.getD j 0=0)∧dOf 18446744073709551616 q.2=dOf 18446744073709551616 (x.take q.1)*dOf 18446744073709551616 y) (fun q=>x.length-q.1) (0,List.replicate (x.length+y.length) 0) 60
      Has.z (Kept.of rfl KT.z KM.z) ⟨by simp,by simp,by intro d hd; rw [List.eq_of_mem_replicate hd]; decide,by intro j _; simp [List.getD_eq_getElem?_getD,List.getElem?_replicate]; split<;>rfl,by simp [dOf,dOf_zeros]⟩ 111 (by kernel_rfl) ?_
     rintro ⟨i,z⟩ ⟨q1,q2,q3,q4,q5⟩
     simp only [] at q1 q2 q3 q4 q5
     by_cases hk:i<x.length
     · have hxi:=hxd _ (getD_mem hk)
       simp only [go_sem,hk]
       refine trX_loop HE hP.mix [19,2,1,0] (fun q:Nat × List Nat × Nat=>⟨upd (upd (upd (upd (upd (upd (upd (upd (upd (upd (fun _=>.junk) 4 (.ref 2 0)) 7 (sv x)) 8 (sv y)) 9 (.sl 19 0 (x.length+y.length) 1)) 51 (.int .i64 (x.length:Int))) 52 (.int .i64 (i:Int))) 10 (.int .i64 (i:Int))) 11 (.int .u64 (q.2.2:Int))) 56 (.int .i64 (y.length:Int))) 57 (.int .i64 (q.1:Int)),upd (upd (upd (upd (fun _=>.unused) 0 (.live [.int .u64 0,.imm x.length (List.map (fun d:Nat=>AV.int .u64 (d:Int)) (x))])) 1 (.live [.int .u64 0,.imm y.length (List.map (fun d:Nat=>AV.int .u64 (d:Int)) (y))])) 2 (.live [.int .u64 0,.nils])) 19 (.live (List.map (fun d:Nat=>AV.int .u64 (d:Int)) (q.2.1))),111⟩)
        (fun q=>q.1≤y.length∧q.2.1.length=x.length+y.length∧(∀ d ∈ q.2.1,d<18446744073709551616)∧q.2.2<18446744073709551616∧(∀ j,i+y.length≤j→q.2.1.getD j 0=0)∧dOf 18446744073709551616 q.2.1+18446744073709551616^(i+q.1)*q.2.2=dOf 18446744073709551616 z+18446744073709551616^i*x.getD i 0*dOf 18446744073709551616 (y.take q.1)) (fun q=>y.length-q.1) (0,z,0) 60
        Has.z (Kept.of rfl KT.z KM.z) ⟨by simp,q2,q3,by simp,q4,by simp [dOf]⟩ 111 (by kernel_rfl) ?_
       rintro ⟨j,z',c⟩ ⟨r1,r2,r3,r4,r5,r6⟩
       simp only [] at r1 r2 r3 r4 r5 r6
       by_cases hj:j<y.length
       · have e1:x ≠ []:=by intro e; rw [e] at hk; simp at hk
         have e2:y ≠ []:=by intro e; rw [e] at hj; simp at hj
         have hyj:=hyd _ (getD_mem hj)
         have hij:i+j<x.length+y.length:=by omega
         have hz:i+j<z'.length:=by omega
         have hzd:=r3 _ (getD_mem hz)
         have hm:=mull_lt (x.getD i 0) (y.getD j 0)
         have hal:=addl_lt (mull (x.getD i 0) (y.getD j 0)) c 0
         have hcar:=mul_carry hxi hyj r4 hzd
         have hw1:=wu_add' (mulh (x.getD i 0) (y.getD j 0)) (addh (mull (x.getD i 0) (y.getD j 0)) c 0) (by omega)
         have hw2:=wu_add' (mulh (x.getD i 0) (y.getD j 0)+addh (mull (x.getD i 0) (y.getD j 0)) c 0) (addh (z'.getD (i+j) 0) (addl (mull (x.getD i 0) (y.getD j 0)) c 0) 0) hcar
         have hw3:=wi_add i j (by omega)
         have hw4:=wi_add1 j (by omega)
         have hki:i≤x.length:=by omega
         have hkj:j≤y.length:=by omega
         simp only [go_sem,hj,hk,hki,hkj,sv_ia e1,sv_ia e2,gU' hk,gU' hj,hxi,hyj,hm,hal,hw1,hw2,hw3,hw4,hij,hz,gU hz,hzd]
         have hs:=dOf_set 18446744073709551616 z' (i+j) (addl (z'.getD (i+j) 0) (addl (mull (x.getD i 0) (y.getD j 0)) c 0) 0) hz
         have hst:=mul_step (18446744073709551616^(i+j)) (x.getD i 0) (y.getD j 0) c (z'.getD (i+j) 0) _ _ _ r6 hs
         refine ⟨(j+1,z'.set (i+j) (addl (z'.getD (i+j) 0) (addl (mull (x.getD i 0) (y.getD j 0)) c 0) 0),mulh (x.getD i 0) (y.getD j 0)+addh (mull (x.getD i 0) (y.getD j 0)) c 0+addh (z'.getD (i+j) 0) (addl (mull (x.getD i 0) (y.getD j 0)) c 0) 0),Kept.of rfl KT.z KM.z,⟨by simp only []; omega,by simp only [List.length_set]; omega,?_,hcar,?_,?_⟩,by simp only []; omega⟩
         · intro d hd
           rcases List.mem_or_eq_of_mem_set hd with hd|rfl
           · exact r3 d hd
           · exact addl_lt _ _ _
         · intro j' hj'
           simp only []
           rw [getD_set_ne _ _ _ _ (by omega)]; exact r5 j' hj'
         · simp only []
           rw [dOf_take_succ 18446744073709551616 y j hj,← Nat.add_assoc,Nat.pow_succ]
           refine hst.trans ?_
           rw [Nat.mul_add (18446744073709551616^i*x.getD i 0)]
           congr 2
           rw [Nat.pow_add]
           generalize x.getD i 0=u; generalize y.getD j 0=v; generalize 18446744073709551616^i=p1; generalize 18446744073709551616^j=p2
           simp only [Nat.mul_assoc]; congr 1; rw [← Nat.mul_assoc,← Nat.mul_assoc,Nat.mul_comm p2 u]
       · have hw1:=wi_add i y.length (by omega)
         have hz:i+y.length<z'.length:=by omega
         have hij:i+y.length<x.length+y.length:=by omega
         have hw2:=wi_add1 i (by omega)
         simp only [go_sem,hj,hw1,hw2,hz,hij,gU hz]
         have htj:y.take j=y:=List.take_of_length_le (by omega)
         have hjl:j=y.length:=by omega
         rw [htj,hjl] at r6
         refine ⟨(i+1,z'.set (i+y.length) c),Kept.of rfl KT.z KM.z,⟨by simp only []; omega,by simp only [List.length_set]; omega,?_,?_,?_⟩,by simp only []; omega⟩
         · intro d hd
           rcases List.mem_or_eq_of_mem_set hd with hd|rfl
           · exact r3 d hd
           · exact r4
         · intro j' hj'
           simp only [] at hj' ⊢
           rw [getD_set_ne _ _ _ _ (by omega)]; exact r5 j' (by omega)
         · simp only []
           have hs:=dOf_set 18446744073709551616 z' (i+y.length) c hz
           rw [r5 _ (Nat.le_refl _),Nat.mul_zero,Nat.add_zero] at hs
           rw [hs,r6,q5,dOf_take_succ 18446744073709551616 x i hk,Nat.add_mul]
     · have htk:z.take (x.length+y.length)=z:=List.take_of_length_le (by omega)
       have hsl:x.length+y.length<4611686018427387904:=by omega
       have hz3:(∀ d ∈ z,d<18446744073709551616)=True:=eq_true q3
       have hti:x.take i=x:=List.take_of_length_le (by omega)
       simp only [go_sem,hk,htk,q2,hz3,hsl]
       rw [q5,hti,hx,hy]; exact .refl _
theorem Mul_spec (hP:PrgOk P) (a b:Nat) (ha:blen a≤68719476736) (hb:blen b≤68719476736):CSpec P 61 [(.agg [.opq (.nat (a)),.pad]),(.agg [.opq (.nat (b)),.pad])] (.agg [.opq (.nat (a*b)),.pad]):=by
 refine CSpec.cv ?_ (CvL.natIn a (CvL.natIn b .nil))
 by_cases h:a<18446744073709551616∧b<18446744073709551616
 · rw [natC_small h.1,natC_small h.2]; exact Mul_small hP a b h.1 h.2
 · exact Mul_great hP a b ha hb h
def MulS:List AV→Option (Prop × AV):=on2 fun a b=>(blen a≤68719476736∧blen b≤68719476736,(.agg [.opq (.nat (a*b)),.pad]))
theorem MulS_ok (hP:PrgOk P) (args p r):MulS args=some (p,r)→p→CSpec P 61 args r:=on2_ok (fun a b h=>by exact Mul_spec hP a b h.1 h.2) args p r
attribute [go_sem] MulS
theorem w3 (U u Q V R:Nat) (h:Q*V+R=U*4294967296+u) (hR:R<18446744073709551616):∃ A1 A2 A3:Nat,IntKind.u64.wrap ((U:Int)*4294967296)=(A1:Int)∧IntKind.u64.wrap ((A1:Int)+(u:Int))=(A2:Int)∧IntKind.u64.wrap ((Q:Int)*(V:Int))=(A3:Int)∧IntKind.u64.wrap ((A2:Int)-(A3:Int))=(R:Int):=by
 refine ⟨U*4294967296 % 18446744073709551616,(U*4294967296 % 18446744073709551616+u) % 18446744073709551616,Q*V % 18446744073709551616,?_,?_,wu_mul Q V,?_⟩
 · rw [IntKind.wrap_u64]; omega
 · rw [wu_add]
 · rw [IntKind.wrap_u64]; generalize Q*V=c at *; omega
theorem half_dec {Vh Vl U u q r:Nat} (hq:q*Vh+r=U) (hU:U<Vh*4294967296+Vl) (hu:u<4294967296) (h:4294967296≤q∨4294967296*r+u<q*Vl):U*4294967296+u<q*(Vh*4294967296+Vl):=by
 rcases h with h|h
 · have h1:(U+1)*4294967296≤(Vh*4294967296+Vl)*4294967296:=Nat.mul_le_mul_right _ hU
   have h2:4294967296*(Vh*4294967296+Vl)≤q*(Vh*4294967296+Vl):=Nat.mul_le_mul_right _ h
   rw [Nat.mul_comm 4294967296] at h2
   omega
 · rw [Nat.mul_add,← Nat.mul_assoc,← hq]; omega
theorem half_done {Vh Vl U u q r:Nat} (hq:q*Vh+r=U) (hl:U*4294967296+u<(q+1)*(Vh*4294967296+Vl)) (h:q*Vl≤4294967296*r+u):q=(U*4294967296+u) / (Vh*4294967296+Vl):=by
 refine (Nat.div_eq_of_lt_le ?_ hl).symm
 rw [Nat.mul_add,← Nat.mul_assoc,← hq]; omega
theorem half_done2 {Vl u q r:Nat} (hr:4294967296≤r) (hq:q≤4294967296) (hVl:Vl<4294967296):q*Vl≤4294967296*r+u:=by
 have h1:q*Vl≤4294967296*Vl:=Nat.mul_le_mul_right _ hq
 have h2:4294967296*Vl≤4294967296*r:=Nat.mul_le_mul_left _ (by omega)
 omega
theorem half_init {Vh Vl U u:Nat} (hVh:2147483648≤Vh) (hVl:Vl<4294967296) (hu:u<4294967296) (hU:U<Vh*4294967296+Vl):U / Vh*Vh+U % Vh=U∧U % Vh<Vh∧U*4294967296+u<(U / Vh+1)*(Vh*4294967296+Vl)∧U / Vh≤4294967297:=by
 have h1:=Nat.div_add_mod U Vh
 rw [Nat.mul_comm] at h1
 have h2:U % Vh<Vh:=Nat.mod_lt _ (by omega)
 refine ⟨h1,h2,?_,?_⟩
 · rw [Nat.mul_add,← Nat.mul_assoc,Nat.add_mul,Nat.one_mul]; omega
 · have:U / Vh<4294967298:=(Nat.div_lt_iff_lt_mul (by omega)).2 (by omega)
   omega
theorem half_lt {V U u:Nat} (hU:U<V) (hu:u<4294967296):(U*4294967296+u) / V<4294967296:=by
 rw [Nat.div_lt_iff_lt_mul (by omega)]
 have:(U+1)*4294967296≤V*4294967296:=Nat.mul_le_mul_right _ hU
 omega
theorem mulW (a:Nat) (h:a<4294967296):IntKind.u64.wrap ((a:Int)*4294967296)=((a*4294967296:Nat):Int):=by rw [IntKind.wrap_u64]; omega
theorem succ_of {a q b:Nat} (h:a<q*b):∃ Q,q=Q+1:=by
 cases q with
 | zero=>simp at h
 | succ n=>exact ⟨n,rfl⟩
theorem div64_aux {c R1 U u1 u0:Nat} (h:c+R1=U*4294967296+u1):c*4294967296+(R1*4294967296+u0)=U*18446744073709551616+(u1*4294967296+u0):=by
 rw [← Nat.add_assoc,← Nat.add_mul,h,Nat.add_mul,Nat.mul_assoc,Nat.add_assoc]
theorem div64_final {x y v s U u1 u0 Q1 R1 Q0 R0 V:Nat} (hv:0<v) (hV:V=v*2^s) (hU:U*18446744073709551616+(u1*4294967296+u0)=(x*18446744073709551616+y)*2^s) (h1:Q1*V+R1=U*4294967296+u1) (h0:Q0*V+R0=R1*4294967296+u0) (hR:R0<V):Q1*4294967296+Q0=divq x y v∧R0 / 2^s=divr x y v:=by
 have e1:(Q1*4294967296+Q0)*V+R0=(x*18446744073709551616+y)*2^s:=by
  rw [← hU,Nat.add_mul,Nat.add_assoc,h0,Nat.mul_right_comm]
  clear hU hR hv h0 hV
  exact div64_aux h1
 have e2:divq x y v*V+divr x y v*2^s=(x*18446744073709551616+y)*2^s:=by
  rw [hV,← Nat.mul_assoc,← Nat.add_mul,div_all]
 have h2:divr x y v*2^s<V:=by rw [hV]; exact Nat.mul_lt_mul_of_pos_right (divr_lt x y hv) (Nat.two_pow_pos s)
 have hVp:0<V:=by omega
 have a1:((Q1*4294967296+Q0)*V+R0) / V=Q1*4294967296+Q0:=by rw [Nat.mul_comm,Nat.mul_add_div hVp,Nat.div_eq_of_lt hR,Nat.add_zero]
 have a2:(divq x y v*V+divr x y v*2^s) / V=divq x y v:=by rw [Nat.mul_comm,Nat.mul_add_div hVp,Nat.div_eq_of_lt h2,Nat.add_zero]
 rw [e1] at a1; rw [e2] at a2
 have a3:=a1.symm.trans a2
 refine ⟨a3,?_⟩
 rw [a3] at e1
 have:R0=divr x y v*2^s:=by omega
 rw [this,Nat.mul_div_cancel _ (Nat.two_pow_pos s)]
theorem fd_pow (a k:Nat):((a:Int)).fdiv (2^k)=((a / 2^k:Nat):Int):=by
 rw [show (2:Int)^k=((2^k:Nat):Int) by simp,Int.fdiv_eq_ediv_of_nonneg _ (Int.natCast_nonneg _)]; exact (Int.natCast_ediv _ _).symm
theorem and_fix (a b:BitVec 64):@HAnd.hAnd (BitVec 64) (BitVec 64) (BitVec 64) (@instHAndOfAndOp (BitVec IntKind.u64.bits) (@BitVec.instAndOp IntKind.u64.bits)) a b=a &&& b:=rfl
theorem or_fix (a b:BitVec 64):@HOr.hOr (BitVec 64) (BitVec 64) (BitVec 64) (@instHOrOfOrOp (BitVec IntKind.u64.bits) (@BitVec.instOrOp IntKind.u64.bits)) a b=a ||| b:=rfl
theorem m32:(2:Nat)^min 32 64=4294967296:=by decide
theorem bv_nat (a:Nat) (h:a<18446744073709551616):(BitVec.ofInt 64 (a:Int)).toNat=a:=by
 rw [BitVec.ofInt_natCast,BitVec.toNat_ofNat]; exact Nat.mod_eq_of_lt h
theorem u_nat (a:Nat) (h:a<18446744073709551616):IntKind.u64.wrap (a:Int)=(a:Int):=by rw [IntKind.wrap_u64]; omega
theorem and32 (a:Nat) (h:a<18446744073709551616):IntKind.u64.wrap (((BitVec.ofInt 64 (a:Int) &&& BitVec.ofInt 64 4294967295).toNat:Nat):Int)=((a % 4294967296:Nat):Int):=by
 rw [BitVec.toNat_and,bv_nat a h,show (BitVec.ofInt 64 4294967295).toNat=2^32-1 from rfl,Nat.and_two_pow_sub_one_eq_mod]
 exact u_nat _ (by omega)
theorem or64 (a b s:Nat) (ha:a*2^s<18446744073709551616) (hb:b<2^s) (hs:s≤64):IntKind.u64.wrap (((BitVec.ofInt 64 ((a*2^s:Nat):Int) ||| BitVec.ofInt 64 (b:Int)).toNat:Nat):Int)=((a*2^s+b:Nat):Int):=by
 have e:a*2^s ||| b=a*2^s+b:=by rw [Nat.mul_comm]; exact (Nat.two_pow_add_eq_or_of_lt hb a).symm
 have h2:(2:Nat)^s ∣ 18446744073709551616:=by rw [show 18446744073709551616=2^64 from rfl]; exact Nat.pow_dvd_pow 2 hs
 have h3:a*2^s+b<18446744073709551616:=by
  obtain ⟨c,hc⟩:=h2
  rw [hc] at ha ⊢
  have:a<c:=by rw [Nat.mul_comm] at ha; exact Nat.lt_of_mul_lt_mul_left ha
  have h4:(a+1)*2^s≤c*2^s:=Nat.mul_le_mul_right _ this
  rw [Nat.mul_comm c] at h4
  rw [Nat.add_mul,Nat.one_mul] at h4; omega
 rw [BitVec.toNat_or,bv_nat _ ha,bv_nat b (by omega),e]
 exact u_nat _ h3
theorem low64 (V:Nat) (h:V<18446744073709551616):V / 4294967296*4294967296+V % 4294967296=V∧V / 4294967296<4294967296∧V % 4294967296<4294967296:=by omega
theorem div64_setup {x y v:Nat} (hv0:0<v) (hv:v<18446744073709551616) (hx:x<v) (hy:y<18446744073709551616):∃ s V Vh Vl xs ys U L u1 u0:Nat,s≤63∧64-blen v=s∧V=v*2^s∧V<18446744073709551616∧V=Vh*4294967296+Vl∧2147483648≤Vh∧Vh<4294967296∧Vl<4294967296∧U<V∧u1<4294967296∧u0<4294967296∧L<18446744073709551616 ∧
 U*18446744073709551616+(u1*4294967296+u0)=(x*18446744073709551616+y)*2^s∧IntKind.u64.wrap ((v:Int)*2^s)=(V:Int)∧V / 4294967296=Vh∧V % 4294967296=Vl∧IntKind.u64.wrap ((x:Int)*2^s)=(xs:Int)∧y / 2^(64-s)=ys ∧
 IntKind.u64.wrap (((BitVec.ofInt 64 (xs:Int) ||| BitVec.ofInt 64 (ys:Int)).toNat:Nat):Int)=(U:Int)∧IntKind.u64.wrap ((y:Int)*2^s)=(L:Int)∧L / 4294967296=u1∧L % 4294967296=u0:=by
 have b1:=blen_lt v
 have b2:blen v≤64:=(blen_le_iff v 64).2 hv
 have b3:¬ blen v≤0:=by rw [Nat.le_zero,blen_zero_iff]; omega
 have b4:¬ blen v≤blen v-1:=by omega
 rw [blen_le_iff] at b4
 obtain ⟨s,hs⟩:∃ s,64-blen v=s:=⟨_,rfl⟩
 have hs1:blen v=64-s:=by omega
 rw [hs1] at b1 b4
 have hss:s≤63:=by omega
 have p1:(2:Nat)^(64-s)*2^s=18446744073709551616:=by rw [← Nat.pow_add,show 64-s+s=64 by omega]
 have p2:(2:Nat)^(64-s-1)*2^s=9223372036854775808:=by rw [← Nat.pow_add,show 64-s-1+s=63 by omega]
 have hpos:=Nat.two_pow_pos s
 have hpos2:=Nat.two_pow_pos (64-s)
 have hV:v*2^s<18446744073709551616:=by rw [← p1]; exact Nat.mul_lt_mul_of_pos_right b1 hpos
 have hV2:9223372036854775808≤v*2^s:=by rw [← p2]; exact Nat.mul_le_mul_right _ (by omega)
 have hxs:x*2^s<18446744073709551616:=Nat.lt_trans (Nat.mul_lt_mul_of_pos_right hx hpos) hV
 have hys:y / 2^(64-s)<2^s:=by rw [Nat.div_lt_iff_lt_mul hpos2,Nat.mul_comm,p1]; exact hy
 have hU:x*2^s+y / 2^(64-s)<v*2^s:=by
  have:(x+1)*2^s≤v*2^s:=Nat.mul_le_mul_right _ hx
  rw [Nat.add_mul,Nat.one_mul] at this; omega
 have hL:y*2^s % 18446744073709551616=y % 2^(64-s)*2^s:=by
  rw [← p1,Nat.mul_mod_mul_right]
 have hy2:=Nat.div_add_mod y (2^(64-s))
 have c1:=low64 (v*2^s) hV
 have c2:=low64 (y*2^s % 18446744073709551616) (Nat.mod_lt _ (by decide))
 have cast:∀ z:Nat,(z:Int)*2^s=((z*2^s:Nat):Int):=fun z=>by simp
 refine ⟨s,v*2^s,v*2^s / 4294967296,v*2^s % 4294967296,x*2^s,y / 2^(64-s),x*2^s+y / 2^(64-s),y*2^s % 18446744073709551616,y*2^s % 18446744073709551616 / 4294967296,y*2^s % 18446744073709551616 % 4294967296,hss,hs,rfl,hV,c1.1.symm,by omega,c1.2.1,c1.2.2,hU,c2.2.1,c2.2.2,Nat.mod_lt _ (by decide),?_,?_,rfl,rfl,?_,rfl,or64 _ _ _ hxs hys (by omega),?_,rfl,rfl⟩
 · rw [c2.1,hL,Nat.add_mul,Nat.add_mul,Nat.mul_right_comm x,Nat.add_assoc]
   congr 1
   conv=>rhs; rw [← hy2]
   rw [Nat.add_mul]
   congr 1
   rw [← p1,Nat.mul_comm (2^(64-s)) (y / _),Nat.mul_assoc]
 · rw [cast]; exact u_nat _ hV
 · rw [cast]; exact u_nat _ hxs
 · rw [cast,IntKind.wrap_u64]; omega
theorem Div64_low (hP:PrgOk P) (y v:Nat) (hy:y<18446744073709551616) (hv:v<18446744073709551616) (h:0<v):CSpec P 145 [.int .u64 0,.int .u64 (y:Int),.int .u64 (v:Int)] (.tup [.int .u64 ((y / v:Nat):Int),.int .u64 ((y % v:Nat):Int)]):=by
 have HE:=Sb_ok hP
 refine CSpec_go (E:=⟨T0,Sb⟩) (fn145 hP) HE hP.mix ?_
 have h0:(v == 0)=false:=by simp; omega
 have h1:¬ v≤0:=by omega
 have h2:=wu_div y v hy
 have h3:=u_mod y v
 simp only [go_sem,h0,h1,h2,h3]
 exact ⟨by omega,by omega,.refl _⟩
theorem Div64_high (hP:PrgOk P) (x y v:Nat) (hy:y<18446744073709551616) (hv:v<18446744073709551616) (h:x<v) (hx:0<x):CSpec P 145 [.int .u64 (x:Int),.int .u64 (y:Int),.int .u64 (v:Int)] (.tup [.int .u64 ((divq x y v:Nat):Int),.int .u64 ((divr x y v:Nat):Int)]):=by
 have HE:=Sb_ok hP
 refine CSpec_go (E:=⟨T0,Sb⟩) (fn145 hP) HE hP.mix ?_
 have h0:(v == 0)=false:=by simp; omega
 have h1:¬ v≤x:=by omega
 have h2:(x == 0)=false:=by simp; omega
 obtain ⟨s,V,Vh,Vl,xs,ys,U,L,u1,u0,s1,s2,s3,s4,s5,s6,s7,s8,s9,s10,s11,s12,s13,w1,w2,w3',w4,w5,w6,w7,w8,w9⟩:=div64_setup (by omega) hv h hy
 have n1:=u_nat s (by omega)
 have n2:min s 64=s:=by omega
 have n3:IntKind.u64.wrap (64-(s:Int))=((64-s:Nat):Int):=by rw [IntKind.wrap_u64]; omega
 have n4:min (64-s) 64=64-s:=by omega
 have n5:=and32 V s4
 have n6:=and32 L s12
 rw [w3'] at n5; rw [w9] at n6
 obtain ⟨i1,i2,i3,i4⟩:=half_init (U:=U) (u:=u1) s6 s8 s10 (by omega)
 have d1:=wu_div U Vh (by omega)
 have d2:IntKind.u64.wrap (((U / Vh:Nat):Int)*(Vh:Int))=((U / Vh*Vh:Nat):Int):=by rw [wu_mul,Nat.mod_eq_of_lt (by omega)]
 have d3:IntKind.u64.wrap ((U:Int)-((U / Vh*Vh:Nat):Int))=((U % Vh:Nat):Int):=by rw [wu_sub _ _ (Nat.div_mul_le_self _ _) (Nat.lt_trans s9 s4)]; congr 1; exact Nat.sub_eq_of_eq_add (i1.symm.trans (Nat.add_comm _ _))
 simp only [go_sem,h0,h1,h2,hv,s2,n1,n2,w1,and_fix,or_fix,fd_pow,m32,w2,n5,w4,n3,n4,w5,w6,w7,w8,n6,d1,d2,d3]
 refine ⟨by omega,by omega,by omega,?_⟩
 generalize U / Vh=q0 at *
 generalize U % Vh=r0 at *
 refine trX_loop HE hP.mix [] (fun p:Nat × Nat=>⟨upd (upd (upd (upd (upd (upd (upd (upd (upd (upd (upd (fun _=>.junk) 2 (.int .u64 (V:Int))) 6 (.int .u64 0)) 7 (.int .u64 0)) 8 (.int .u64 (s:Int))) 9 (.int .u64 (Vh:Int))) 10 (.int .u64 (Vl:Int))) 11 (.int .u64 (U:Int))) 13 (.int .u64 (u1:Int))) 14 (.int .u64 (u0:Int))) 15 (.int .u64 (p.1:Int))) 16 (.int .u64 (p.2:Int)),fun _=>.unused,135⟩)
  (fun p=>p.1*Vh+p.2=U∧p.2<4294967296∧U*4294967296+u1<(p.1+1)*(Vh*4294967296+Vl)∧p.1≤4294967297) (fun p=>p.1) (q0,r0) 0
  Has.z (Kept.of rfl KT.z KM.z) ⟨i1,by omega,i3,i4⟩ 135 (by kernel_rfl) ?_
 rintro ⟨q,r⟩ ⟨j1,j2,j3,j4⟩
 simp only [] at j1 j2 j3 j4
 clear i1 i2 i3 i4 d1 d2 d3 w1 w2 w3' w4 w5 w6 w7 w8 w9 n1 n3 n4 n5 n6
 by_cases hg:4294967296≤q
 · have lt:=half_dec (Vl:=Vl) j1 (by omega) s10 (.inl hg)
   obtain ⟨Q1,hQ1⟩:∃ Q,q=Q+1:=succ_of lt
   subst hQ1
   have m1:=u_nat Q1 (by omega)
   have m2:=wu_add' r Vh (by omega)
   have j1:Q1*Vh+(r+Vh)=U:=by rw [← j1,Nat.succ_mul]; omega
   simp only [go_sem,hg,m1,m2]
   refine if_split (fun hb=>?_) (fun hb=>?_)
   · have hQ0:=half_done j1 lt (half_done2 (of_decide_eq_true hb) (by omega) s8)
     clear j1 j2 j3 j4 m1 m2 hb hg lt
     obtain ⟨R1,k1,k2⟩:∃ R1,Q1*V+R1=U*4294967296+u1∧R1<V:=⟨(U*4294967296+u1) % V,by rw [hQ0,← s5,Nat.mul_comm]; exact Nat.div_add_mod _ _,Nat.mod_lt _ (by omega)⟩
     have hQW:=half_lt s9 s10
     rw [s5,← hQ0] at hQW
     obtain ⟨A1,A2,A3,a1,a2,a3,a4⟩:=w3 U u1 Q1 V R1 k1 (by omega)
     obtain ⟨i1,i2,i3,i4⟩:=half_init (U:=R1) (u:=u0) s6 s8 s11 (by omega)
     have d1:=wu_div R1 Vh (by omega)
     have d2:IntKind.u64.wrap (((R1 / Vh:Nat):Int)*(Vh:Int))=((R1 / Vh*Vh:Nat):Int):=by rw [wu_mul,Nat.mod_eq_of_lt (by omega)]
     have d3:IntKind.u64.wrap ((R1:Int)-((R1 / Vh*Vh:Nat):Int))=((R1 % Vh:Nat):Int):=by rw [wu_sub _ _ (Nat.div_mul_le_self _ _) (Nat.lt_trans k2 s4)]; congr 1; exact Nat.sub_eq_of_eq_add (i1.symm.trans (Nat.add_comm _ _))
     simp only [go_sem,a1,a2,a3,a4,d1,d2,d3]
     refine ⟨by omega,?_⟩
     generalize R1 / Vh=q0 at *
     generalize R1 % Vh=r0 at *
     clear d1 d2 d3
     refine trX_loop HE hP.mix [] (fun p:Nat × Nat=>⟨upd (upd (upd (upd (upd (upd (upd (upd (upd (upd (upd (fun _=>.junk) 2 (.int .u64 (V:Int))) 6 (.int .u64 0)) 7 (.int .u64 0)) 8 (.int .u64 (s:Int))) 9 (.int .u64 (Vh:Int))) 10 (.int .u64 (Vl:Int))) 17 (.int .u64 (R1:Int))) 15 (.int .u64 (Q1:Int))) 14 (.int .u64 (u0:Int))) 18 (.int .u64 (p.1:Int))) 16 (.int .u64 (p.2:Int)),fun _=>.unused,135⟩)
      (fun p=>p.1*Vh+p.2=R1∧p.2<4294967296∧R1*4294967296+u0<(p.1+1)*(Vh*4294967296+Vl)∧p.1≤4294967297) (fun p=>p.1) (q0,r0) 0
      Has.z (Kept.of rfl KT.z KM.z) ⟨i1,by omega,i3,i4⟩ 135 (by kernel_rfl) ?_
     clear i1 i2 i3 i4
     rintro ⟨q',r'⟩ ⟨g1,g2,g3,g4⟩
     simp only [] at g1 g2 g3 g4
     by_cases hg':4294967296≤q'
     · have lt':=half_dec (Vl:=Vl) g1 (by omega) s11 (.inl hg')
       obtain ⟨Q2,hQ2⟩:∃ Q,q'=Q+1:=succ_of lt'
       subst hQ2
       have m1:=u_nat Q2 (by omega)
       have m2:=wu_add' r' Vh (by omega)
       have g1:Q2*Vh+(r'+Vh)=R1:=by rw [← g1,Nat.succ_mul]; omega
       simp only [go_sem,hg',m1,m2]
       refine if_split (fun hb=>?_) (fun hb=>?_)
       · have hQ0:=half_done g1 lt' (half_done2 (of_decide_eq_true hb) (by omega) s8)
         obtain ⟨R0,k3,k4⟩:∃ R0,Q2*V+R0=R1*4294967296+u0∧R0<V:=⟨(R1*4294967296+u0) % V,by rw [hQ0,← s5,Nat.mul_comm]; exact Nat.div_add_mod _ _,Nat.mod_lt _ (by omega)⟩
         obtain ⟨B1,B2,B3,b1,b2,b3,b4⟩:=w3 R1 u0 Q2 V R0 k3 (by omega)
         obtain ⟨z1,z2⟩:=div64_final (by omega) s3 s13 k1 k3 k4
         have z3:=divq_lt h hy
         have y1:=mulW Q1 (by omega)
         have y2:IntKind.u64.wrap (((Q1*4294967296:Nat):Int)+(Q2:Int))=((divq x y v:Nat):Int):=by rw [wu_add' _ _ (by rw [z1]; exact z3),z1]
         simp only [go_sem,b1,b2,b3,b4,y1,y2,n2,fd_pow,z2]
         exact .refl _
       · have hb:=of_decide_eq_false hb
         simp only [go_sem]
         exact ⟨(Q2,r'+Vh),Kept.of rfl KT.z KM.z,⟨g1,by simp only []; omega,lt',by simp only []; omega⟩,by simp only []; omega⟩
     · have e1:IntKind.u64.wrap ((q':Int)*(Vl:Int))=((q'*Vl:Nat):Int):=by
        rw [wu_mul,Nat.mod_eq_of_lt]
        have:=Nat.mul_le_mul (show q'≤4294967295 by omega) (show Vl≤4294967295 by omega)
        omega
       have e2:IntKind.u64.wrap (4294967296*(r':Int))=((4294967296*r':Nat):Int):=by rw [IntKind.wrap_u64]; omega
       have e3:=wu_add' (4294967296*r') u0 (by omega)
       simp only [go_sem,hg',e1,e2,e3]
       refine if_split (fun hc=>?_) (fun hc=>?_)
       · have lt':=half_dec (Vl:=Vl) g1 (by omega) s11 (.inr (of_decide_eq_true hc))
         obtain ⟨Q2,hQ2⟩:∃ Q,q'=Q+1:=succ_of lt'
         subst hQ2
         have m1:=u_nat Q2 (by omega)
         have m2:=wu_add' r' Vh (by omega)
         have g1:Q2*Vh+(r'+Vh)=R1:=by rw [← g1,Nat.succ_mul]; omega
         simp only [go_sem,hg',m1,m2]
         refine if_split (fun hb=>?_) (fun hb=>?_)
         · have hQ0:=half_done g1 lt' (half_done2 (of_decide_eq_true hb) (by omega) s8)
           obtain ⟨R0,k3,k4⟩:∃ R0,Q2*V+R0=R1*4294967296+u0∧R0<V:=⟨(R1*4294967296+u0) % V,by rw [hQ0,← s5,Nat.mul_comm]; exact Nat.div_add_mod _ _,Nat.mod_lt _ (by omega)⟩
           obtain ⟨B1,B2,B3,b1,b2,b3,b4⟩:=w3 R1 u0 Q2 V R0 k3 (by omega)
           obtain ⟨z1,z2⟩:=div64_final (by omega) s3 s13 k1 k3 k4
           have z3:=divq_lt h hy
           have y1:=mulW Q1 (by omega)
           have y2:IntKind.u64.wrap (((Q1*4294967296:Nat):Int)+(Q2:Int))=((divq x y v:Nat):Int):=by rw [wu_add' _ _ (by rw [z1]; exact z3),z1]
           simp only [go_sem,b1,b2,b3,b4,y1,y2,n2,fd_pow,z2]
           exact .refl _
         · have hb:=of_decide_eq_false hb
           simp only [go_sem]
           exact ⟨(Q2,r'+Vh),Kept.of rfl KT.z KM.z,⟨g1,by simp only []; omega,lt',by simp only []; omega⟩,by simp only []; omega⟩
       · have hQ0:=half_done g1 g3 (Nat.le_of_not_lt (of_decide_eq_false hc))
         obtain ⟨R0,k3,k4⟩:∃ R0,q'*V+R0=R1*4294967296+u0∧R0<V:=⟨(R1*4294967296+u0) % V,by rw [hQ0,← s5,Nat.mul_comm]; exact Nat.div_add_mod _ _,Nat.mod_lt _ (by omega)⟩
         obtain ⟨B1,B2,B3,b1,b2,b3,b4⟩:=w3 R1 u0 q' V R0 k3 (by omega)
         obtain ⟨z1,z2⟩:=div64_final (by omega) s3 s13 k1 k3 k4
         have z3:=divq_lt h hy
         have y1:=mulW Q1 (by omega)
         have y2:IntKind.u64.wrap (((Q1*4294967296:Nat):Int)+(q':Int))=((divq x y v:Nat):Int):=by rw [wu_add' _ _ (by rw [z1]; exact z3),z1]
         simp only [go_sem,b1,b2,b3,b4,y1,y2,n2,fd_pow,z2]
         exact .refl _
   · have hb:=of_decide_eq_false hb
     simp only [go_sem]
     exact ⟨(Q1,r+Vh),Kept.of rfl KT.z KM.z,⟨j1,by simp only []; omega,lt,by simp only []; omega⟩,by simp only []; omega⟩
 · have e1:IntKind.u64.wrap ((q:Int)*(Vl:Int))=((q*Vl:Nat):Int):=by
    rw [wu_mul,Nat.mod_eq_of_lt]
    have:=Nat.mul_le_mul (show q≤4294967295 by omega) (show Vl≤4294967295 by omega)
    omega
   have e2:IntKind.u64.wrap (4294967296*(r:Int))=((4294967296*r:Nat):Int):=by rw [IntKind.wrap_u64]; omega
   have e3:=wu_add' (4294967296*r) u1 (by omega)
   simp only [go_sem,hg,e1,e2,e3]
   refine if_split (fun hc=>?_) (fun hc=>?_)
   · have lt:=half_dec (Vl:=Vl) j1 (by omega) s10 (.inr (of_decide_eq_true hc))
     clear e1 e2 e3 hc
     obtain ⟨Q1,hQ1⟩:∃ Q,q=Q+1:=succ_of lt
     subst hQ1
     have m1:=u_nat Q1 (by omega)
     have m2:=wu_add' r Vh (by omega)
     have j1:Q1*Vh+(r+Vh)=U:=by rw [← j1,Nat.succ_mul]; omega
     simp only [go_sem,hg,m1,m2]
     refine if_split (fun hb=>?_) (fun hb=>?_)
     · have hQ0:=half_done j1 lt (half_done2 (of_decide_eq_true hb) (by omega) s8)
       clear j1 j2 j3 j4 m1 m2 hb hg lt
       obtain ⟨R1,k1,k2⟩:∃ R1,Q1*V+R1=U*4294967296+u1∧R1<V:=⟨(U*4294967296+u1) % V,by rw [hQ0,← s5,Nat.mul_comm]; exact Nat.div_add_mod _ _,Nat.mod_lt _ (by omega)⟩
       have hQW:=half_lt s9 s10
       rw [s5,← hQ0] at hQW
       obtain ⟨A1,A2,A3,a1,a2,a3,a4⟩:=w3 U u1 Q1 V R1 k1 (by omega)
       obtain ⟨i1,i2,i3,i4⟩:=half_init (U:=R1) (u:=u0) s6 s8 s11 (by omega)
       have d1:=wu_div R1 Vh (by omega)
       have d2:IntKind.u64.wrap (((R1 / Vh:Nat):Int)*(Vh:Int))=((R1 / Vh*Vh:Nat):Int):=by rw [wu_mul,Nat.mod_eq_of_lt (by omega)]
       have d3:IntKind.u64.wrap ((R1:Int)-((R1 / Vh*Vh:Nat):Int))=((R1 % Vh:Nat):Int):=by rw [wu_sub _ _ (Nat.div_mul_le_self _ _) (Nat.lt_trans k2 s4)]; congr 1; exact Nat.sub_eq_of_eq_add (i1.symm.trans (Nat.add_comm _ _))
       simp only [go_sem,a1,a2,a3,a4,d1,d2,d3]
       refine ⟨by omega,?_⟩
       generalize R1 / Vh=q0 at *
       generalize R1 % Vh=r0 at *
       clear d1 d2 d3
       refine trX_loop HE hP.mix [] (fun p:Nat × Nat=>⟨upd (upd (upd (upd (upd (upd (upd (upd (upd (upd (upd (fun _=>.junk) 2 (.int .u64 (V:Int))) 6 (.int .u64 0)) 7 (.int .u64 0)) 8 (.int .u64 (s:Int))) 9 (.int .u64 (Vh:Int))) 10 (.int .u64 (Vl:Int))) 17 (.int .u64 (R1:Int))) 15 (.int .u64 (Q1:Int))) 14 (.int .u64 (u0:Int))) 18 (.int .u64 (p.1:Int))) 16 (.int .u64 (p.2:Int)),fun _=>.unused,135⟩)
        (fun p=>p.1*Vh+p.2=R1∧p.2<4294967296∧R1*4294967296+u0<(p.1+1)*(Vh*4294967296+Vl)∧p.1≤4294967297) (fun p=>p.1) (q0,r0) 0
        Has.z (Kept.of rfl KT.z KM.z) ⟨i1,by omega,i3,i4⟩ 135 (by kernel_rfl) ?_
       clear i1 i2 i3 i4
       rintro ⟨q',r'⟩ ⟨g1,g2,g3,g4⟩
       simp only [] at g1 g2 g3 g4
       by_cases hg':4294967296≤q'
       · have lt':=half_dec (Vl:=Vl) g1 (by omega) s11 (.inl hg')
         obtain ⟨Q2,hQ2⟩:∃ Q,q'=Q+1:=succ_of lt'
         subst hQ2
         have m1:=u_nat Q2 (by omega)
         have m2:=wu_add' r' Vh (by omega)
         have g1:Q2*Vh+(r'+Vh)=R1:=by rw [← g1,Nat.succ_mul]; omega
         simp only [go_sem,hg',m1,m2]
         refine if_split (fun hb=>?_) (fun hb=>?_)
         · have hQ0:=half_done g1 lt' (half_done2 (of_decide_eq_true hb) (by omega) s8)
           obtain ⟨R0,k3,k4⟩:∃ R0,Q2*V+R0=R1*4294967296+u0∧R0<V:=⟨(R1*4294967296+u0) % V,by rw [hQ0,← s5,Nat.mul_comm]; exact Nat.div_add_mod _ _,Nat.mod_lt _ (by omega)⟩
           obtain ⟨B1,B2,B3,b1,b2,b3,b4⟩:=w3 R1 u0 Q2 V R0 k3 (by omega)
           obtain ⟨z1,z2⟩:=div64_final (by omega) s3 s13 k1 k3 k4
           have z3:=divq_lt h hy
           have y1:=mulW Q1 (by omega)
           have y2:IntKind.u64.wrap (((Q1*4294967296:Nat):Int)+(Q2:Int))=((divq x y v:Nat):Int):=by rw [wu_add' _ _ (by rw [z1]; exact z3),z1]
           simp only [go_sem,b1,b2,b3,b4,y1,y2,n2,fd_pow,z2]
           exact .refl _
         · have hb:=of_decide_eq_false hb
           simp only [go_sem]
           exact ⟨(Q2,r'+Vh),Kept.of rfl KT.z KM.z,⟨g1,by simp only []; omega,lt',by simp only []; omega⟩,by simp only []; omega⟩
       · have e1:IntKind.u64.wrap ((q':Int)*(Vl:Int))=((q'*Vl:Nat):Int):=by
          rw [wu_mul,Nat.mod_eq_of_lt]
          have:=Nat.mul_le_mul (show q'≤4294967295 by omega) (show Vl≤4294967295 by omega)
          omega
         have e2:IntKind.u64.wrap (4294967296*(r':Int))=((4294967296*r':Nat):Int):=by rw [IntKind.wrap_u64]; omega
         have e3:=wu_add' (4294967296*r') u0 (by omega)
         simp only [go_sem,hg',e1,e2,e3]
         refine if_split (fun hc=>?_) (fun hc=>?_)
         · have lt':=half_dec (Vl:=Vl) g1 (by omega) s11 (.inr (of_decide_eq_true hc))
           obtain ⟨Q2,hQ2⟩:∃ Q,q'=Q+1:=succ_of lt'
           subst hQ2
           have m1:=u_nat Q2 (by omega)
           have m2:=wu_add' r' Vh (by omega)
           have g1:Q2*Vh+(r'+Vh)=R1:=by rw [← g1,Nat.succ_mul]; omega
           simp only [go_sem,hg',m1,m2]
           refine if_split (fun hb=>?_) (fun hb=>?_)
           · have hQ0:=half_done g1 lt' (half_done2 (of_decide_eq_true hb) (by omega) s8)
             obtain ⟨R0,k3,k4⟩:∃ R0,Q2*V+R0=R1*4294967296+u0∧R0<V:=⟨(R1*4294967296+u0) % V,by rw [hQ0,← s5,Nat.mul_comm]; exact Nat.div_add_mod _ _,Nat.mod_lt _ (by omega)⟩
             obtain ⟨B1,B2,B3,b1,b2,b3,b4⟩:=w3 R1 u0 Q2 V R0 k3 (by omega)
             obtain ⟨z1,z2⟩:=div64_final (by omega) s3 s13 k1 k3 k4
             have z3:=divq_lt h hy
             have y1:=mulW Q1 (by omega)
             have y2:IntKind.u64.wrap (((Q1*4294967296:Nat):Int)+(Q2:Int))=((divq x y v:Nat):Int):=by rw [wu_add' _ _ (by rw [z1]; exact z3),z1]
             simp only [go_sem,b1,b2,b3,b4,y1,y2,n2,fd_pow,z2]
             exact .refl _
           · have hb:=of_decide_eq_false hb
             simp only [go_sem]
             exact ⟨(Q2,r'+Vh),Kept.of rfl KT.z KM.z,⟨g1,by simp only []; omega,lt',by simp only []; omega⟩,by simp only []; omega⟩
         · have hQ0:=half_done g1 g3 (Nat.le_of_not_lt (of_decide_eq_false hc))
           obtain ⟨R0,k3,k4⟩:∃ R0,q'*V+R0=R1*4294967296+u0∧R0<V:=⟨(R1*4294967296+u0) % V,by rw [hQ0,← s5,Nat.mul_comm]; exact Nat.div_add_mod _ _,Nat.mod_lt _ (by omega)⟩
           obtain ⟨B1,B2,B3,b1,b2,b3,b4⟩:=w3 R1 u0 q' V R0 k3 (by omega)
           obtain ⟨z1,z2⟩:=div64_final (by omega) s3 s13 k1 k3 k4
           have z3:=divq_lt h hy
           have y1:=mulW Q1 (by omega)
           have y2:IntKind.u64.wrap (((Q1*4294967296:Nat):Int)+(q':Int))=((divq x y v:Nat):Int):=by rw [wu_add' _ _ (by rw [z1]; exact z3),z1]
           simp only [go_sem,b1,b2,b3,b4,y1,y2,n2,fd_pow,z2]
           exact .refl _
     · have hb:=of_decide_eq_false hb
       simp only [go_sem]
       exact ⟨(Q1,r+Vh),Kept.of rfl KT.z KM.z,⟨j1,by simp only []; omega,lt,by simp only []; omega⟩,by simp only []; omega⟩
   · have hQ0:=half_done j1 j3 (Nat.le_of_not_lt (of_decide_eq_false hc))
     clear e1 e2 e3 hc j1 j2 j3 j4 hg
     obtain ⟨R1,k1,k2⟩:∃ R1,q*V+R1=U*4294967296+u1∧R1<V:=⟨(U*4294967296+u1) % V,by rw [hQ0,← s5,Nat.mul_comm]; exact Nat.div_add_mod _ _,Nat.mod_lt _ (by omega)⟩
     have hQW:=half_lt s9 s10
     rw [s5,← hQ0] at hQW
     obtain ⟨A1,A2,A3,a1,a2,a3,a4⟩:=w3 U u1 q V R1 k1 (by omega)
     obtain ⟨i1,i2,i3,i4⟩:=half_init (U:=R1) (u:=u0) s6 s8 s11 (by omega)
     have d1:=wu_div R1 Vh (by omega)
     have d2:IntKind.u64.wrap (((R1 / Vh:Nat):Int)*(Vh:Int))=((R1 / Vh*Vh:Nat):Int):=by rw [wu_mul,Nat.mod_eq_of_lt (by omega)]
     have d3:IntKind.u64.wrap ((R1:Int)-((R1 / Vh*Vh:Nat):Int))=((R1 % Vh:Nat):Int):=by rw [wu_sub _ _ (Nat.div_mul_le_self _ _) (Nat.lt_trans k2 s4)]; congr 1; exact Nat.sub_eq_of_eq_add (i1.symm.trans (Nat.add_comm _ _))
     simp only [go_sem,a1,a2,a3,a4,d1,d2,d3]
     refine ⟨by omega,?_⟩
     generalize R1 / Vh=q0 at *
     generalize R1 % Vh=r0 at *
     clear d1 d2 d3
     refine trX_loop HE hP.mix [] (fun p:Nat × Nat=>⟨upd (upd (upd (upd (upd (upd (upd (upd (upd (upd (upd (fun _=>.junk) 2 (.int .u64 (V:Int))) 6 (.int .u64 0)) 7 (.int .u64 0)) 8 (.int .u64 (s:Int))) 9 (.int .u64 (Vh:Int))) 10 (.int .u64 (Vl:Int))) 17 (.int .u64 (R1:Int))) 15 (.int .u64 (q:Int))) 14 (.int .u64 (u0:Int))) 18 (.int .u64 (p.1:Int))) 16 (.int .u64 (p.2:Int)),fun _=>.unused,135⟩)
      (fun p=>p.1*Vh+p.2=R1∧p.2<4294967296∧R1*4294967296+u0<(p.1+1)*(Vh*4294967296+Vl)∧p.1≤4294967297) (fun p=>p.1) (q0,r0) 0
      Has.z (Kept.of rfl KT.z KM.z) ⟨i1,by omega,i3,i4⟩ 135 (by kernel_rfl) ?_
     clear i1 i2 i3 i4
     rintro ⟨q',r'⟩ ⟨g1,g2,g3,g4⟩
     simp only [] at g1 g2 g3 g4
     by_cases hg':4294967296≤q'
     · have lt':=half_dec (Vl:=Vl) g1 (by omega) s11 (.inl hg')
       obtain ⟨Q2,hQ2⟩:∃ Q,q'=Q+1:=succ_of lt'
       subst hQ2
       have m1:=u_nat Q2 (by omega)
       have m2:=wu_add' r' Vh (by omega)
       have g1:Q2*Vh+(r'+Vh)=R1:=by rw [← g1,Nat.succ_mul]; omega
       simp only [go_sem,hg',m1,m2]
       refine if_split (fun hb=>?_) (fun hb=>?_)
       · have hQ0:=half_done g1 lt' (half_done2 (of_decide_eq_true hb) (by omega) s8)
         obtain ⟨R0,k3,k4⟩:∃ R0,Q2*V+R0=R1*4294967296+u0∧R0<V:=⟨(R1*4294967296+u0) % V,by rw [hQ0,← s5,Nat.mul_comm]; exact Nat.div_add_mod _ _,Nat.mod_lt _ (by omega)⟩
         obtain ⟨B1,B2,B3,b1,b2,b3,b4⟩:=w3 R1 u0 Q2 V R0 k3 (by omega)
         obtain ⟨z1,z2⟩:=div64_final (by omega) s3 s13 k1 k3 k4
         have z3:=divq_lt h hy
         have y1:=mulW q (by omega)
         have y2:IntKind.u64.wrap (((q*4294967296:Nat):Int)+(Q2:Int))=((divq x y v:Nat):Int):=by rw [wu_add' _ _ (by rw [z1]; exact z3),z1]
         simp only [go_sem,b1,b2,b3,b4,y1,y2,n2,fd_pow,z2]
         exact .refl _
       · have hb:=of_decide_eq_false hb
         simp only [go_sem]
         exact ⟨(Q2,r'+Vh),Kept.of rfl KT.z KM.z,⟨g1,by simp only []; omega,lt',by simp only []; omega⟩,by simp only []; omega⟩
     · have e1:IntKind.u64.wrap ((q':Int)*(Vl:Int))=((q'*Vl:Nat):Int):=by
        rw [wu_mul,Nat.mod_eq_of_lt]
        have:=Nat.mul_le_mul (show q'≤4294967295 by omega) (show Vl≤4294967295 by omega)
        omega
       have e2:IntKind.u64.wrap (4294967296*(r':Int))=((4294967296*r':Nat):Int):=by rw [IntKind.wrap_u64]; omega
       have e3:=wu_add' (4294967296*r') u0 (by omega)
       simp only [go_sem,hg',e1,e2,e3]
       refine if_split (fun hc=>?_) (fun hc=>?_)
       · have lt':=half_dec (Vl:=Vl) g1 (by omega) s11 (.inr (of_decide_eq_true hc))
         obtain ⟨Q2,hQ2⟩:∃ Q,q'=Q+1:=succ_of lt'
         subst hQ2
         have m1:=u_nat Q2 (by omega)
         have m2:=wu_add' r' Vh (by omega)
         have g1:Q2*Vh+(r'+Vh)=R1:=by rw [← g1,Nat.succ_mul]; omega
         simp only [go_sem,hg',m1,m2]
         refine if_split (fun hb=>?_) (fun hb=>?_)
         · have hQ0:=half_done g1 lt' (half_done2 (of_decide_eq_true hb) (by omega) s8)
           obtain ⟨R0,k3,k4⟩:∃ R0,Q2*V+R0=R1*4294967296+u0∧R0<V:=⟨(R1*4294967296+u0) % V,by rw [hQ0,← s5,Nat.mul_comm]; exact Nat.div_add_mod _ _,Nat.mod_lt _ (by omega)⟩
           obtain ⟨B1,B2,B3,b1,b2,b3,b4⟩:=w3 R1 u0 Q2 V R0 k3 (by omega)
           obtain ⟨z1,z2⟩:=div64_final (by omega) s3 s13 k1 k3 k4
           have z3:=divq_lt h hy
           have y1:=mulW q (by omega)
           have y2:IntKind.u64.wrap (((q*4294967296:Nat):Int)+(Q2:Int))=((divq x y v:Nat):Int):=by rw [wu_add' _ _ (by rw [z1]; exact z3),z1]
           simp only [go_sem,b1,b2,b3,b4,y1,y2,n2,fd_pow,z2]
           exact .refl _
         · have hb:=of_decide_eq_false hb
           simp only [go_sem]
           exact ⟨(Q2,r'+Vh),Kept.of rfl KT.z KM.z,⟨g1,by simp only []; omega,lt',by simp only []; omega⟩,by simp only []; omega⟩
       · have hQ0:=half_done g1 g3 (Nat.le_of_not_lt (of_decide_eq_false hc))
         obtain ⟨R0,k3,k4⟩:∃ R0,q'*V+R0=R1*4294967296+u0∧R0<V:=⟨(R1*4294967296+u0) % V,by rw [hQ0,← s5,Nat.mul_comm]; exact Nat.div_add_mod _ _,Nat.mod_lt _ (by omega)⟩
         obtain ⟨B1,B2,B3,b1,b2,b3,b4⟩:=w3 R1 u0 q' V R0 k3 (by omega)
         obtain ⟨z1,z2⟩:=div64_final (by omega) s3 s13 k1 k3 k4
         have z3:=divq_lt h hy
         have y1:=mulW q (by omega)
         have y2:IntKind.u64.wrap (((q*4294967296:Nat):Int)+(q':Int))=((divq x y v:Nat):Int):=by rw [wu_add' _ _ (by rw [z1]; exact z3),z1]
         simp only [go_sem,b1,b2,b3,b4,y1,y2,n2,fd_pow,z2]
         exact .refl _
theorem Div64_spec (hP:PrgOk P) (x y v:Nat) (hy:y<18446744073709551616) (hv:v<18446744073709551616) (h:x<v):CSpec P 145 [.int .u64 (x:Int),.int .u64 (y:Int),.int .u64 (v:Int)] (.tup [.int .u64 ((divq x y v:Nat):Int),.int .u64 ((divr x y v:Nat):Int)]):=by
 rcases Nat.eq_zero_or_pos x with rfl|hx
 · have:=Div64_low hP y v hy hv h
   rw [divq_eq,divr_eq,Nat.zero_mul,Nat.zero_add]; exact this
 · exact Div64_high hP x y v hy hv h hx
noncomputable def div64S:List AV→Option (Prop × AV)
 | [.int .u64 x,.int .u64 y,.int .u64 v]=>some ((0≤x∧0≤y∧0≤v)∧x.toNat<v.toNat∧y.toNat<18446744073709551616∧v.toNat<18446744073709551616,.tup [.int .u64 ((divq x.toNat y.toNat v.toNat:Nat):Int),.int .u64 ((divr x.toNat y.toNat v.toNat:Nat):Int)])
 | _=>none
theorem div64S_ok (hP:PrgOk P) (args p r) (h:div64S args=some (p,r)) (hp:p):CSpec P 145 args r:=by
 unfold div64S at h
 split at h
 · simp only [Option.some.injEq,Prod.mk.injEq] at h
   obtain ⟨rfl,rfl⟩:=h
   exact (by rename_i x y v; have:=Div64_spec hP x.toNat y.toNat v.toNat hp.2.2.1 hp.2.2.2 hp.2.1; rw [nn hp.1.1,nn hp.1.2.1,nn hp.1.2.2] at this; exact this)
 · simp at h
attribute [go_sem] div64S
noncomputable def Sc:Nat→List AV→Option (Prop × AV):=addS (addS Sb 61 MulS) 145 div64S
theorem Sc_ok (hP:PrgOk P):EnvOk P ⟨T0,Sc⟩:=(((Sb_ok hP).add (MulS_ok hP)).add (div64S_ok hP))
theorem Sc_at (f a):Sc f a=(addS (addS Sb 61 MulS) 145 div64S) f a:=rfl
attribute [go_sem] Sc_at
def GenM (L:List Nat) (m:Nat→AObj):Prop:=Has L m∧∀ q,objOnly L (m q)=true
theorem KM.gen {L:List Nat} {m:Nat→AObj} (h:GenM L m):KM L m m:=fun q=>by
 by_cases hq:L.contains q=true
 · exact .inl ⟨hq,rfl,h.2 q⟩
 · refine .inr ⟨by simpa using hq,?_⟩
   by_cases e:m q = .unused
   · exact e
   · exact absurd (h.1 q e) hq
theorem GenM.upd {L:List Nat} {m:Nat→AObj} (h:GenM L m) {r:Nat} {o:AObj} (hr:L.contains r=true) (ho:objOnly L o=true):GenM L (upd m r o):=⟨Has.upd hr h.1,fun q=>by
 unfold AM.upd; split
 · exact ho
 · exact h.2 q⟩
theorem GenM.upd' {L:List Nat} {m:Nat→AObj} {r:Nat} {o o':AObj} (h:GenM L (AM.upd m r o')) (hr:L.contains r=true) (ho:objOnly L o=true):GenM L (AM.upd m r o):=by
 have:=h.upd hr ho
 rwa [show AM.upd (AM.upd m r o') r o=AM.upd m r o from by funext j; unfold AM.upd; split<;>rfl] at this
theorem upd_upd {β:Type} (f:Nat→β) (i:Nat) (v v':β):upd (upd f i v) i v'=upd f i v':=by
 funext j; unfold AM.upd; split<;>rfl
theorem upd_self {β:Type} (f:Nat→β) (i:Nat):upd f i (f i)=f:=by
 funext j; unfold AM.upd; split
 · rename_i h; rw [h]
 · rfl
theorem objOnly_U {L:List Nat} {l:List Nat} {k:IntKind}:objOnly L (.live (l.map (fun d:Nat=>AV.int k (d:Int))))=true:=by
 simp only [objOnly]; exact only_U
theorem GenM.nil {L:List Nat}:GenM L (fun _=>.unused):=⟨Has.nil,fun _=>rfl⟩
theorem set_app {l R:List Nat} {x d k:Nat} (h:l.length=k):(l++([x]++R)).set k d=l++(d::R):=by
 subst h; induction l with
 | nil=>rfl
 | cons a l ih=>simp [ih]
theorem get_app {l R:List Nat} {x k:Nat} (h:l.length=k):(l++([x]++R)).getD k 0=x:=by
 subst h; induction l with
 | nil=>rfl
 | cons a l ih=>simp
theorem len_take {w:List Nat} {k:Nat} (h:k<w.length):(w.take k).length=k:=by rw [List.length_take]; omega
theorem set_take {w:List Nat} {R:List Nat} {k:Nat} (h:k<w.length) (d:Nat):(w.take (k+1)++R).set k d=w.take k++(d::R):=by
 rw [take_snoc h,List.append_assoc]; exact set_app (len_take h)
theorem get_take {w:List Nat} {R:List Nat} {k:Nat} (h:k<w.length):(w.take (k+1)++R).getD k 0=w.getD k 0:=by
 rw [take_snoc h,List.append_assoc]; exact get_app (len_take h)
theorem drop_cons {w:List Nat} {k:Nat} (h:k<w.length):w.drop k=w.getD k 0::w.drop (k+1):=by
 rw [List.drop_eq_getElem_cons h,getD_get h]
theorem short_ic (hP:PrgOk P) {L:List Nat} {m:Nat→AObj} {K:Nat→AV→(Nat→AObj)→Prop} {r:Nat} {w tail:List Nat} {n y:Nat} (hm:GenM L m) (hr:L.contains r=true) (hmr:m r = .live (List.map (fun d:Nat=>AV.int .u64 (d:Int)) (w++tail))) (hn:w.length=n) (hn2:n<4611686018427387904) (hw:∀ d ∈ w,d<18446744073709551616) (hy:y<18446744073709551616) (hy0:0<y)
 (k:∀ (nx:Nat) (w':List Nat) (c:Nat),w'.length=n→(∀ d ∈ w',d<18446744073709551616)→c<y→dOf 18446744073709551616 w'*y+c=dOf 18446744073709551616 w→K nx (.int .u64 (c:Int)) (upd m r (.live (List.map (fun d:Nat=>AV.int .u64 (d:Int)) (w'++tail))))) :
 icX (ICall P) 123 [.sl r 0 n 1,.int .u64 (y:Int)] m (K:=⟨K⟩):=by
 have HE:=Sc_ok hP
 refine icX_vc (E:=⟨T0,Sc⟩) (fn123 hP) HE hP.mix rfl rfl (Nat.le_of_ble_eq_true rfl) 0 ?_
 have hwp:=wi_pred' n (by omega)
 obtain ⟨m0,rfl⟩:∃ m0,m=upd m0 r (.live (List.map (fun d:Nat=>AV.int .u64 (d:Int)) (w++tail))):=⟨m,by rw [← hmr,upd_self]⟩
 clear hmr
 simp only [upd_upd] at k
 simp only [go_sem,hwp]
 refine trX_loop HE hP.mix L (fun q:Nat × List Nat × Nat=>⟨upd (upd (upd (upd (upd (fun _=>.junk) 0 (.sl r 0 n 1)) 1 (.int .u64 (y:Int))) 4 (.int .u64 0)) 5 (.int .u64 (q.2.2:Int))) 6 (.int .i64 ((q.1:Int)-1)),upd m0 r (.live (List.map (fun d:Nat=>AV.int .u64 (d:Int)) (w.take q.1++(q.2.1++tail)))),28⟩)
  (fun q=>q.1≤n∧q.1+q.2.1.length=n∧(∀ d ∈ q.2.1,d<18446744073709551616)∧q.2.2<y∧dOf 18446744073709551616 q.2.1*y+q.2.2=dOf 18446744073709551616 (w.drop q.1)) (fun q=>q.1) (n,[],0) 0
  hm.1 (Kept.of rfl KT.z (by
   have e:w.take n++([]++tail)=w++tail:=by rw [List.take_of_length_le (by omega)]; rfl
   simp only []; rw [e]; exact KM.gen hm)) ⟨by simp,by simp,by simp,hy0,by simp [dOf,List.drop_of_length_le (Nat.le_of_eq hn)]⟩ 28 (by kernel_rfl) ?_
 rintro ⟨k',hi,c⟩ ⟨q1,q2,q3,q4,q5⟩
 simp only [] at q1 q2 q3 q4 q5
 cases k' with
 | zero =>
   have h0:((0:Int)≤((0:Nat):Int)-1)=False:=by simp
   simp only [go_sem,h0]
   exact k _ hi c (by omega) q3 q4 q5
 | succ k' =>
   have hk:k'<w.length:=by omega
   have hkn:k'<n:=by omega
   have hlen:k'<(w.take (k'+1)++(hi++tail)).length:=by simp [List.length_take]; omega
   have hlen':k'<(w.take (k'+1)).length+(hi.length+tail.length):=by simp [List.length_take]; omega
   have hd:=hw _ (getD_mem hk)
   have hdrop:=drop_cons hk
   have hset:=set_take (R:=hi++tail) hk
   have hq:=divq_lt q4 hd
   have hr1:=divr_lt c (w.getD k' 0) hy0
   have hall:=div_all c (w.getD k' 0) y
   have hwi:=wi_pred' k' (by omega)
   simp only [go_sem,hlen,hlen',hkn,gU hlen,get_take hk,q4,hd,hy,hset,upd_upd,hwi]
   refine ⟨(k',divq c (w.getD k' 0) y::hi,divr c (w.getD k' 0) y),Kept.of rfl KT.z (KM.gen (hm.upd' hr objOnly_U)),⟨by simp only []; omega,by simp only [List.length_cons]; omega,?_,hr1,?_⟩,by simp only []; omega⟩
   · intro d hd
     rcases List.mem_cons.1 hd with rfl|hd
     · exact hq
     · exact q3 d hd
   · simp only [dOf]
     rw [hdrop]; simp only [dOf]; rw [← q5,Nat.add_mul,Nat.mul_add,Nat.mul_assoc]
     generalize divq c (w.getD k' 0) y*y=A at *; generalize dOf 18446744073709551616 hi*y=B at *
     omega
theorem mid_eq {pre done rest tail:List Nat} {x:Nat}:pre++(done++((x::rest)++tail))=(pre++done)++([x]++(rest++tail)):=by simp
theorem get_mid {pre done w tail:List Nat} {off k i:Nat} (hp:pre.length=off) (hd:done.length=k) (hk:k<w.length) (hi:i=off+k):(pre++(done++(w.drop k++tail))).getD i 0=w.getD k 0:=by
 rw [drop_cons hk,mid_eq]; exact get_app (by rw [List.length_append,hp,hd,hi])
theorem set_mid {pre done w tail:List Nat} {off k i:Nat} (hp:pre.length=off) (hd:done.length=k) (hk:k<w.length) (hi:i=off+k) (s:Nat):(pre++(done++(w.drop k++tail))).set i s=pre++((done++[s])++(w.drop (k+1)++tail)):=by
 rw [drop_cons hk,mid_eq,set_app (by rw [List.length_append,hp,hd,hi])]; simp
theorem len_mid {pre done w tail:List Nat} {off k i:Nat} (hp:pre.length=off) (hd:done.length=k) (hk:k<w.length) (hi:i=off+k):i<(pre++(done++(w.drop k++tail))).length:=by
 rw [drop_cons hk]; simp; omega
theorem sub_all (z y c:Nat) (hz:z<18446744073709551616) (hy:y<18446744073709551616) (hc:c≤1):subd z y c+y+c=z+18446744073709551616*bor z y c:=by
 rw [subd_eq,bor_eq]
 by_cases h:z<y+c
 · rw [if_pos h,Nat.mod_eq_of_lt (by omega)]; omega
 · rw [if_neg h,show z+18446744073709551616-y-c=(z-y-c)+18446744073709551616 by omega,Nat.add_mod_right,Nat.mod_eq_of_lt (by omega)]; omega
theorem away_digit (x y c:Nat):addl (mull x y) c 0+18446744073709551616*(mulh x y+addh (mull x y) c 0)=x*y+c:=by
 have h1:=mul_all x y
 have h2:=add_all (mull x y) c 0
 omega
theorem away_carry {x y c:Nat} (hx:x<18446744073709551616) (hy:y<18446744073709551616) (hc:c<18446744073709551616):mulh x y+addh (mull x y) c 0<18446744073709551616:=by
 have h:=away_digit x y c
 have h2:x*y≤18446744073709551615*18446744073709551615:=Nat.mul_le_mul (by omega) (by omega)
 omega
theorem away_step {p D V W d b c s x w l b' c':Nat} (h:D+V*d=W+p*b+p*c) (h1:s+l+b=w+18446744073709551616*b') (h2:l+18446744073709551616*c'=x*d+c):D+p*s+(V+p*x)*d=W+p*w+p*18446744073709551616*b'+p*18446744073709551616*c':=by
 have e:s+x*d+b+c=w+18446744073709551616*b'+18446744073709551616*c':=by omega
 have e2:=congrArg (p*·) e
 simp only [Nat.mul_add,← Nat.mul_assoc] at e2
 rw [Nat.add_mul]
 omega
theorem add0 (c:Nat) (h:c<18446744073709551616):addl 0 c 0=c∧addh 0 c 0=0:=by
 have h1:=add_all 0 c 0
 have h2:=addl_lt 0 c 0
 have:addh 0 c 0=0:=by omega
 exact ⟨by omega,this⟩
theorem dOf_snoc (l:List Nat) (s:Nat):dOf 18446744073709551616 (l++[s])=dOf 18446744073709551616 l+18446744073709551616^l.length*s:=by
 rw [dOf_append]; simp [dOf]
theorem away_ic (hP:PrgOk P) {L:List Nat} {m:Nat→AObj} {K:Nat→AV→(Nat→AObj)→Prop} {r r2:Nat} {pre w tail v:List Nat} {off nv d:Nat} (hm:GenM L m) (hr:L.contains r=true) (hr2:L.contains r2=true) (hne:(r2 == r)=false) (hmr:m r = .live (List.map (fun d:Nat=>AV.int .u64 (d:Int)) (pre++(w++tail)))) (hmr2:m r2 = .live (List.map (fun d:Nat=>AV.int .u64 (d:Int)) (v))) (hoff:pre.length=off) (hn:w.length=nv+1) (hv:v.length=nv) (hn2:nv<2305843009213693952) (hw:∀ d ∈ w,d<18446744073709551616) (hvd:∀ d ∈ v,d<18446744073709551616) (hd:d<18446744073709551616)
 (k:∀ (nx:Nat) (w':List Nat) (b:Nat),w'.length=nv+1→(∀ d ∈ w',d<18446744073709551616)→b≤1→dOf 18446744073709551616 w'+dOf 18446744073709551616 v*d=dOf 18446744073709551616 w+18446744073709551616^(nv+1)*b→K nx (.bool (b != 0)) (upd m r (.live (List.map (fun d:Nat=>AV.int .u64 (d:Int)) (pre++(w'++tail)))))) :
 icX (ICall P) 149 [.sl r off (nv+1) 1,.sl r2 0 nv 1,.int .u64 (d:Int)] m (K:=⟨K⟩):=by
 have HE:=Sc_ok hP
 refine icX_vc (E:=⟨T0,Sc⟩) (fn149 hP) HE hP.mix rfl rfl (Nat.le_of_ble_eq_true rfl) 0 ?_
 obtain ⟨m0,rfl⟩:∃ m0,m=upd m0 r (.live (List.map (fun d:Nat=>AV.int .u64 (d:Int)) (pre++(w++tail)))):=⟨m,by rw [← hmr,upd_self]⟩
 clear hmr
 rw [upd_ne _ _ _ _ hne] at hmr2
 simp only [upd_upd] at k
 simp only [go_sem]
 refine trX_loop HE hP.mix L (fun q:Nat × List Nat × Nat × Nat=>⟨upd (upd (upd (upd (upd (upd (upd (upd (fun _=>.junk) 0 (.sl r off (nv+1) 1)) 1 (.sl r2 0 nv 1)) 2 (.int .u64 (d:Int))) 6 (.bool false)) 7 (.int .u64 (q.2.2.1:Int))) 8 (.int .u64 (q.2.2.2:Int))) 14 (.int .i64 ((nv+1:Nat):Int))) 15 (.int .i64 (q.1:Int)),upd m0 r (.live (List.map (fun d:Nat=>AV.int .u64 (d:Int)) (pre++(q.2.1++(w.drop q.1++tail))))),56⟩)
  (fun q=>q.1≤nv+1∧q.2.1.length=q.1∧(∀ d ∈ q.2.1,d<18446744073709551616)∧q.2.2.1<18446744073709551616∧q.2.2.2≤1∧(q.1=nv+1→q.2.2.1=0)∧dOf 18446744073709551616 q.2.1+dOf 18446744073709551616 (v.take q.1)*d=dOf 18446744073709551616 (w.take q.1)+18446744073709551616^q.1*q.2.2.2+18446744073709551616^q.1*q.2.2.1) (fun q=>nv+1-q.1) (0,[],0,0) 0
  hm.1 (Kept.of rfl KT.z (KM.gen hm)) ⟨by simp,by simp,by simp,by simp,by simp,by simp,by simp [dOf]⟩ 56 (by kernel_rfl) ?_
 rintro ⟨i,dn,c,b⟩ ⟨q1,q2,q3,q4,q5,q6,q7⟩
 simp only [] at q1 q2 q3 q4 q5 q6 q7
 by_cases hi:i<nv+1
 · have hiw:i<w.length:=by omega
   have hwd:=hw _ (getD_mem hiw)
   have hlen:=len_mid (tail:=tail) hoff q2 hiw rfl
   have hlen':off+i<pre.length+(dn.length+(w.length-i+tail.length)):=by omega
   have hget:=get_mid (tail:=tail) hoff q2 hiw rfl
   have hset:=set_mid (tail:=tail) hoff q2 hiw rfl
   have hwi:=wi_add1 i (by omega)
   by_cases hiv:i<nv
   · have hiv':i<v.length:=by omega
     have hxd:=hvd _ (getD_mem hiv')
     have hcar:=away_carry hxd hd q4
     have hw2:=wu_add' _ _ hcar
     have hm1:=mull_lt (v.getD i 0) d
     have hal:=addl_lt (mull (v.getD i 0) d) c 0
     simp only [go_sem,hi,hiv,hiv',hmr2,upd_ne,hne,gU hiv',hxd,hd,hm1,hw2,hlen,hlen',gU hlen,hget,hwd,hal,q5,hset,upd_upd,hwi]
     have hs:=sub_all (w.getD i 0) (addl (mull (v.getD i 0) d) c 0) b hwd hal q5
     have hst:=away_step q7 hs (away_digit (v.getD i 0) d c)
     refine ⟨(i+1,dn++[subd (w.getD i 0) (addl (mull (v.getD i 0) d) c 0) b],mulh (v.getD i 0) d+addh (mull (v.getD i 0) d) c 0,bor (w.getD i 0) (addl (mull (v.getD i 0) d) c 0) b),Kept.of rfl KT.z (KM.gen (hm.upd' hr objOnly_U)),⟨by simp only []; omega,by simp only [List.length_append,List.length_singleton]; omega,?_,hcar,bor_le _ _ _,by simp only []; omega,?_⟩,by simp only []; omega⟩
     · intro d hd
       rcases List.mem_append.1 hd with hd|hd
       · exact q3 d hd
       · rw [List.mem_singleton.1 hd]; exact subd_lt _ _ _
     · simp only []
       rw [dOf_snoc,dOf_take_succ 18446744073709551616 v i hiv',dOf_take_succ 18446744073709551616 w i hiw,Nat.pow_succ,q2]; exact hst
   · have hc0:=add0 c q4
     have hiv':¬ i<v.length:=by omega
     have hw2:=u_nat 0 (by decide)
     simp only [go_sem,hi,hiv,hiv',hmr2,upd_ne,hne,hlen,hlen',gU hlen,hget,hwd,q4,q5,hset,upd_upd,hwi,hc0.1,hc0.2]
     have hs:=sub_all (w.getD i 0) c b hwd q4 q5
     have hst:=away_step (x:=0) (c':=0) q7 hs (show c+18446744073709551616*0=0*d+c by omega)
     refine ⟨(i+1,dn++[subd (w.getD i 0) c b],0,bor (w.getD i 0) c b),Kept.of rfl KT.z (KM.gen (hm.upd' hr objOnly_U)),⟨by simp only []; omega,by simp only [List.length_append,List.length_singleton]; omega,?_,by simp,bor_le _ _ _,fun _=>rfl,?_⟩,by simp only []; omega⟩
     · intro d hd
       rcases List.mem_append.1 hd with hd|hd
       · exact q3 d hd
       · rw [List.mem_singleton.1 hd]; exact subd_lt _ _ _
     · simp only []
       have e1:v.take (i+1)=v:=List.take_of_length_le (by omega)
       have e2:v.take i=v:=List.take_of_length_le (by omega)
       rw [e2] at hst
       rw [dOf_snoc,e1,dOf_take_succ 18446744073709551616 w i hiw,Nat.pow_succ,q2]; exact hst
 · simp only [go_sem,hi]
   have hie:i=nv+1:=by omega
   have e1:w.drop i=[]:=List.drop_of_length_le (by omega)
   have e2:v.take i=v:=List.take_of_length_le (by omega)
   have e3:w.take i=w:=List.take_of_length_le (by omega)
   rw [e1,List.nil_append]
   rw [e2,e3,q6 hie,Nat.mul_zero,Nat.add_zero,hie] at q7
   exact k _ dn b (by omega) q3 q5 q7
theorem back_step {p D V W c s x w c':Nat} (h:D+p*c=W+V) (h1:s+18446744073709551616*c'=w+x+c):D+p*s+p*18446744073709551616*c'=W+p*w+(V+p*x):=by
 have e2:=congrArg (p*·) h1
 simp only [Nat.mul_add,← Nat.mul_assoc] at e2
 omega
theorem back_ic (hP:PrgOk P) {L:List Nat} {m:Nat→AObj} {K:Nat→AV→(Nat→AObj)→Prop} {r r2:Nat} {pre w tail v:List Nat} {off nv:Nat} (hm:GenM L m) (hr:L.contains r=true) (hr2:L.contains r2=true) (hne:(r2 == r)=false) (hmr:m r = .live (List.map (fun d:Nat=>AV.int .u64 (d:Int)) (pre++(w++tail)))) (hmr2:m r2 = .live (List.map (fun d:Nat=>AV.int .u64 (d:Int)) (v))) (hoff:pre.length=off) (hn:w.length=nv+1) (hv:v.length=nv) (hn2:nv<2305843009213693952) (hw:∀ d ∈ w,d<18446744073709551616) (hvd:∀ d ∈ v,d<18446744073709551616)
 (k:∀ (nx:Nat) (w':List Nat) (c:Nat),w'.length=nv+1→(∀ d ∈ w',d<18446744073709551616)→c≤1→dOf 18446744073709551616 w'+18446744073709551616^(nv+1)*c=dOf 18446744073709551616 w+dOf 18446744073709551616 v→K nx (.tup []) (upd m r (.live (List.map (fun d:Nat=>AV.int .u64 (d:Int)) (pre++(w'++tail)))))) :
 icX (ICall P) 150 [.sl r off (nv+1) 1,.sl r2 0 nv 1] m (K:=⟨K⟩):=by
 have HE:=Sc_ok hP
 refine icX_vc (E:=⟨T0,Sc⟩) (fn150 hP) HE hP.mix rfl rfl (Nat.le_of_ble_eq_true rfl) 0 ?_
 obtain ⟨m0,rfl⟩:∃ m0,m=upd m0 r (.live (List.map (fun d:Nat=>AV.int .u64 (d:Int)) (pre++(w++tail)))):=⟨m,by rw [← hmr,upd_self]⟩
 clear hmr
 rw [upd_ne _ _ _ _ hne] at hmr2
 simp only [upd_upd] at k
 simp only [go_sem]
 refine trX_loop HE hP.mix L (fun q:Nat × List Nat × Nat=>⟨upd (upd (upd (upd (upd (fun _=>.junk) 0 (.sl r off (nv+1) 1)) 1 (.sl r2 0 nv 1)) 4 (.int .u64 (q.2.2:Int))) 8 (.int .i64 ((nv+1:Nat):Int))) 9 (.int .i64 (q.1:Int)),upd m0 r (.live (List.map (fun d:Nat=>AV.int .u64 (d:Int)) (pre++(q.2.1++(w.drop q.1++tail))))),34⟩)
  (fun q=>q.1≤nv+1∧q.2.1.length=q.1∧(∀ d ∈ q.2.1,d<18446744073709551616)∧q.2.2≤1∧dOf 18446744073709551616 q.2.1+18446744073709551616^q.1*q.2.2=dOf 18446744073709551616 (w.take q.1)+dOf 18446744073709551616 (v.take q.1)) (fun q=>nv+1-q.1) (0,[],0) 0
  hm.1 (Kept.of rfl KT.z (KM.gen hm)) ⟨by simp,by simp,by simp,by simp,by simp [dOf]⟩ 34 (by kernel_rfl) ?_
 rintro ⟨i,dn,c⟩ ⟨q1,q2,q3,q5,q7⟩
 simp only [] at q1 q2 q3 q5 q7
 by_cases hi:i<nv+1
 · have hiw:i<w.length:=by omega
   have hwd:=hw _ (getD_mem hiw)
   have hlen:=len_mid (tail:=tail) hoff q2 hiw rfl
   have hlen':off+i<pre.length+(dn.length+(w.length-i+tail.length)):=by omega
   have hget:=get_mid (tail:=tail) hoff q2 hiw rfl
   have hset:=set_mid (tail:=tail) hoff q2 hiw rfl
   have hwi:=wi_add1 i (by omega)
   by_cases hiv:i<nv
   · have hiv':i<v.length:=by omega
     have hxd:=hvd _ (getD_mem hiv')
     simp only [go_sem,hi,hiv,hiv',hmr2,upd_ne,hne,gU hiv',hxd,hlen,hlen',gU hlen,hget,hwd,q5,hset,upd_upd,hwi]
     have hst:=back_step q7 (add_all (w.getD i 0) (v.getD i 0) c)
     refine ⟨(i+1,dn++[addl (w.getD i 0) (v.getD i 0) c],addh (w.getD i 0) (v.getD i 0) c),Kept.of rfl KT.z (KM.gen (hm.upd' hr objOnly_U)),⟨by simp only []; omega,by simp only [List.length_append,List.length_singleton]; omega,?_,addh_le hwd hxd q5,?_⟩,by simp only []; omega⟩
     · intro d hd
       rcases List.mem_append.1 hd with hd|hd
       · exact q3 d hd
       · rw [List.mem_singleton.1 hd]; exact addl_lt _ _ _
     · simp only []
       rw [dOf_snoc,dOf_take_succ 18446744073709551616 v i hiv',dOf_take_succ 18446744073709551616 w i hiw,Nat.pow_succ,q2]; exact hst
   · have hiv':¬ i<v.length:=by omega
     simp only [go_sem,hi,hiv,hiv',hmr2,upd_ne,hne,hlen,hlen',gU hlen,hget,hwd,q5,hset,upd_upd,hwi]
     have hst:=back_step (x:=0) q7 (add_all (w.getD i 0) 0 c)
     refine ⟨(i+1,dn++[addl (w.getD i 0) 0 c],addh (w.getD i 0) 0 c),Kept.of rfl KT.z (KM.gen (hm.upd' hr objOnly_U)),⟨by simp only []; omega,by simp only [List.length_append,List.length_singleton]; omega,?_,addh_le hwd (by decide) q5,?_⟩,by simp only []; omega⟩
     · intro d hd
       rcases List.mem_append.1 hd with hd|hd
       · exact q3 d hd
       · rw [List.mem_singleton.1 hd]; exact addl_lt _ _ _
     · simp only []
       have e1:v.take (i+1)=v:=List.take_of_length_le (by omega)
       have e2:v.take i=v:=List.take_of_length_le (by omega)
       rw [e2,Nat.mul_zero,Nat.add_zero] at hst
       rw [dOf_snoc,e1,dOf_take_succ 18446744073709551616 w i hiw,Nat.pow_succ,q2]; exact hst
 · simp only [go_sem,hi]
   have hie:i=nv+1:=by omega
   have e1:w.drop i=[]:=List.drop_of_length_le (by omega)
   have e2:v.take i=v:=List.take_of_length_le (by omega)
   have e3:w.take i=w:=List.take_of_length_le (by omega)
   rw [e1,List.nil_append]
   rw [e2,e3,hie] at q7
   exact k _ dn c (by omega) q3 q5 q7
theorem icX_any {f args m K} (N:Nat) (h:icX (ICall P) f args m (K:=⟨fun _ v m'=>K N v m'⟩)):icX (ICall P) f args m (K:=⟨K⟩):=fun X φ w vs h1 h2=>(h X φ w vs h1 h2).mono fun v w' ⟨_,r,m',φ',k,h⟩=>⟨N,r,m',φ',k,h⟩
theorem guess_leB {B x y z v w d rest:Nat} (h:d*v+rest=x*B+y) (h2:d*w≤rest*B+z):d*(v*B+w)≤(x*B+y)*B+z:=by
 rw [← h,Nat.mul_add,← Nat.mul_assoc,Nat.add_mul]; omega
theorem guess_gtB {B x y z v w d rest:Nat} (h:d*v+rest=x*B+y) (h2:rest*B+z<d*w):(x*B+y)*B+z<d*(v*B+w):=by
 rw [← h,Nat.mul_add,← Nat.mul_assoc,Nat.add_mul]; omega
theorem guess_endB {B d w rest z:Nat} (hd:d<B) (hw:w<B) (h:B≤rest):d*w≤rest*B+z:=by
 have h1:d*w≤B*B:=Nat.mul_le_mul (by omega) (by omega)
 have h2:B*B≤rest*B:=Nat.mul_le_mul_right _ h
 omega
theorem guess_le {x y z v w d rest:Nat} (h:d*v+rest=x*18446744073709551616+y) (h2:d*w≤rest*18446744073709551616+z):d*(v*18446744073709551616+w)≤(x*18446744073709551616+y)*18446744073709551616+z:=guess_leB h h2
theorem guess_gt {x y z v w d rest:Nat} (h:d*v+rest=x*18446744073709551616+y) (h2:rest*18446744073709551616+z<d*w):(x*18446744073709551616+y)*18446744073709551616+z<d*(v*18446744073709551616+w):=guess_gtB h h2
theorem guess_end {d w rest z:Nat} (hd:d<18446744073709551616) (hw:w<18446744073709551616) (h:18446744073709551616≤rest):d*w≤rest*18446744073709551616+z:=guess_endB hd hw h
theorem ge_of {h l A rest z B:Nat} (e:h*B+l=A) (hl:l<B) (h1:¬ h<rest) (h2:h=rest→z<l) (hz:z<B):rest*B+z<A:=by
 rcases Nat.lt_or_ge rest h with h3|h3
 · have:(rest+1)*B≤h*B:=Nat.mul_le_mul_right _ h3
   rw [Nat.add_mul] at this; omega
 · have h4:h=rest:=by omega
   have:=h2 h4
   subst h4; omega
theorem le_of {h l A rest z B:Nat} (e:h*B+l=A) (hl:l<B) (h1:h<rest∨(h=rest∧l≤z)):A≤rest*B+z:=by
 rcases h1 with h3|⟨rfl,h3⟩
 · have:(h+1)*B≤rest*B:=Nat.mul_le_mul_right _ h3
   rw [Nat.add_mul] at this; omega
 · omega
theorem guess_eq {N V d:Nat} (h1:d*V≤N) (h2:N<(d+1)*V):d=N / V:=(Nat.div_eq_of_lt_le h1 h2).symm
theorem guess_startB {B x y z v w d r:Nat} (hz:z<B) (h:d*v+r=x*B+y) (hr:r<v):(x*B+y)*B+z<(d+1)*(v*B+w):=by
 rw [Nat.mul_add,← Nat.mul_assoc]
 have h1:(x*B+y+1)*B≤(d+1)*v*B:=Nat.mul_le_mul_right _ (by rw [Nat.add_mul]; omega)
 rw [Nat.add_mul _ 1] at h1
 omega
theorem guess_start {x y z v w d r:Nat} (hz:z<18446744073709551616) (h:d*v+r=x*18446744073709551616+y) (hr:r<v):(x*18446744073709551616+y)*18446744073709551616+z<(d+1)*(v*18446744073709551616+w):=guess_startB hz h hr
theorem guess_spec (hP:PrgOk P) (x y z v w:Nat) (hx:x<18446744073709551616) (hy:y<18446744073709551616) (hz:z<18446744073709551616) (hv:v<18446744073709551616) (hw:w<18446744073709551616) (hlt:(x*18446744073709551616+y)*18446744073709551616+z<18446744073709551616*(v*18446744073709551616+w)) (hv0:0<v):CSpec P 148 [.int .u64 (x:Int),.int .u64 (y:Int),.int .u64 (z:Int),.int .u64 (v:Int),.int .u64 (w:Int)] (.int .u64 ((((x*18446744073709551616+y)*18446744073709551616+z) / (v*18446744073709551616+w):Nat):Int)):=by
 have HE:=Sc_ok hP
 refine CSpec_go (E:=⟨T0,Sc⟩) (fn148 hP) HE hP.mix ?_
 by_cases h:x<v
 · simp only [go_sem,h,hy,hv]
   have i1:=divq_lt h hy
   have i2:divr x y v<18446744073709551616:=Nat.lt_trans (divr_lt x y hv0) hv
   have i3:=div_all x y v
   have i4:=guess_start (w:=w) hz i3 (divr_lt x y hv0)
   generalize divq x y v=d0 at *
   generalize divr x y v=r0 at *
   refine trX_loop HE hP.mix [] (fun q:Nat × Nat=>⟨upd (upd (upd (upd (upd (upd (fun _=>.junk) 2 (.int .u64 (z:Int))) 3 (.int .u64 (v:Int))) 4 (.int .u64 (w:Int))) 10 (.int .u64 0)) 11 (.int .u64 (q.1:Int))) 12 (.int .u64 (q.2:Int)),fun _=>.unused,67⟩)
    (fun q=>q.1<18446744073709551616∧q.2<18446744073709551616∧q.1*v+q.2=x*18446744073709551616+y∧(x*18446744073709551616+y)*18446744073709551616+z<(q.1+1)*(v*18446744073709551616+w)) (fun q=>q.1) (d0,r0) 0
    Has.z (Kept.of rfl KT.z KM.z) ⟨i1,i2,i3,i4⟩ 67 (by kernel_rfl) ?_
   rintro ⟨d,rest⟩ ⟨q1,q2,q3,q4⟩
   simp only [] at q1 q2 q3 q4
   clear i1 i2 i3 i4
   have hm:mulh d w*18446744073709551616+mull d w=d*w:=by rw [Nat.mul_comm,Nat.add_comm]; exact mul_all d w
   have hml:=mull_lt d w
   have fin:d*w≤rest*18446744073709551616+z→d=((x*18446744073709551616+y)*18446744073709551616+z) / (v*18446744073709551616+w):=fun h=>guess_eq (guess_le q3 h) q4
   by_cases h1:mulh d w<rest
   · simp only [go_sem,q1,hw,h1]
     rw [← fin (le_of hm hml (.inl h1))]; exact .refl _
   · have hstep:rest*18446744073709551616+z<d*w→∃ d',d=d'+1∧(x*18446744073709551616+y)*18446744073709551616+z<(d'+1)*(v*18446744073709551616+w):=fun h=>by
      have:=guess_gt q3 h
      obtain ⟨d',rfl⟩:=succ_of h
      exact ⟨d',rfl,this⟩
     have h2t:(mulh d w == rest)=true∨(mulh d w == rest)=false:=by cases (mulh d w == rest)<;>simp
     rcases h2t with h2|h2
     · have h2e:mulh d w=rest:=by simpa using h2
       by_cases h3:mull d w≤z
       · simp only [go_sem,q1,hw,h1,h2,h3]
         rw [← fin (le_of hm hml (.inr ⟨h2e,h3⟩))]; exact .refl _
       · obtain ⟨d',rfl,g⟩:=hstep (ge_of hm hml h1 (fun _=>Nat.lt_of_not_le h3) hz)
         clear fin hstep
         have m1:=u_nat d' (by omega)
         have hc:=add_all rest v 0
         have hcl:=addl_lt rest v 0
         have g3:d'*v+(rest+v)=x*18446744073709551616+y:=by rw [← q3,Nat.succ_mul]; omega
         simp only [go_sem,q1,q2,hw,h1,h2,h3,m1]
         refine if_split (fun hb=>?_) (fun hb=>?_)
         · have hb:addh rest v 0 ≠ 0:=by simpa using hb
           have:d'*w≤(rest+v)*18446744073709551616+z:=guess_end (by omega) hw (by omega)
           simp only [go_sem]
           rw [← guess_eq (guess_le g3 this) g]; exact .refl _
         · have hb:addh rest v 0=0:=by simpa using hb
           have he:addl rest v 0=rest+v:=by omega
           simp only [go_sem]
           exact ⟨(d',addl rest v 0),Kept.of rfl KT.z KM.z,⟨by simp only []; omega,hcl,by simp only []; rw [he]; exact g3,g⟩,by simp only []; omega⟩
     · have h2e:mulh d w ≠ rest:=by simpa using h2
       obtain ⟨d',rfl,g⟩:=hstep (ge_of hm hml h1 (fun e=>absurd e h2e) hz)
       clear fin hstep
       have m1:=u_nat d' (by omega)
       have hc:=add_all rest v 0
       have hcl:=addl_lt rest v 0
       have g3:d'*v+(rest+v)=x*18446744073709551616+y:=by rw [← q3,Nat.succ_mul]; omega
       simp only [go_sem,q1,q2,hw,h1,h2,m1]
       refine if_split (fun hb=>?_) (fun hb=>?_)
       · have hb:addh rest v 0 ≠ 0:=by simpa using hb
         have:d'*w≤(rest+v)*18446744073709551616+z:=guess_end (by omega) hw (by omega)
         simp only [go_sem]
         rw [← guess_eq (guess_le g3 this) g]; exact .refl _
       · have hb:addh rest v 0=0:=by simpa using hb
         have he:addl rest v 0=rest+v:=by omega
         simp only [go_sem]
         exact ⟨(d',addl rest v 0),Kept.of rfl KT.z KM.z,⟨by simp only []; omega,hcl,by simp only []; rw [he]; exact g3,g⟩,by simp only []; omega⟩
 · have hxv:v=x:=by
    rcases Nat.lt_or_ge v x with h'|h'
    · have:(v+1)*18446744073709551616≤x*18446744073709551616:=Nat.mul_le_mul_right _ h'
      omega
    · omega
   subst hxv
   have hc:=add_all y v 0
   have i3:18446744073709551615*v+(y+v)=v*18446744073709551616+y:=by omega
   have i4:(v*18446744073709551616+y)*18446744073709551616+z<(18446744073709551615+1)*(v*18446744073709551616+w):=hlt
   simp only [go_sem,h,hy]
   refine if_split (fun hb=>?_) (fun hb=>?_)
   · have hb:addh y v 0 ≠ 0:=by simpa using hb
     have:=guess_eq (guess_le i3 (guess_end (z:=z) (by decide) hw (by omega))) i4
     simp only [go_sem]
     rw [← this]; exact .refl _
   · have hb:addh y v 0=0:=by simpa using hb
     have i2:=addl_lt y v 0
     rw [show y+v=addl y v 0 by omega] at i3
     have i1:18446744073709551615<18446744073709551616:=by decide
     simp only [go_sem]
     generalize addl y v 0=r0 at *
     obtain ⟨d0,hd0⟩:∃ d0:Nat,d0=18446744073709551615:=⟨_,rfl⟩
     rw [← hd0] at i1 i3 i4
     have hd0':(18446744073709551615:Int)=(d0:Int):=by rw [hd0]; rfl
     rw [hd0']
     clear hd0 hd0'
     refine trX_loop HE hP.mix [] (fun q:Nat × Nat=>⟨upd (upd (upd (upd (upd (upd (fun _=>.junk) 2 (.int .u64 (z:Int))) 3 (.int .u64 (v:Int))) 4 (.int .u64 (w:Int))) 10 (.int .u64 0)) 11 (.int .u64 (q.1:Int))) 12 (.int .u64 (q.2:Int)),fun _=>.unused,67⟩)
      (fun q=>q.1<18446744073709551616∧q.2<18446744073709551616∧q.1*v+q.2=v*18446744073709551616+y∧(v*18446744073709551616+y)*18446744073709551616+z<(q.1+1)*(v*18446744073709551616+w)) (fun q=>q.1) (d0,r0) 0
      Has.z (Kept.of rfl KT.z KM.z) ⟨i1,i2,i3,i4⟩ 67 (by kernel_rfl) ?_
     rintro ⟨d,rest⟩ ⟨q1,q2,q3,q4⟩
     simp only [] at q1 q2 q3 q4
     clear i1 i2 i3 i4
     have hm:mulh d w*18446744073709551616+mull d w=d*w:=by rw [Nat.mul_comm,Nat.add_comm]; exact mul_all d w
     have hml:=mull_lt d w
     have fin:d*w≤rest*18446744073709551616+z→d=((v*18446744073709551616+y)*18446744073709551616+z) / (v*18446744073709551616+w):=fun h=>guess_eq (guess_le q3 h) q4
     by_cases h1:mulh d w<rest
     · simp only [go_sem,q1,hw,h1]
       rw [← fin (le_of hm hml (.inl h1))]; exact .refl _
     · have hstep:rest*18446744073709551616+z<d*w→∃ d',d=d'+1∧(v*18446744073709551616+y)*18446744073709551616+z<(d'+1)*(v*18446744073709551616+w):=fun h=>by
        have:=guess_gt q3 h
        obtain ⟨d',rfl⟩:=succ_of h
        exact ⟨d',rfl,this⟩
       have h2t:(mulh d w == rest)=true∨(mulh d w == rest)=false:=by cases (mulh d w == rest)<;>simp
       rcases h2t with h2|h2
       · have h2e:mulh d w=rest:=by simpa using h2
         by_cases h3:mull d w≤z
         · simp only [go_sem,q1,hw,h1,h2,h3]
           rw [← fin (le_of hm hml (.inr ⟨h2e,h3⟩))]; exact .refl _
         · obtain ⟨d',rfl,g⟩:=hstep (ge_of hm hml h1 (fun _=>Nat.lt_of_not_le h3) hz)
           clear fin hstep
           have m1:=u_nat d' (by omega)
           have hc:=add_all rest v 0
           have hcl:=addl_lt rest v 0
           have g3:d'*v+(rest+v)=v*18446744073709551616+y:=by rw [← q3,Nat.succ_mul]; omega
           simp only [go_sem,q1,q2,hw,h1,h2,h3,m1]
           refine if_split (fun hb=>?_) (fun hb=>?_)
           · have hb:addh rest v 0 ≠ 0:=by simpa using hb
             have:d'*w≤(rest+v)*18446744073709551616+z:=guess_end (by omega) hw (by omega)
             simp only [go_sem]
             rw [← guess_eq (guess_le g3 this) g]; exact .refl _
           · have hb:addh rest v 0=0:=by simpa using hb
             have he:addl rest v 0=rest+v:=by omega
             simp only [go_sem]
             exact ⟨(d',addl rest v 0),Kept.of rfl KT.z KM.z,⟨by simp only []; omega,hcl,by simp only []; rw [he]; exact g3,g⟩,by simp only []; omega⟩
       · have h2e:mulh d w ≠ rest:=by simpa using h2
         obtain ⟨d',rfl,g⟩:=hstep (ge_of hm hml h1 (fun e=>absurd e h2e) hz)
         clear fin hstep
         have m1:=u_nat d' (by omega)
         have hc:=add_all rest v 0
         have hcl:=addl_lt rest v 0
         have g3:d'*v+(rest+v)=v*18446744073709551616+y:=by rw [← q3,Nat.succ_mul]; omega
         simp only [go_sem,q1,q2,hw,h1,h2,m1]
         refine if_split (fun hb=>?_) (fun hb=>?_)
         · have hb:addh rest v 0 ≠ 0:=by simpa using hb
           have:d'*w≤(rest+v)*18446744073709551616+z:=guess_end (by omega) hw (by omega)
           simp only [go_sem]
           rw [← guess_eq (guess_le g3 this) g]; exact .refl _
         · have hb:addh rest v 0=0:=by simpa using hb
           have he:addl rest v 0=rest+v:=by omega
           simp only [go_sem]
           exact ⟨(d',addl rest v 0),Kept.of rfl KT.z KM.z,⟨by simp only []; omega,hcl,by simp only []; rw [he]; exact g3,g⟩,by simp only []; omega⟩
theorem guess_top (hP:PrgOk P) (z v w:Nat) (hz:z<18446744073709551616) (hv:v<18446744073709551616) (hw:w<18446744073709551616):CSpec P 148 [.int .u64 (v:Int),.int .u64 (w:Int),.int .u64 (z:Int),.int .u64 (v:Int),.int .u64 (w:Int)] (.int .u64 18446744073709551615):=by
 have HE:=Sc_ok hP
 refine CSpec_go (E:=⟨T0,Sc⟩) (fn148 hP) HE hP.mix ?_
 have h:¬ v<v:=Nat.lt_irrefl v
 have hc:=add_all w v 0
 simp only [go_sem,h,hw]
 refine if_split (fun hb=>?_) (fun hb=>?_)
 · simp only [go_sem]
   exact .refl _
 · have hb:addh w v 0=0:=by simpa using hb
   have i2:=addl_lt w v 0
   have i1:18446744073709551615<18446744073709551616:=by decide
   have i3:addl w v 0=w+v:=by omega
   simp only [go_sem]
   generalize addl w v 0=r0 at *
   obtain ⟨d0,hd0⟩:∃ d0:Nat,d0=18446744073709551615:=⟨_,rfl⟩
   rw [← hd0] at i1
   have hd0':(18446744073709551615:Int)=(d0:Int):=by rw [hd0]; rfl
   rw [hd0']
   refine trX_loop HE hP.mix [] (fun q:Nat × Nat=>⟨upd (upd (upd (upd (upd (upd (fun _=>.junk) 2 (.int .u64 (z:Int))) 3 (.int .u64 (v:Int))) 4 (.int .u64 (w:Int))) 10 (.int .u64 0)) 11 (.int .u64 (q.1:Int))) 12 (.int .u64 (q.2:Int)),fun _=>.unused,67⟩)
    (fun q=>q=(d0,r0)) (fun q=>q.1) (d0,r0) 0
    Has.z (Kept.of rfl KT.z KM.z) rfl 67 (by kernel_rfl) ?_
   rintro ⟨d,rest⟩ hq
   obtain ⟨rfl,rfl⟩:=Prod.mk.inj hq
   have hm:mulh d w*18446744073709551616+mull d w=d*w:=by rw [Nat.mul_comm,Nat.add_comm]; exact mul_all d w
   have hml:=mull_lt d w
   have hle:d*w≤rest*18446744073709551616+z:=by
    have h1:d*w≤18446744073709551616*w:=Nat.mul_le_mul_right _ (by omega)
    have h2:w*18446744073709551616≤rest*18446744073709551616:=Nat.mul_le_mul_right _ (by omega)
    rw [Nat.mul_comm] at h2; omega
   clear hd0 hd0'
   by_cases h1:mulh d w<rest
   · simp only [go_sem,i1,hw,h1]
     exact .refl _
   · have h2t:(mulh d w == rest)=true∨(mulh d w == rest)=false:=by cases (mulh d w == rest)<;>simp
     rcases h2t with h2|h2
     · have h2e:mulh d w=rest:=by simpa using h2
       by_cases h3:mull d w≤z
       · simp only [go_sem,i1,hw,h1,h2,h3]
         exact .refl _
       · exact absurd (ge_of hm hml h1 (fun _=>Nat.lt_of_not_le h3) hz) (Nat.not_lt_of_le hle)
     · have h2e:mulh d w ≠ rest:=by simpa using h2
       exact absurd (ge_of hm hml h1 (fun e=>absurd e h2e) hz) (Nat.not_lt_of_le hle)
theorem gd_ex:∃ f:Nat→Nat→Nat→Nat→Nat→Nat,∀ x y z v w,f x y z v w=if (x*18446744073709551616+y)*18446744073709551616+z<18446744073709551616*(v*18446744073709551616+w) then ((x*18446744073709551616+y)*18446744073709551616+z) / (v*18446744073709551616+w) else 18446744073709551615:=⟨_,fun _ _ _ _ _=>rfl⟩
noncomputable def gdig:Nat→Nat→Nat→Nat→Nat→Nat:=Classical.choose gd_ex
theorem gdig_eq (x y z v w):gdig x y z v w=if (x*18446744073709551616+y)*18446744073709551616+z<18446744073709551616*(v*18446744073709551616+w) then ((x*18446744073709551616+y)*18446744073709551616+z) / (v*18446744073709551616+w) else 18446744073709551615:=Classical.choose_spec gd_ex x y z v w
def guessC (x y z v w:Nat):Prop:=x<18446744073709551616∧y<18446744073709551616∧z<18446744073709551616∧v<18446744073709551616∧w<18446744073709551616∧x*18446744073709551616+y≤v*18446744073709551616+w∧0<v
theorem guess_eqB {B x y z v w:Nat} (hy:y<B) (hw:w<B) (h:x*B+y≤v*B+w) (hn:¬ (x*B+y)*B+z<B*(v*B+w)) (hz:z<B):x=v∧y=w:=by
 have h1:x*B+y=v*B+w:=by
  rcases Nat.lt_or_ge (x*B+y) (v*B+w) with h2|h2
  · have:(x*B+y+1)*B≤(v*B+w)*B:=Nat.mul_le_mul_right _ h2
    rw [Nat.add_mul,Nat.mul_comm (v*B+w)] at this; omega
  · omega
 have h2:x=v:=by
  rcases Nat.lt_trichotomy x v with h3|h3|h3
  · have:(x+1)*B≤v*B:=Nat.mul_le_mul_right _ h3
    rw [Nat.add_mul] at this; omega
  · exact h3
  · have:(v+1)*B≤x*B:=Nat.mul_le_mul_right _ h3
    rw [Nat.add_mul] at this; omega
 subst h2; exact ⟨rfl,by omega⟩
theorem guess_all (hP:PrgOk P) (x y z v w:Nat) (h:guessC x y z v w):CSpec P 148 [.int .u64 (x:Int),.int .u64 (y:Int),.int .u64 (z:Int),.int .u64 (v:Int),.int .u64 (w:Int)] (.int .u64 ((gdig x y z v w:Nat):Int)):=by
 obtain ⟨hx,hy,hz,hv,hw,hle,hv0⟩:=h
 rw [gdig_eq]
 by_cases h:(x*18446744073709551616+y)*18446744073709551616+z<18446744073709551616*(v*18446744073709551616+w)
 · rw [if_pos h]; exact guess_spec hP x y z v w hx hy hz hv hw h hv0
 · rw [if_neg h]
   obtain ⟨rfl,rfl⟩:=guess_eqB hy hw hle h hz
   exact guess_top hP z x y hz hx hy
noncomputable def guessS:List AV→Option (Prop × AV)
 | [.int .u64 x,.int .u64 y,.int .u64 z,.int .u64 v,.int .u64 w]=>some ((0≤x∧0≤y∧0≤z∧0≤v∧0≤w)∧guessC x.toNat y.toNat z.toNat v.toNat w.toNat,.int .u64 ((gdig x.toNat y.toNat z.toNat v.toNat w.toNat:Nat):Int))
 | _=>none
theorem guessS_ok (hP:PrgOk P) (args p r) (h:guessS args=some (p,r)) (hp:p):CSpec P 148 args r:=by
 unfold guessS at h
 split at h
 · simp only [Option.some.injEq,Prod.mk.injEq] at h
   obtain ⟨rfl,rfl⟩:=h
   exact (by rename_i x y z v w; obtain ⟨⟨a1,a2,a3,a4,a5⟩,b⟩:=hp; have:=guess_all hP _ _ _ _ _ b; rw [nn a1,nn a2,nn a3,nn a4,nn a5] at this; exact this)
 · simp at h
attribute [go_sem] guessS
theorem gdig_good {B p P3 V2 V Pn q lowV lowP:Nat} (hV:V=V2*p+lowV) (hl:lowV<p) (hPn:Pn=P3*p+lowP) (hlp:lowP<p) (hB:B≤V2) (hB0:0<B) (hPV:Pn<B*V) (hq:q=if P3<B*V2 then P3 / V2 else B-1):q<B∧q*V<Pn+V∧Pn<(q+1)*V:=by
 have hV2:0<V2:=by omega
 have h0:B*p≤V2*p:=Nat.mul_le_mul_right _ hB
 have hVp:0<V2*p:=Nat.mul_pos hV2 (by omega)
 split at hq
 · rename_i h
   have e1:=Nat.div_mul_le_self P3 V2
   have e2:P3<(q+1)*V2:=by
    rw [hq,Nat.add_mul,Nat.one_mul,Nat.mul_comm]
    have:=Nat.mod_add_div P3 V2
    have:=Nat.mod_lt P3 hV2
    omega
   rw [← hq] at e1
   have hqB:q<B:=by rw [hq]; exact (Nat.div_lt_iff_lt_mul hV2).2 h
   refine ⟨hqB,?_,?_⟩
   · have a1:q*V2*p≤P3*p:=Nat.mul_le_mul_right _ e1
     clear hq
     rw [hV,Nat.mul_add,← Nat.mul_assoc]
     rcases Nat.eq_zero_or_pos q with hq0|hq0
     · subst hq0; simp; omega
     · have a3:q*lowV<q*p:=(Nat.mul_lt_mul_left hq0).2 hl
       have a4:q*p≤B*p:=Nat.mul_le_mul_right _ (by omega)
       omega
   · have a1:(P3+1)*p≤(q+1)*V2*p:=Nat.mul_le_mul_right _ e2
     clear hq
     rw [Nat.add_mul,Nat.one_mul] at a1
     rw [hV,Nat.mul_add,← Nat.mul_assoc]; omega
 · rename_i h
   refine ⟨by omega,?_,?_⟩
   · have a1:B*V2*p≤P3*p:=Nat.mul_le_mul_right _ (by omega)
     have a2:B*lowV<B*p:=(Nat.mul_lt_mul_left hB0).2 hl
     have a3:(q+1)*V=B*V:=by rw [hq]; congr 1; omega
     have a4:B*V=B*V2*p+B*lowV:=by rw [hV,Nat.mul_add,Nat.mul_assoc]
     rw [Nat.add_mul,Nat.one_mul] at a3
     omega
   · have a3:(q+1)*V=B*V:=by rw [hq]; congr 1; omega
     omega
theorem away_none {w V d P Bn b:Nat} (h:w+V*d=P+Bn*b) (hb:b=0) (h2:P<(d+1)*V):w<V∧w+d*V=P:=by
 subst hb; rw [Nat.mul_comm V] at h; rw [Nat.add_mul] at h2; omega
theorem away_much {w w2 V d P Bn b c:Nat} (h:w+V*d=P+Bn*b) (hb:b=1) (hw:w<Bn) (h1:d*V<P+V) (hc:c≤1) (h3:w2+Bn*c=w+V) (hV:V<Bn) (hw2:w2<Bn):∃ d',d=d'+1∧w2<V∧w2+d'*V=P:=by
 subst hb
 rw [Nat.mul_comm V] at h
 obtain ⟨d',rfl⟩:∃ d',d=d'+1:=by
  cases d with
  | zero=>omega
  | succ d=>exact ⟨d,rfl⟩
 rw [Nat.add_mul,Nat.one_mul] at h h1
 refine ⟨d',rfl,?_⟩
 rcases Nat.le_one_iff_eq_zero_or_eq_one.1 hc with rfl|rfl<;>omega
theorem pow64 {s:Nat} (hs:s≤64):(2:Nat)^(64-s)*2^s=18446744073709551616:=by rw [← Nat.pow_add,show 64-s+s=64 by omega]
theorem shl_mod (d s:Nat) (hs:s≤64):d*2^s % 18446744073709551616=d % 2^(64-s)*2^s:=by rw [← pow64 hs,Nat.mul_mod_mul_right]
theorem shl_all (d s:Nat) (hs:s≤64):d*2^s % 18446744073709551616+18446744073709551616*(d / 2^(64-s))=d*2^s:=by
 have:=Nat.mod_add_div d (2^(64-s))
 rw [shl_mod d s hs]
 conv=>rhs; rw [← this]
 rw [Nat.add_mul]; congr 1
 rw [← pow64 hs,Nat.mul_right_comm]
theorem shr_lt {d s:Nat} (hs:s≤64) (hd:d<18446744073709551616):d / 2^(64-s)<2^s:=by
 rw [Nat.div_lt_iff_lt_mul (Nat.two_pow_pos _),Nat.mul_comm,pow64 hs]; exact hd
theorem wu_shl (d s:Nat):IntKind.u64.wrap ((d:Int)*2^s)=((d*2^s % 18446744073709551616:Nat):Int):=by
 rw [show (d:Int)*2^s=((d*2^s:Nat):Int) by simp,IntKind.wrap_u64]; generalize d*2^s=c; omega
theorem or_up {d c s:Nat} (hs:s≤64) (hc:c<2^s):IntKind.u64.wrap (((BitVec.ofInt 64 ((d*2^s % 18446744073709551616:Nat):Int) ||| BitVec.ofInt 64 (c:Int)).toNat:Nat):Int)=((d*2^s % 18446744073709551616+c:Nat):Int):=by
 rw [shl_mod d s hs]
 refine or64 _ _ _ ?_ hc hs
 rw [← shl_mod d s hs]; exact Nat.mod_lt _ (by decide)
theorem or_dn {b x t:Nat} (ht:t≤64) (hb:b<2^t):IntKind.u64.wrap (((BitVec.ofInt 64 (b:Int) ||| BitVec.ofInt 64 ((x*2^t % 18446744073709551616:Nat):Int)).toNat:Nat):Int)=((x*2^t % 18446744073709551616+b:Nat):Int):=by
 rw [BitVec.or_comm]; exact or_up ht hb
theorem or_up_lt {d c s:Nat} (hs:s≤64) (hc:c<2^s):d*2^s % 18446744073709551616+c<18446744073709551616:=by
 rw [shl_mod d s hs]
 have h1:d % 2^(64-s)+1≤2^(64-s):=Nat.mod_lt _ (Nat.two_pow_pos _)
 have h2:=Nat.mul_le_mul_right (2^s) h1
 rw [pow64 hs,Nat.add_mul,Nat.one_mul] at h2
 omega
theorem rep_get {done:List Nat} {n k:Nat} (hd:done.length=k) (hk:k<n):(done++List.replicate (n-k) 0).getD k 0=0:=by
 obtain ⟨j,hj⟩:∃ j,n-k=j+1:=⟨n-k-1,by omega⟩
 rw [hj,List.replicate_succ]; exact get_app (R:=List.replicate j 0) hd
theorem rep_set {done:List Nat} {n k s:Nat} (hd:done.length=k) (hk:k<n):(done++List.replicate (n-k) 0).set k s=(done++[s])++List.replicate (n-(k+1)) 0:=by
 obtain ⟨j,hj⟩:∃ j,n-k=j+1:=⟨n-k-1,by omega⟩
 rw [hj,List.replicate_succ,show n-(k+1)=j by omega,List.append_assoc]; exact set_app (R:=List.replicate j 0) hd
theorem rep_len {done:List Nat} {n k:Nat} (hd:done.length=k) (hk:k<n):k<(done++List.replicate (n-k) 0).length:=by simp; omega
theorem sn_get {done R:List Nat} {x k:Nat} (hd:done.length=k):((done++[x])++R).getD k 0=x:=by rw [List.append_assoc]; exact get_app hd
theorem sn_set {done R:List Nat} {x k s:Nat} (hd:done.length=k):((done++[x])++R).set k s=(done++[s])++R:=by
 rw [List.append_assoc,set_app hd,List.append_assoc]; rfl
theorem sn_len {done R:List Nat} {x k:Nat} (hd:done.length=k):k<((done++[x])++R).length:=by simp; omega
def cup (d:List Nat) (s k:Nat):Nat:=if k=0 then 0 else d.getD (k-1) 0 / 2^(64-s)
theorem cup_lt {d:List Nat} {s k:Nat} (hs:s≤64) (hd:∀ x ∈ d,x<18446744073709551616):cup d s k<2^s:=by
 unfold cup; split
 · exact Nat.two_pow_pos _
 · refine shr_lt hs ?_
   by_cases h:k-1<d.length
   · exact hd _ (getD_mem h)
   · rw [List.getD_eq_getElem?_getD,List.getElem?_eq_none (by omega)]; simp
theorem up_step {p D V z c x a c':Nat} {t:Nat} (h:D+p*c=V*t) (h1:a+18446744073709551616*c'=x*t) (hz:z=a+c):D+p*z+p*18446744073709551616*c'=(V+p*x)*t:=by
 have e2:=congrArg (p*·) h1
 simp only [Nat.mul_add,← Nat.mul_assoc] at e2
 rw [hz,Nat.add_mul,Nat.mul_add]; omega
theorem up_ic (hP:PrgOk P) {L:List Nat} {m:Nat→AObj} {K:Nat→AV→(Nat→AObj)→Prop} {r nx0 N:Nat} {d:List Nat} {s n:Nat} (hm:GenM L m) (hr:L.contains r=true) (hmr:m r = .unused) (hrn:nx0+1+1=r) (hn3:n≤1099511627776) (hn:d.length≤n) (hn1:n≤d.length+1) (hd0:d ≠ []) (hd:∀ x ∈ d,x<18446744073709551616) (hs:s≤63)
 (k:∀ (w:List Nat),w.length=n→(∀ d ∈ w,d<18446744073709551616)→dOf 18446744073709551616 w+18446744073709551616^n*cup d s n=dOf 18446744073709551616 d*2^s→K N (.sl r 0 n 1) (upd m r (.live (List.map (fun d:Nat=>AV.int .u64 (d:Int)) (w))))) :
 icX (ICall P) 147 [.imm d.length (List.map (fun d:Nat=>AV.int .u64 (d:Int)) (d)),.int .i64 (s:Int),.int .i64 (n:Int)] m (K:=⟨K⟩):=by
 have HE:=Sc_ok hP
 refine icX_any N (icX_vc (E:=⟨T0,Sc⟩) (fn147 hP) HE hP.mix rfl (by first|rfl|(simp only [go_sem]; done)) (Nat.le_of_ble_eq_true rfl) nx0 ?_)
 simp only [go_sem,hmr,hn3,hrn]
 refine trX_loop HE hP.mix L (fun q:Nat × List Nat=>⟨upd (upd (upd (upd (upd (upd (fun _=>.junk) 0 (.imm d.length (List.map (fun d:Nat=>AV.int .u64 (d:Int)) (d)))) 1 (.int .i64 (s:Int))) 6 .nils) 7 (.sl r 0 n 1)) 12 (.int .i64 (n:Int))) 13 (.int .i64 (q.1:Int)),upd m r (.live (List.map (fun d:Nat=>AV.int .u64 (d:Int)) (q.2++List.replicate (n-q.1) 0))),57⟩)
  (fun q=>q.1≤n∧q.2.length=q.1∧(∀ x ∈ q.2,x<18446744073709551616)∧dOf 18446744073709551616 q.2+18446744073709551616^q.1*cup d s q.1=dOf 18446744073709551616 (d.take q.1)*2^s) (fun q=>n-q.1) (0,[]) 0
  (hm.upd hr objOnly_U).1 (Kept.of rfl KT.z (KM.gen (hm.upd hr objOnly_U))) ⟨by simp,by simp,by simp,by simp [dOf,cup]⟩ 57 (by kernel_rfl) ?_
 rintro ⟨i,dn⟩ ⟨q1,q2,q3,q4⟩
 simp only [] at q1 q2 q3 q4
 have hcl:=cup_lt (k:=i) (show s≤64 by omega) hd
 by_cases hi:i<n
 · have hwi:=wi_add1 i (by omega)
   have hnl:i<dn.length+(n-i):=by omega
   have hget:=rep_get q2 hi
   have hset:∀ x,(dn++List.replicate (n-i) 0).set i x=(dn++[x])++List.replicate (n-(i+1)) 0:=fun x=>rep_set q2 hi
   have hlen:=rep_len q2 hi
   have hsm:min s 64=s:=by omega
   have hlt:=or_up_lt (d:=d.getD i 0) (show s≤64 by omega) hcl
   have hlt0:d.getD i 0*2^s % 18446744073709551616<18446744073709551616:=Nat.mod_lt _ (by decide)
   have fin:∀ z,z=d.getD i 0*2^s % 18446744073709551616+cup d s i→z<18446744073709551616∧(∀ x ∈ dn++[z],x<18446744073709551616)∧dOf 18446744073709551616 (dn++[z])+18446744073709551616^(i+1)*cup d s (i+1)=dOf 18446744073709551616 (d.take (i+1))*2^s:=fun z hz=>by
    refine ⟨by omega,?_,?_⟩
    · intro x hx
      rcases List.mem_append.1 hx with hx|hx
      · exact q3 x hx
      · rw [List.mem_singleton.1 hx]; omega
    · have h1:=shl_all (d.getD i 0) s (by omega)
      have h2:=up_step q4 h1 hz
      have h3:cup d s (i+1)=d.getD i 0 / 2^(64-s):=by unfold cup; rw [if_neg (by omega),Nat.add_sub_cancel]
      rw [h3,dOf_snoc,q2,Nat.pow_succ]
      refine h2.trans ?_
      by_cases hl:i<d.length
      · rw [dOf_take_succ 18446744073709551616 d i hl]
      · rw [List.take_of_length_le (show d.length≤i by omega),List.take_of_length_le (show d.length≤i+1 by omega),List.getD_eq_getElem?_getD,List.getElem?_eq_none (by omega)]; simp
   have hfin:∀ z,z=d.getD i 0*2^s % 18446744073709551616+cup d s i→∀ St',Kept L St' ⟨upd (upd (upd (upd (upd (upd (fun _=>.junk) 0 (.imm d.length (List.map (fun d:Nat=>AV.int .u64 (d:Int)) (d)))) 1 (.int .i64 (s:Int))) 6 .nils) 7 (.sl r 0 n 1)) 12 (.int .i64 (n:Int))) 13 (.int .i64 ((i+1:Nat):Int)),upd m r (.live (List.map (fun d:Nat=>AV.int .u64 (d:Int)) ((dn++[z])++List.replicate (n-(i+1)) 0))),57⟩→∃ x:Nat × List Nat,Kept L St' ⟨upd (upd (upd (upd (upd (upd (fun _=>.junk) 0 (.imm d.length (List.map (fun d:Nat=>AV.int .u64 (d:Int)) (d)))) 1 (.int .i64 (s:Int))) 6 .nils) 7 (.sl r 0 n 1)) 12 (.int .i64 (n:Int))) 13 (.int .i64 (x.1:Int)),upd m r (.live (List.map (fun d:Nat=>AV.int .u64 (d:Int)) (x.2++List.replicate (n-x.1) 0))),57⟩∧(x.1≤n∧x.2.length=x.1∧(∀ y ∈ x.2,y<18446744073709551616)∧dOf 18446744073709551616 x.2+18446744073709551616^x.1*cup d s x.1=dOf 18446744073709551616 (d.take x.1)*2^s)∧n-x.1<n-i:=fun z hz St' hk=>by
    obtain ⟨z1,z2,z3⟩:=fin z hz
    exact ⟨(i+1,dn++[z]),hk,⟨by simp only []; omega,by simp only [List.length_append,List.length_singleton]; omega,z2,z3⟩,by simp only []; omega⟩
   have hle:i≤d.length:=by omega
   have hwk:(∀ a,GenM L (upd m r (.live (List.map (fun d:Nat=>AV.int .u64 (d:Int)) (dn++[a]++List.replicate (n-(i+1)) 0))))):=fun a=>hm.upd hr objOnly_U
   obtain ⟨a,haa⟩:∃ a,d.getD i 0*2^s % 18446744073709551616=a:=⟨_,rfl⟩
   have hshl:=wu_shl (d.getD i 0) s
   rw [haa] at hshl hfin hlt hlt0
   have hset2:∀ x,((dn++[a])++List.replicate (n-(i+1)) 0).set i x=(dn++[x])++List.replicate (n-(i+1)) 0:=fun x=>sn_set q2
   have hget2:((dn++[a])++List.replicate (n-(i+1)) 0).getD i 0=a:=sn_get q2
   have hlen2:i<((dn++[a])++List.replicate (n-(i+1)) 0).length:=sn_len q2
   have hnl2:i<dn.length+(1+(n-(i+1))):=by omega
   have hnl3:i<dn.length+1+(n-(i+1)):=by omega
   cases i with
   | zero =>
     have hl:0<d.length:=List.length_pos_iff.2 hd0
     have hz:=hfin a (by simp [cup])
     have hl0:0<d.length:=hl
     simp only [Nat.sub_zero,Nat.zero_add] at hset hget hlen hnl hnl2 hset2 hget2 hlen2 hnl3 hz hwk hwi
     simp only [go_sem,hi,hl,hwi,hnl,hset,hget,hlen,gU hlen,hsm,hshl,gU hl,upd_upd]
     exact hz _ (Kept.of rfl KT.z (KM.gen (hwk a)))
   | succ j =>
     have hj:j<d.length:=by omega
     have hj2:j≤d.length:=by omega
     have hwj:=wi_nat j (by omega)
     have hw64:IntKind.i64.wrap (64-(s:Int))=((64-s:Nat):Int):=by rw [IntKind.wrap_i64]; omega
     have hm64:min (64-s) 64=64-s:=by omega
     have hcup:cup d s (j+1)=d.getD j 0 / 2^(64-s):=by unfold cup; rw [if_neg (by omega),Nat.add_sub_cancel]
     have hor:IntKind.u64.wrap (((BitVec.ofInt 64 (a:Int) ||| BitVec.ofInt 64 ((cup d s (j+1):Nat):Int)).toNat:Nat):Int)=((a+cup d s (j+1):Nat):Int):=by rw [← haa]; exact or_up (show s≤64 by omega) hcl
     rw [hcup] at hor hcl hlt hfin
     obtain ⟨c,hcc⟩:∃ c,d.getD j 0 / 2^(64-s)=c:=⟨_,rfl⟩
     rw [hcc] at hor hcl hlt hfin
     obtain ⟨z,hzz⟩:∃ z,a+c=z:=⟨_,rfl⟩
     rw [hzz] at hor hfin hlt
     have hz:=hfin z rfl
     by_cases hs0:0<s
     · by_cases hl:j+1<d.length
       · simp only [go_sem,hi,hl,hle,hwi,hwj,hw64,hm64,hnl,hnl2,hnl3,hset,hset2,hget,hget2,hlen,hlen2,hsm,hs0,hshl,gU' hl,gU' hj,hj,hj2,gU hlen,gU hlen2,fd_pow,hcc,or_fix,hor,upd_upd,List.any_toArray,Region.binds]
         exact hz _ (Kept.of rfl KT.z (KM.gen (hwk z)))
       · have ha0:a=0:=by rw [← haa,List.getD_eq_getElem?_getD,List.getElem?_eq_none (by omega)]; simp
         subst ha0
         simp only [go_sem,hi,hl,hle,hwi,hwj,hw64,hm64,hnl,hnl2,hnl3,hset,hset2,hget,hget2,hlen,hlen2,hsm,hs0,gU' hj,hj,hj2,gU hlen,gU hlen2,fd_pow,hcc,or_fix,hor,upd_upd,List.any_toArray,Region.binds]
         exact hz _ (Kept.of rfl KT.z (KM.gen (hwk z)))
     · have hs00:s=0:=by omega
       have hc0:c=0:=by
        rw [← hcc,hs00]
        exact Nat.div_eq_of_lt (hd _ (getD_mem hj))
       have hza:z=a:=by omega
       subst hza
       by_cases hl:j+1<d.length
       · simp only [go_sem,hi,hl,hle,hwi,hwj,hnl,hnl2,hnl3,hset,hget,hlen,hsm,hs0,hshl,gU' hl,gU hlen,upd_upd]
         exact hz _ (Kept.of rfl KT.z (KM.gen (hwk z)))
       · have ha0:z=0:=by rw [← haa,List.getD_eq_getElem?_getD,List.getElem?_eq_none (by omega)]; simp
         have hrs:dn++List.replicate (n-(j+1)) 0=(dn++[z])++List.replicate (n-(j+1+1)) 0:=by
          rw [ha0,show n-(j+1)=n-(j+1+1)+1 by omega,List.replicate_succ,List.append_assoc]; rfl
         simp only [go_sem,hi,hl,hle,hwi,hwj,hsm,hs0]
         rw [hrs]
         exact hz _ (Kept.of rfl KT.z (KM.gen (hwk z)))
 · simp only [go_sem,hi]
   have hie:i=n:=by omega
   have e1:d.take i=d:=List.take_of_length_le (by omega)
   rw [e1,hie] at q4
   rw [hie,Nat.sub_self,List.replicate_zero,List.append_nil]
   exact k dn (by omega) q3 q4
def edn (l:List Nat) (s k:Nat):Nat:=l.getD k 0 % 2^s
theorem dn_digit {s x y:Nat} (hs:s≤64):(y*2^(64-s) % 18446744073709551616+x / 2^s)*2^s+x % 2^s=x+18446744073709551616*(y % 2^s):=by
 rw [shl_mod y (64-s) (by omega),show 64-(64-s)=s by omega,Nat.add_mul,Nat.mul_assoc,pow64 hs]
 have:=Nat.mod_add_div x (2^s)
 rw [Nat.mul_comm (x / 2^s)]
 omega
theorem dn_digit0 {s x:Nat}:(x / 2^s)*2^s+x % 2^s=x+18446744073709551616*0:=by
 have:=Nat.mod_add_div x (2^s)
 rw [Nat.mul_comm (x / 2^s)]
 omega
theorem dn_step {p D W e0 e e' z x t:Nat} (h:D*t+e0=W+p*e) (h1:z*t+e=x+18446744073709551616*e'):(D+p*z)*t+e0=W+p*x+p*18446744073709551616*e':=by
 have e2:=congrArg (p*·) h1
 simp only [Nat.mul_add,← Nat.mul_assoc] at e2
 rw [Nat.add_mul]; omega
theorem dn_end {D W e0 t:Nat} (h:D*t+e0=W) (he:e0<t):D=W / t:=by
 refine (Nat.div_eq_of_lt_le ?_ ?_).symm
 · omega
 · rw [Nat.add_mul]; omega
theorem getD_ge {l:List Nat} {k:Nat} (h:l.length≤k):l.getD k 0=0:=by
 rw [List.getD_eq_getElem?_getD,List.getElem?_eq_none h]; rfl
theorem down_spec (hP:PrgOk P) (l:List Nat) (n s:Nat) (hd:∀ x ∈ l,x<18446744073709551616) (hn:l.length=n) (hn3:n≤1099511627776) (hs:s≤63):CSpec P 151 [.imm n (List.map (fun d:Nat=>AV.int .u64 (d:Int)) (l)),.int .i64 (s:Int)] (.agg [.opq (.nat (dOf 18446744073709551616 l / 2^s)),.pad]):=by
 have HE:=Sc_ok hP
 refine CSpec_go (E:=⟨T0,Sc⟩) (fn151 hP) HE hP.mix ?_
 simp only [go_sem,hn3]
 refine trX_loop HE hP.mix [3,0] (fun q:Nat × List Nat=>⟨upd (upd (upd (upd (upd (upd (fun _=>.junk) 0 (.imm n (List.map (fun d:Nat=>AV.int .u64 (d:Int)) (l)))) 1 (.int .i64 (s:Int))) 4 (.ref 0 0)) 5 (.sl 3 0 n 1)) 11 (.int .i64 (n:Int))) 12 (.int .i64 (q.1:Int)),upd (upd (fun _=>.unused) 0 (.live [.int .u64 0,.nils])) 3 (.live (List.map (fun d:Nat=>AV.int .u64 (d:Int)) (q.2++List.replicate (n-q.1) 0))),50⟩)
  (fun q=>q.1≤n∧q.2.length=q.1∧(∀ x ∈ q.2,x<18446744073709551616)∧dOf 18446744073709551616 q.2*2^s+edn l s 0=dOf 18446744073709551616 (l.take q.1)+18446744073709551616^q.1*edn l s q.1) (fun q=>n-q.1) (0,[]) 20
  Has.z (Kept.of rfl KT.z KM.z) ⟨by simp,by simp,by simp,by simp [dOf]⟩ 50 (by kernel_rfl) ?_
 rintro ⟨i,dn⟩ ⟨q1,q2,q3,q4⟩
 simp only [] at q1 q2 q3 q4
 by_cases hi:i<n
 · have hil:i<l.length:=by omega
   have hil2:i≤n:=by omega
   have hil3:i≤l.length:=by omega
   have hwi:=wi_add1 i (by omega)
   have hnl:i<dn.length+(n-i):=by omega
   have hget:=rep_get q2 hi
   have hset:∀ x,(dn++List.replicate (n-i) 0).set i x=(dn++[x])++List.replicate (n-(i+1)) 0:=fun x=>rep_set q2 hi
   have hlen:=rep_len q2 hi
   have hsm:min s 64=s:=by omega
   have hnl3:i<dn.length+1+(n-(i+1)):=by omega
   have hdi:=hd _ (getD_mem hil)
   have fin:∀ z,z<18446744073709551616→z*2^s+edn l s i=l.getD i 0+18446744073709551616*edn l s (i+1)→∃ x:Nat × List Nat,x=(i+1,dn++[z])∧(x.1≤n∧x.2.length=x.1∧(∀ y ∈ x.2,y<18446744073709551616)∧dOf 18446744073709551616 x.2*2^s+edn l s 0=dOf 18446744073709551616 (l.take x.1)+18446744073709551616^x.1*edn l s x.1)∧n-x.1<n-i:=fun z hz h1=>by
    refine ⟨_,rfl,⟨by simp only []; omega,by simp only [List.length_append,List.length_singleton]; omega,?_,?_⟩,by simp only []; omega⟩
    · intro x hx
      rcases List.mem_append.1 hx with hx|hx
      · exact q3 x hx
      · rw [List.mem_singleton.1 hx]; exact hz
    · simp only []
      rw [dOf_snoc,q2,dOf_take_succ 18446744073709551616 l i hil,Nat.pow_succ]
      exact dn_step q4 h1
   have hb:l.getD i 0 / 2^s<2^(64-s):=by
    have:=shr_lt (s:=64-s) (by omega) hdi
    rwa [show 64-(64-s)=s by omega] at this
   have hbb:l.getD i 0 / 2^s<18446744073709551616:=Nat.lt_of_le_of_lt (Nat.div_le_self _ _) hdi
   obtain ⟨b,hbe⟩:∃ b,l.getD i 0 / 2^s=b:=⟨_,rfl⟩
   have hset2:∀ x,((dn++[b])++List.replicate (n-(i+1)) 0).set i x=(dn++[x])++List.replicate (n-(i+1)) 0:=fun x=>sn_set q2
   have hget2:((dn++[b])++List.replicate (n-(i+1)) 0).getD i 0=b:=sn_get q2
   have hlen2:i<((dn++[b])++List.replicate (n-(i+1)) 0).length:=sn_len q2
   by_cases h1:i+1<n
   · have h1l:i+1<l.length:=by omega
     have h1n:i+1≤n:=by omega
     have h1m:i+1≤l.length:=by omega
     have hw64:IntKind.i64.wrap (64-(s:Int))=((64-s:Nat):Int):=by rw [IntKind.wrap_i64]; omega
     have hm64:min (64-s) 64=64-s:=by omega
     by_cases hs0:0<s
     · have hshl:=wu_shl (l.getD (i+1) 0) (64-s)
       have hor:=or_dn (x:=l.getD (i+1) 0) (t:=64-s) (by omega) hb
       have hz:=fin (l.getD (i+1) 0*2^(64-s) % 18446744073709551616+l.getD i 0 / 2^s) (or_up_lt (by omega) hb) (dn_digit (by omega))
       rw [hbe] at hor hz
       generalize hcc:l.getD (i+1) 0*2^(64-s) % 18446744073709551616=c at hshl hor hz
       generalize hzz:c+b=z at hor hz
       simp only [go_sem,hi,hil,hil2,hil3,hwi,hnl,hnl3,hset,hset2,hget,hget2,hlen,hlen2,hsm,gU hil,gU' hil,gU hlen,gU hlen2,gU' h1l,h1,h1n,h1l,h1m,hs0,hw64,hm64,hshl,fd_pow,hbe,or_fix,hor,upd_upd,List.any_toArray,Region.binds]
       obtain ⟨x,rfl,hz⟩:=hz
       exact ⟨_,Kept.of rfl KT.z KM.z,hz⟩
     · have hs00:s=0:=by omega
       have hz:=fin b (by omega) (by rw [← hbe]; have:=dn_digit0 (s:=s) (x:=l.getD i 0); unfold edn; rw [hs00] at this ⊢; rw [Nat.pow_zero,Nat.mod_one (l.getD (i+1) 0)]; exact this)
       simp only [go_sem,hi,hil,hil2,hil3,hwi,hnl,hnl3,hset,hget,hlen,hsm,gU hil,gU' hil,gU hlen,h1,hs0,fd_pow,hbe,upd_upd]
       obtain ⟨x,rfl,hz⟩:=hz
       exact ⟨_,Kept.of rfl KT.z KM.z,hz⟩
   · have hz:=fin b (by omega) (by rw [← hbe]; unfold edn; rw [getD_ge (show l.length≤i+1 by omega),Nat.zero_mod]; exact dn_digit0)
     simp only [go_sem,hi,hil,hil2,hil3,hwi,hnl,hnl3,hset,hget,hlen,hsm,gU hil,gU' hil,gU hlen,h1,fd_pow,hbe,upd_upd]
     obtain ⟨x,rfl,hz⟩:=hz
     exact ⟨_,Kept.of rfl KT.z KM.z,hz⟩
 · have hie:i=n:=by omega
   subst hie
   have htk:dn.take i=dn:=List.take_of_length_le (by omega)
   have hsl:i<4611686018427387904:=by omega
   have hz3:(∀ d ∈ dn,d<18446744073709551616)=True:=eq_true q3
   have e1:edn l s i=0:=by unfold edn; rw [getD_ge (by omega),Nat.zero_mod]
   have e2:l.take i=l:=List.take_of_length_le (by omega)
   rw [e1,e2,Nat.mul_zero,Nat.add_zero] at q4
   have:=dn_end q4 (Nat.mod_lt _ (Nat.two_pow_pos s))
   simp only [go_sem,hi,htk,q2,hz3,hsl]
   rw [this]; exact .refl _
noncomputable def downS:List AV→Option (Prop × AV)
 | [.imm n cs,.int .i64 s]=>some (cs=(List.map (fun d:Nat=>AV.int .u64 (d:Int)) (cs.map ud))∧n=cs.length∧(∀ d ∈ cs.map ud,d<18446744073709551616)∧n≤1099511627776∧0≤s∧s.toNat≤63,(.agg [.opq (.nat (dOf 18446744073709551616 (cs.map ud) / 2^s.toNat)),.pad]))
 | _=>none
theorem downS_ok (hP:PrgOk P) (args p r) (h:downS args=some (p,r)) (hp:p):CSpec P 151 args r:=by
 unfold downS at h
 split at h
 · simp only [Option.some.injEq,Prod.mk.injEq] at h
   obtain ⟨rfl,rfl⟩:=h
   exact (by rename_i n cs s; obtain ⟨a1,a2,a3,a4,a5,a6⟩:=hp; have:=down_spec hP (cs.map ud) n s.toNat a3 (by rw [List.length_map]; exact a2.symm) a4 a6; rw [nn a5,← a1] at this; exact this)
 · simp at h
attribute [go_sem] downS
noncomputable def Sd:Nat→List AV→Option (Prop × AV):=addS (addS Sc 148 guessS) 151 downS
theorem Sd_ok (hP:PrgOk P):EnvOk P ⟨T0,Sd⟩:=(((Sc_ok hP).add (guessS_ok hP)).add (downS_ok hP))
theorem Sd_at (f a):Sd f a=(addS (addS Sc 148 guessS) 151 downS) f a:=rfl
attribute [go_sem] Sd_at
theorem up_ic' (hP:PrgOk P) {L:List Nat} {m:Nat→AObj} {K:Nat→AV→(Nat→AObj)→Prop} {r nx0 N:Nat} {d:List Nat} {s n nd:Nat} (hm:GenM L m) (hr:L.contains r=true) (hmr:m r = .unused) (hrn:nx0+1+1=r) (hn3:n≤1099511627776) (hnd:d.length=nd) (hn:nd≤n) (hn1:n≤nd+1) (hd0:d ≠ []) (hd:∀ x ∈ d,x<18446744073709551616) (hs:s≤63)
 (k:∀ (w:List Nat),w.length=n→(∀ d ∈ w,d<18446744073709551616)→dOf 18446744073709551616 w+18446744073709551616^n*cup d s n=dOf 18446744073709551616 d*2^s→K N (.sl r 0 n 1) (upd m r (.live (List.map (fun d:Nat=>AV.int .u64 (d:Int)) (w))))) :
 icX (ICall P) 147 [.imm nd (List.map (fun d:Nat=>AV.int .u64 (d:Int)) (d)),.int .i64 (s:Int),.int .i64 (n:Int)] m (K:=⟨K⟩):=by
 subst hnd
 exact up_ic hP hm hr hmr hrn hn3 hn hn1 hd0 hd hs k
theorem get_pre {pre w tail:List Nat} {off i j:Nat} (hp:pre.length=off) (hi:i<w.length) (hj:j=off+i):(pre++(w++tail)).getD j 0=w.getD i 0:=by
 subst hp; subst hj
 induction pre with
 | nil=>simp only [List.nil_append,List.length_nil,Nat.zero_add,List.getD_eq_getElem?_getD]; rw [List.getElem?_append_left hi]
 | cons a pre ih=>simpa [Nat.add_right_comm] using ih
theorem len_pre {pre w tail:List Nat} {off i j:Nat} (hp:pre.length=off) (hi:i<w.length) (hj:j=off+i):j<(pre++(w++tail)).length:=by simp; omega
theorem dOf_top (l:List Nat) (n:Nat) (h:l.length=n+1):dOf 18446744073709551616 l=dOf 18446744073709551616 (l.take n)+18446744073709551616^n*l.getD n 0:=by
 have e:l.take n++[l.getD n 0]=l:=by
  rw [← take_snoc (by omega)]; exact List.take_of_length_le (by omega)
 conv=>lhs; rw [← e]
 rw [dOf_snoc,List.length_take,Nat.min_eq_left (by omega)]
theorem dOf_low {l:List Nat} {n:Nat} (h:∀ d ∈ l,d<18446744073709551616):dOf 18446744073709551616 (l.take n)<18446744073709551616^n:=by
 have h1:=dOf_lt 18446744073709551616 (l.take n) (fun d hd=>h d (List.mem_of_mem_take hd))
 refine Nat.lt_of_lt_of_le h1 (Nat.pow_le_pow_right (by decide) ?_)
 rw [List.length_take]; omega
theorem take_take_getD {l:List Nat} {n k:Nat} (h:n<k):(l.take k).getD n 0=l.getD n 0:=by
 simp only [List.getD_eq_getElem?_getD]; rw [List.getElem?_take_of_lt h]
theorem dOf_top2 (l:List Nat) (n:Nat) (h:l.length=n+2):dOf 18446744073709551616 l=(l.getD (n+1) 0*18446744073709551616+l.getD n 0)*18446744073709551616^n+dOf 18446744073709551616 (l.take n):=by
 rw [dOf_top l (n+1) h,dOf_top (l.take (n+1)) n (by rw [List.length_take]; omega),List.take_take,Nat.min_eq_left (by omega),take_take_getD (by omega),Nat.pow_succ,Nat.add_mul,Nat.mul_assoc (l.getD (n+1) 0),Nat.mul_comm (l.getD (n+1) 0),Nat.mul_comm (18446744073709551616^n) 18446744073709551616,Nat.mul_comm (l.getD n 0)]
 omega
theorem dOf_top3 (l:List Nat) (n:Nat) (h:l.length=n+3):dOf 18446744073709551616 l=((l.getD (n+2) 0*18446744073709551616+l.getD (n+1) 0)*18446744073709551616+l.getD n 0)*18446744073709551616^n+dOf 18446744073709551616 (l.take n):=by
 rw [dOf_top l (n+2) h,dOf_top2 (l.take (n+2)) n (by rw [List.length_take]; omega),List.take_take,Nat.min_eq_left (by omega),take_take_getD (by omega),take_take_getD (by omega)]
 rw [Nat.add_mul (l.getD (n+2) 0*18446744073709551616),Nat.add_mul _ (l.getD n 0),Nat.add_mul _ (l.getD n 0),Nat.add_mul (l.getD (n+2) 0*18446744073709551616*18446744073709551616)]
 have e:18446744073709551616^(n+2)*l.getD (n+2) 0=l.getD (n+2) 0*18446744073709551616*18446744073709551616*18446744073709551616^n:=by
  rw [Nat.pow_add,Nat.mul_comm,Nat.mul_comm (18446744073709551616^n),Nat.mul_assoc (l.getD (n+2) 0) 18446744073709551616 18446744073709551616,← Nat.mul_assoc]
 rw [e]
 omega
theorem le_of_mul_lt {a b p x y:Nat} (h:a*p+x<b*p+y) (hy:y<p):a≤b:=by
 rcases Nat.lt_or_ge b a with h1|h1
 · have:(b+1)*p≤a*p:=Nat.mul_le_mul_right _ h1
   rw [Nat.add_mul] at this; omega
 · exact h1
theorem long_step {B lo p x hi qs V w d U:Nat} (h:U=lo+p*x+p*B*(hi+qs*V)) (h1:w+d*V=x+B*hi):U=lo+p*(w+(d+B*qs)*V):=by
 rw [h]
 have e:=congrArg (p*·) h1
 simp only [Nat.mul_add,← Nat.mul_assoc] at e
 simp only [Nat.mul_add,Nat.add_mul,← Nat.mul_assoc]
 have e3:p*B*hi=p*B*hi:=rfl
 omega
theorem long_init {B A Bv V U hm s m n:Nat} {lo:Nat} (hB:0<B) (hU:U=A*s) (hV:V=Bv*s) (hA:A<B^(n+1+m)) (hb:B^(n+1)≤Bv) (hs:0<s) (e:U=lo+B^m*hm):hm<V:=by
 have h1:B^(n+1)*s≤V:=by rw [hV]; exact Nat.mul_le_mul_right _ hb
 have h2:B^m*(B^(n+1)*s)≤B^m*V:=Nat.mul_le_mul_left _ h1
 have h3:U<B^(n+1+m)*s:=by rw [hU]; exact Nat.mul_lt_mul_of_pos_right hA hs
 have h4:B^m*(B^(n+1)*s)=B^(n+1+m)*s:=by rw [← Nat.mul_assoc,← Nat.pow_add,Nat.add_comm m]
 have h5:B^m*hm<B^m*V:=by omega
 exact Nat.lt_of_mul_lt_mul_left h5
theorem long_end {A Bv V U hi qs s:Nat} (hU:U=A*s) (hV:V=Bv*s) (hs:0<s) (h:U=hi+qs*V) (hh:hi<V):qs=A / Bv∧hi / s=A % Bv:=by
 have h1:U / V=qs:=by rw [h,Nat.mul_comm,Nat.add_mul_div_left _ _ (by omega),Nat.div_eq_of_lt hh,Nat.zero_add]
 have h2:U % V=hi:=by rw [h,Nat.mul_comm,Nat.add_mul_mod_self_left,Nat.mod_eq_of_lt hh]
 rw [hU,hV,Nat.mul_div_mul_right _ _ hs] at h1
 rw [hU,hV,Nat.mul_mod_mul_right] at h2
 exact ⟨h1.symm,by rw [← h2,Nat.mul_div_cancel _ hs]⟩
theorem pv_lt {B x h V:Nat} (h1:x<B) (h2:h<V):x+B*h<B*V:=by
 have h3:B*(h+1)≤B*V:=Nat.mul_le_mul_left _ h2
 rw [Nat.mul_add] at h3; omega
theorem ge_B {B x y:Nat} (h:0<x):B≤x*B+y:=by
 have:=Nat.mul_le_mul_right B h
 rw [Nat.succ_mul,Nat.zero_mul] at this; omega
theorem dOf_zero {l:List Nat} (h:∀ d ∈ l,d=0):dOf 18446744073709551616 l=0:=by
 induction l with
 | nil=>rfl
 | cons a l ih=>simp only [dOf]; rw [h a (by simp),ih (fun d hd=>h d (by simp [hd]))]
theorem away_pos {w V d P Bn b:Nat} (h:w+V*d=P+Bn*b) (hb:b≤1) (hne:b ≠ 0) (hw:w<Bn):b=1∧∃ d',d=d'+1:=by
 have:b=1:=by omega
 subst this
 refine ⟨rfl,?_⟩
 cases d with
 | zero=>rw [Nat.mul_zero] at h; omega
 | succ d=>exact ⟨d,rfl⟩
theorem long_spec (hP:PrgOk P) (a b:List Nat) (ha:∀ d ∈ a,d<18446744073709551616) (hb:∀ d ∈ b,d<18446744073709551616) (hb2:2≤b.length) (hab:b.length≤a.length) (hal:a.length+1≤1099511627776) (htop:b.getD (b.length-1) 0 ≠ 0):CSpec P 124 [.imm a.length (List.map (fun d:Nat=>AV.int .u64 (d:Int)) (a)),.imm b.length (List.map (fun d:Nat=>AV.int .u64 (d:Int)) (b))] (.tup [(.agg [.opq (.nat (dOf 18446744073709551616 a / dOf 18446744073709551616 b)),.pad]),(.agg [.opq (.nat (dOf 18446744073709551616 a % dOf 18446744073709551616 b)),.pad])]):=by
 have HE:=Sd_ok hP
 refine CSpec_go (E:=⟨T0,Sd⟩) (fn124 hP) HE hP.mix ?_
 obtain ⟨n,hn⟩:∃ n,b.length=n+2:=⟨b.length-2,by omega⟩
 have hn1:n+1<b.length:=by omega
 have hn2:n+1<n+2:=by omega
 have hn3:n+1≤b.length:=by omega
 have hn4:n+1≤n+2:=by omega
 have hwn:=wi_nat (n+1) (by omega)
 have htd:=hb _ (getD_mem hn1)
 rw [hn,show n+2-1=n+1 by omega] at htop
 obtain ⟨s,hs⟩:∃ s,64-blen (b.getD (n+1) 0)=s:=⟨_,rfl⟩
 have hb0:¬ blen (b.getD (n+1) 0)≤0:=by rw [Nat.le_zero,blen_zero_iff]; exact htop
 have hb64:blen (b.getD (n+1) 0)≤64:=(blen_le_iff _ 64).2 htd
 have hs63:s≤63:=by omega
 rw [hn]
 simp only [go_sem,hn1,hn2,hn3,hn4,hwn,gU' hn1,htd,hs]
 obtain ⟨m,hm,hm1⟩:∃ m,a.length=n+1+m∧0<m:=⟨a.length-(n+1),by omega,by omega⟩
 have hla:=wi_add1 a.length (by omega)
 have hbn:0<b.length:=by omega
 refine up_ic' hP (L:=[67,42,18,1,0]) (r:=18) (nx0:=16) (N:=30) (by repeat (first|exact GenM.nil|refine GenM.upd ?_ rfl (by first|rfl|exact objOnly_U))) rfl rfl rfl (by omega) hn (by omega) (by omega) (by intro e; rw [e] at hbn; simp at hbn) hb hs63 ?_
 intro v hv1 hv2 hv3
 simp only [go_sem,hla]
 have hal1:a.length+1≤1099511627776:=hal
 refine up_ic' hP (L:=[67,42,18,1,0]) (r:=42) (nx0:=40) (N:=60) (by repeat (first|exact GenM.nil|refine GenM.upd ?_ rfl (by first|rfl|exact objOnly_U))) rfl rfl rfl hal rfl (Nat.le_succ _) (Nat.le_refl _) (by intro e; rw [e] at hm; simp at hm; omega) ha hs63 ?_
 intro u hu1 hu2 hu3
 have hcv:cup b s (n+2)=0:=by
  unfold cup; rw [if_neg (by omega),show n+2-1=n+1 by omega]
  refine Nat.div_eq_of_lt ?_
  have:=blen_lt (b.getD (n+1) 0)
  rwa [show blen (b.getD (n+1) 0)=64-s by omega] at this
 have hcu:cup a s (a.length+1)=0:=by
  unfold cup; rw [if_neg (by omega),Nat.add_sub_cancel,getD_ge (Nat.le_refl _),Nat.zero_div]
 rw [hcv,Nat.mul_zero,Nat.add_zero] at hv3
 rw [hcu,Nat.mul_zero,Nat.add_zero] at hu3
 have hwm:IntKind.i64.wrap (((a.length+1:Nat):Int)-((n+2:Nat):Int))=(m:Int):=by rw [IntKind.wrap_i64]; omega
 have hwp:=wi_pred' m (by omega)
 have hml:m≤1099511627776:=by omega
 have hbge:18446744073709551616^(n+1)≤dOf 18446744073709551616 b:=by
  rw [dOf_top b (n+1) hn]
  have:18446744073709551616^(n+1)*1≤18446744073709551616^(n+1)*b.getD (n+1) 0:=Nat.mul_le_mul_left _ (by omega)
  omega
 have hvt:0<v.getD (n+1) 0:=by
  rcases Nat.eq_zero_or_pos (v.getD (n+1) 0) with h|h
  · have h1:=dOf_top v (n+1) hv1
    rw [h,Nat.mul_zero,Nat.add_zero,hv3] at h1
    have h2:=dOf_low (n:=n+1) hv2
    have h3:dOf 18446744073709551616 b*1≤dOf 18446744073709551616 b*2^s:=Nat.mul_le_mul_left _ (Nat.two_pow_pos s)
    omega
  · exact h
 have hv0:0<dOf 18446744073709551616 v:=by
  rw [hv3]; exact Nat.mul_pos (Nat.lt_of_lt_of_le (Nat.pow_pos (by decide)) hbge) (Nat.two_pow_pos s)
 have hum:(u.take m).length=m:=by rw [List.length_take]; omega
 have hus:dOf 18446744073709551616 u=dOf 18446744073709551616 (u.take m)+18446744073709551616^m*dOf 18446744073709551616 (u.drop m):=by
  conv=>lhs; rw [← List.take_append_drop m u]
  rw [dOf_append,hum]
 have hA:dOf 18446744073709551616 a<18446744073709551616^(n+1+m):=by rw [← hm]; exact dOf_lt 18446744073709551616 a ha
 have hinit:=long_init (B:=18446744073709551616) (by decide) hu3 hv3 hA hbge (Nat.two_pow_pos s) hus
 clear hcv hcu hA
 simp only [go_sem,hwm,hwp,hml]
 refine trX_loop HE hP.mix [67,42,18,1,0] (fun q:Nat × List Nat × List Nat × List Nat=>⟨upd (upd (upd (upd (upd (upd (upd (upd (fun _=>.junk) 4 (.ref 0 0)) 5 (.ref 1 0)) 6 (.int .i64 ((n+2:Nat):Int))) 7 (.int .i64 (s:Int))) 8 (.sl 18 0 (n+2) 1)) 9 (.sl 42 0 (a.length+1) 1)) 11 (.sl 67 0 m 1)) 12 (.int .i64 ((q.1:Int)-1)),upd (upd (upd (upd (upd (fun _=>.unused) 0 (.live [.int .u64 0,.nils])) 1 (.live [.int .u64 0,.nils])) 18 (.live (List.map (fun d:Nat=>AV.int .u64 (d:Int)) (v)))) 42 (.live (List.map (fun d:Nat=>AV.int .u64 (d:Int)) (u.take q.1++(q.2.1++q.2.2.1))))) 67 (.live (List.map (fun d:Nat=>AV.int .u64 (d:Int)) (List.replicate q.1 0++q.2.2.2))),100⟩)
  (fun q=>q.1≤m∧q.2.1.length=n+2∧(∀ d ∈ q.2.1,d<18446744073709551616)∧(∀ d ∈ q.2.2.1,d=0)∧q.2.2.1.length+q.1=m∧q.2.2.2.length+q.1=m∧(∀ d ∈ q.2.2.2,d<18446744073709551616)∧dOf 18446744073709551616 q.2.1<dOf 18446744073709551616 v∧dOf 18446744073709551616 u=dOf 18446744073709551616 (u.take q.1)+18446744073709551616^q.1*(dOf 18446744073709551616 q.2.1+dOf 18446744073709551616 q.2.2.2*dOf 18446744073709551616 v)) (fun q=>q.1) (m,u.drop m,[],[]) 80
  Has.z (Kept.of rfl KT.z (by
   have e1:u.take m++(u.drop m++[])=u:=by rw [List.append_nil,List.take_append_drop]
   have e2:List.replicate m 0++([]:List Nat)=List.replicate m 0:=List.append_nil _
   simp only []; rw [e1,e2]; exact KM.z)) ⟨by simp,by simp; omega,fun d hd=>hu2 d (List.mem_of_mem_drop hd),by simp,by simp,by simp,by simp,hinit,by simp only [dOf,Nat.zero_mul,Nat.add_zero]; exact hus⟩ 100 (by kernel_rfl) ?_
 rintro ⟨k',hi,tail,qs⟩ ⟨q1,q2,q3,q4,q5,q6,q7,q8,q9⟩
 simp only [] at q1 q2 q3 q4 q5 q6 q7 q8 q9
 cases k' with
 | zero =>
   have h0:((0:Int)≤((0:Nat):Int)-1)=False:=by simp
   have e1:qs.take m=qs:=List.take_of_length_le (by omega)
   have e2:(hi++tail).take (a.length+1)=hi++tail:=List.take_of_length_le (by rw [List.length_append]; omega)
   have e3:∀ d ∈ hi++tail,d<18446744073709551616:=fun d hd=>by
    rcases List.mem_append.1 hd with hd|hd
    · exact q3 d hd
    · rw [q4 d hd]; decide
   obtain ⟨f1,f2⟩:=long_end hu3 hv3 (Nat.two_pow_pos s) (by simpa [dOf] using q9) q8
   simp only [go_sem,h0,e1,e2]
   refine ⟨⟨⟨by omega,q7,by omega⟩,by omega⟩,⟨⟨by omega,e3,by omega,hs63⟩,by omega⟩,?_⟩
   rw [dOf_append,dOf_zero q4,Nat.mul_zero,Nat.add_zero,f1,f2]
   exact .refl _
 | succ j =>
   have hju:j<u.length:=by omega
   have hpl:(u.take j).length=j:=by rw [List.length_take]; omega
   obtain ⟨w,hw⟩:∃ w,u.getD j 0::hi=w:=⟨_,rfl⟩
   have hZ:u.take (j+1)++(hi++tail)=u.take j++(w++tail):=by rw [take_snoc hju,← hw]; simp
   have hwl:w.length=n+2+1:=by rw [← hw]; simp [q2]
   have hwd:∀ d ∈ w,d<18446744073709551616:=fun d hd=>by
    rw [← hw] at hd
    rcases List.mem_cons.1 hd with rfl|hd
    · exact hu2 _ (getD_mem hju)
    · exact q3 d hd
   have hwP:dOf 18446744073709551616 w=u.getD j 0+18446744073709551616*dOf 18446744073709551616 hi:=by rw [← hw]; rfl
   have c1:IntKind.i64.wrap ((j:Int)+((n+2:Nat):Int))=((j+(n+2):Nat):Int):=wi_add _ _ (by omega)
   have c2:=wi_add1 (j+(n+2)) (by omega)
   have c3:=wi_nat (n+1) (by omega)
   have c4:IntKind.i64.wrap (((n+2:Nat):Int)-2)=((n:Nat):Int):=by rw [IntKind.wrap_i64]; omega
   have c5:(((j+(n+2)+1:Nat):Int)-(j:Int)).toNat=n+2+1:=by omega
   have g2:=get_pre (tail:=tail) hpl (show n+2<w.length by omega) rfl
   have g1:=get_pre (tail:=tail) hpl (show n+1<w.length by omega) rfl
   have g0:=get_pre (tail:=tail) hpl (show n<w.length by omega) rfl
   have l2:=len_pre (tail:=tail) hpl (show n+2<w.length by omega) rfl
   have l1:=len_pre (tail:=tail) hpl (show n+1<w.length by omega) rfl
   have l0:=len_pre (tail:=tail) hpl (show n<w.length by omega) rfl
   have v1:n+1<v.length:=by omega
   have v0:n<v.length:=by omega
   have x1:j+(n+2)+1≤a.length+1:=by omega
   rw [hZ]
   simp only [go_sem,c1,c2,c3,c4,c5,g2,g1,g0,gU l2,gU l1,gU l0,gU v1,gU v0,x1]
   have hP2:=dOf_top2 hi n q2
   have hV2:=dOf_top2 v n hv1
   have hP3:=dOf_top3 w n hwl
   have lowV:=dOf_low (n:=n) hv2
   have lowP:=dOf_low (n:=n) hwd
   have lowH:=dOf_low (n:=n) q3
   have ew2:w.getD (n+2) 0=hi.getD (n+1) 0:=by rw [← hw]; rfl
   have ew1:w.getD (n+1) 0=hi.getD n 0:=by rw [← hw]; rfl
   have hle:w.getD (n+2) 0*18446744073709551616+w.getD (n+1) 0≤v.getD (n+1) 0*18446744073709551616+v.getD n 0:=by
    rw [ew2,ew1]
    rw [hP2,hV2] at q8
    exact le_of_mul_lt q8 lowV
   have hPV:dOf 18446744073709551616 w<18446744073709551616*dOf 18446744073709551616 v:=by
    rw [hwP]; exact pv_lt (hu2 _ (getD_mem hju)) q8
   have hvB:=ge_B (B:=18446744073709551616) (y:=v.getD n 0) hvt
   obtain ⟨d1,d2,d3⟩:=gdig_good hV2 lowV hP3 lowP hvB (by decide) hPV (gdig_eq (w.getD (n+2) 0) (w.getD (n+1) 0) (w.getD n 0) (v.getD (n+1) 0) (v.getD n 0))
   have hgc:guessC (w.getD (n+2) 0) (w.getD (n+1) 0) (w.getD n 0) (v.getD (n+1) 0) (v.getD n 0) :=
    ⟨hwd _ (getD_mem (by omega)),hwd _ (getD_mem (by omega)),hwd _ (getD_mem (by omega)),hv2 _ (getD_mem (by omega)),hv2 _ (getD_mem (by omega)),hle,hvt⟩
   refine ⟨⟨.inr (by omega),by omega⟩,by omega,by rw [hpl]; omega,by omega,by rw [hpl]; omega,by omega,by rw [hpl]; omega,by omega,by omega,by omega,by omega,hgc,?_⟩
   clear hgc g2 g1 g0 l2 l1 l0 hP2 hV2 hP3 lowV lowP lowH ew2 ew1 hle hPV hvB
   generalize gdig (w.getD (n+2) 0) (w.getD (n+1) 0) (w.getD n 0) (v.getD (n+1) 0) (v.getD n 0)=d at *
   have hVn:dOf 18446744073709551616 v<18446744073709551616^(n+2+1):=by
    have h1:=dOf_lt 18446744073709551616 v hv2
    rw [hv1] at h1
    exact Nat.lt_of_lt_of_le h1 (Nat.pow_le_pow_right (by decide) (by omega))
   have hrep:∀ x,(List.replicate (j+1) 0++qs).set j x=List.replicate j 0++(x::qs):=fun x=>by
    rw [List.replicate_succ',List.append_assoc]; exact set_app (List.length_replicate)
   have hjl:j<j+1+qs.length:=by omega
   have hjq:j<(List.replicate (j+1) 0++qs).length:=by simp; omega
   have hjm:j<m:=by omega
   have hwj:=wi_pred' j (by omega)
   have fin:∀ (w2:List Nat) (d':Nat),w2.length=n+2+1→(∀ d ∈ w2,d<18446744073709551616)→d'<18446744073709551616→dOf 18446744073709551616 w2<dOf 18446744073709551616 v→dOf 18446744073709551616 w2+d'*dOf 18446744073709551616 v=dOf 18446744073709551616 w→∀ St',Kept [67,42,18,1,0] St' ⟨upd (upd (upd (upd (upd (upd (upd (upd (fun _=>.junk) 4 (.ref 0 0)) 5 (.ref 1 0)) 6 (.int .i64 ((n+2:Nat):Int))) 7 (.int .i64 (s:Int))) 8 (.sl 18 0 (n+2) 1)) 9 (.sl 42 0 (a.length+1) 1)) 11 (.sl 67 0 m 1)) 12 (.int .i64 ((j:Int)-1)),upd (upd (upd (upd (upd (fun _=>.unused) 0 (.live [.int .u64 0,.nils])) 1 (.live [.int .u64 0,.nils])) 18 (.live (List.map (fun d:Nat=>AV.int .u64 (d:Int)) (v)))) 42 (.live (List.map (fun d:Nat=>AV.int .u64 (d:Int)) (u.take j++(w2++tail))))) 67 (.live (List.map (fun d:Nat=>AV.int .u64 (d:Int)) (List.replicate j 0++(d'::qs)))),100⟩ →
    ∃ q:Nat × List Nat × List Nat × List Nat,Kept [67,42,18,1,0] St' ⟨upd (upd (upd (upd (upd (upd (upd (upd (fun _=>.junk) 4 (.ref 0 0)) 5 (.ref 1 0)) 6 (.int .i64 ((n+2:Nat):Int))) 7 (.int .i64 (s:Int))) 8 (.sl 18 0 (n+2) 1)) 9 (.sl 42 0 (a.length+1) 1)) 11 (.sl 67 0 m 1)) 12 (.int .i64 ((q.1:Int)-1)),upd (upd (upd (upd (upd (fun _=>.unused) 0 (.live [.int .u64 0,.nils])) 1 (.live [.int .u64 0,.nils])) 18 (.live (List.map (fun d:Nat=>AV.int .u64 (d:Int)) (v)))) 42 (.live (List.map (fun d:Nat=>AV.int .u64 (d:Int)) (u.take q.1++(q.2.1++q.2.2.1))))) 67 (.live (List.map (fun d:Nat=>AV.int .u64 (d:Int)) (List.replicate q.1 0++q.2.2.2))),100⟩∧(q.1≤m∧q.2.1.length=n+2∧(∀ d ∈ q.2.1,d<18446744073709551616)∧(∀ d ∈ q.2.2.1,d=0)∧q.2.2.1.length+q.1=m∧q.2.2.2.length+q.1=m∧(∀ d ∈ q.2.2.2,d<18446744073709551616)∧dOf 18446744073709551616 q.2.1<dOf 18446744073709551616 v∧dOf 18446744073709551616 u=dOf 18446744073709551616 (u.take q.1)+18446744073709551616^q.1*(dOf 18446744073709551616 q.2.1+dOf 18446744073709551616 q.2.2.2*dOf 18446744073709551616 v))∧q.1<j+1:=by
    intro w2 d' k1 k2 k3 k4 k5 St' hk
    have z1:=dOf_top w2 (n+2) k1
    have z2:w2.getD (n+2) 0=0:=by
     rcases Nat.eq_zero_or_pos (w2.getD (n+2) 0) with h|h
     · exact h
     · have h1:18446744073709551616^(n+2)*1≤18446744073709551616^(n+2)*w2.getD (n+2) 0:=Nat.mul_le_mul_left _ h
       have h2:=dOf_lt 18446744073709551616 v hv2
       rw [hv1] at h2; omega
    rw [z2,Nat.mul_zero,Nat.add_zero] at z1
    have z3:w2=w2.take (n+2)++[0]:=by
     conv=>lhs; rw [← List.take_of_length_le (Nat.le_of_eq k1),take_snoc (by omega),z2]
    refine ⟨(j,w2.take (n+2),0::tail,d'::qs),?_,⟨by simp only []; omega,by simp only [List.length_take]; omega,fun d hd=>k2 d (List.mem_of_mem_take hd),?_,by simp only [List.length_cons]; omega,by simp only [List.length_cons]; omega,?_,by simp only []; rw [← z1]; exact k4,?_⟩,by simp only []; omega⟩
    · have e:w2++tail=w2.take (n+2)++(0::tail):=by
       conv=>lhs; rw [z3]
       rw [List.append_assoc]; rfl
      rw [e] at hk; exact hk
    · intro d hd
      rcases List.mem_cons.1 hd with rfl|hd
      · rfl
      · exact q4 d hd
    · intro d hd
      rcases List.mem_cons.1 hd with rfl|hd
      · exact k3
      · exact q7 d hd
    · simp only []
      rw [dOf_take_succ 18446744073709551616 u j hju,Nat.pow_succ] at q9
      rw [hwP] at k5
      rw [← z1]
      have:=long_step q9 k5
      simp only [dOf]; exact this
   refine away_ic hP (L:=[67,42,18,1,0]) (by repeat (first|exact GenM.nil|refine GenM.upd ?_ rfl (by first|rfl|exact objOnly_U))) rfl rfl rfl rfl rfl hpl hwl hv1 (by omega) hwd hv2 d1 ?_
   intro nx w1 b1 r1 r2 r3 r4
   have hw1n:dOf 18446744073709551616 w1<18446744073709551616^(n+2+1):=by have:=dOf_lt 18446744073709551616 w1 r2; rwa [r1] at this
   simp only [go_sem]
   refine if_split (fun hc=>?_) (fun hc=>?_)
   · have hc:b1 ≠ 0:=by simpa using hc
     obtain ⟨hb1,d',rfl⟩:=away_pos r4 r3 hc hw1n
     have hu:=u_nat d' (by omega)
     simp only [go_sem,hu]
     refine back_ic hP (L:=[67,42,18,1,0]) (by repeat (first|exact GenM.nil|refine GenM.upd ?_ rfl (by first|rfl|exact objOnly_U))) rfl rfl rfl rfl rfl hpl r1 hv1 (by omega) r2 hv2 ?_
     intro nx2 w2 c2' t1 t2 t3 t4
     have hw2n:dOf 18446744073709551616 w2<18446744073709551616^(n+2+1):=by have:=dOf_lt 18446744073709551616 w2 t2; rwa [t1] at this
     obtain ⟨d'',hd'',s8,s9⟩:=away_much r4 hb1 hw1n d2 t3 t4 hVn hw2n
     obtain rfl:d'=d'':=by omega
     simp only [go_sem,hrep,hjl,hjm,hwj,gU hjq]
     refine fin w2 d' t1 t2 (by omega) s8 s9 _ ?_
     exact Kept.of rfl KT.z KM.z
   · have hc:b1=0:=by simpa using hc
     obtain ⟨s8,s9⟩:=away_none r4 hc d3
     simp only [go_sem,hrep,hjl,hjm,hwj,gU hjq]
     refine fin w1 d r1 r2 d1 s8 s9 _ ?_
     exact Kept.of rfl KT.z KM.z
end Go.Proofs.YtapddfjimhohcaaGreatDoor.AM
