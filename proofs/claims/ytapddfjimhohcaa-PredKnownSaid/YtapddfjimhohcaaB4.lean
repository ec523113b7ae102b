/- Package nat: what the long division writes. -/
import Derived.Test.YtapddfjimhohcaaB3
namespace Go.Proofs.Ytapddfjimhohcaa.AM
set_option linter.all false
set_option autoImplicit true
set_option relaxedAutoImplicit true
open Go Go.Proofs
set_option maxRecDepth 100000
set_option maxHeartbeats 8000000
set_option linter.unusedSimpArgs false
variable {P:Program}
theorem mid_eq {pre done rest tail:List Nat} {x:Nat}:pre++(done++((x::rest)++tail))=(pre++done)++([x]++(rest++tail)):=by simp
theorem get_mid {pre done w tail:List Nat} {off k i:Nat} (hp:pre.length=off) (hd:done.length=k) (hk:k<w.length) (hi:i=off+k):(pre++(done++(w.drop k++tail))).getD i 0=w.getD k 0:=by
 rw [drop_cons hk,mid_eq]; exact get_app (by rw [List.length_append,hp,hd,hi])
theorem set_mid {pre done w tail:List Nat} {off k i:Nat} (hp:pre.length=off) (hd:done.length=k) (hk:k<w.length) (hi:i=off+k) (s:Nat):(pre++(done++(w.drop k++tail))).set i s=pre++((done++[s])++(w.drop (k+1)++tail)):=by
 rw [drop_cons hk,mid_eq,set_app (by rw [List.length_append,hp,hd,hi])]; simp
theorem len_mid {pre done w tail:List Nat} {off k i:Nat} (hp:pre.length=off) (hd:done.length=k) (hk:k<w.length) (hi:i=off+k):i<(pre++(done++(w.drop k++tail))).length:=by
 rw [drop_cons hk]; simp; omega
theorem sub_all (z y c:Nat) (hz:z<18446744073709551616) (hy:y<18446744073709551616) (hc:c≤1):subd z y c+y+c=z+18446744073709551616*bor z y c:=by
 rw [subd_eq,bor_eq]
 by_cases h:z<y+c
 · rw [if_pos h,Nat.mod_eq_of_lt (by omega)]; omega
 · rw [if_neg h,show z+18446744073709551616-y-c=(z-y-c)+18446744073709551616 by omega,Nat.add_mod_right,Nat.mod_eq_of_lt (by omega)]; omega
theorem away_digit (x y c:Nat):addl (mull x y) c 0+18446744073709551616*(mulh x y+addh (mull x y) c 0)=x*y+c:=by
 have h1:=mul_all x y
 have h2:=add_all (mull x y) c 0
 omega
theorem away_carry {x y c:Nat} (hx:x<18446744073709551616) (hy:y<18446744073709551616) (hc:c<18446744073709551616):mulh x y+addh (mull x y) c 0<18446744073709551616:=by
 have h:=away_digit x y c
 have h2:x*y≤18446744073709551615*18446744073709551615:=Nat.mul_le_mul (by omega) (by omega)
 omega
theorem away_step {p D V W d b c s x w l b' c':Nat} (h:D+V*d=W+p*b+p*c) (h1:s+l+b=w+18446744073709551616*b') (h2:l+18446744073709551616*c'=x*d+c):D+p*s+(V+p*x)*d=W+p*w+p*18446744073709551616*b'+p*18446744073709551616*c':=by
 have e:s+x*d+b+c=w+18446744073709551616*b'+18446744073709551616*c':=by omega
 have e2:=congrArg (p*·) e
 simp only [Nat.mul_add,← Nat.mul_assoc] at e2
 rw [Nat.add_mul]
 omega
theorem add0 (c:Nat) (h:c<18446744073709551616):addl 0 c 0=c∧addh 0 c 0=0:=by
 have h1:=add_all 0 c 0
 have h2:=addl_lt 0 c 0
 have:addh 0 c 0=0:=by omega
 exact ⟨by omega,this⟩
theorem dOf_snoc (l:List Nat) (s:Nat):dOf 18446744073709551616 (l++[s])=dOf 18446744073709551616 l+18446744073709551616^l.length*s:=by
 rw [dOf_append]; simp [dOf]
theorem away_ic (hP:PrgOk P) {L:List Nat} {m:Nat→AObj} {K:Nat→AV→(Nat→AObj)→Prop} {r r2:Nat} {pre w tail v:List Nat} {off nv d:Nat} (hm:GenM L m) (hr:L.contains r=true) (hr2:L.contains r2=true) (hne:(r2 == r)=false) (hmr:m r = .live (List.map (fun d:Nat=>AV.int .u64 (d:Int)) (pre++(w++tail)))) (hmr2:m r2 = .live (List.map (fun d:Nat=>AV.int .u64 (d:Int)) (v))) (hoff:pre.length=off) (hn:w.length=nv+1) (hv:v.length=nv) (hn2:nv<2305843009213693952) (hw:∀ d ∈ w,d<18446744073709551616) (hvd:∀ d ∈ v,d<18446744073709551616) (hd:d<18446744073709551616)
 (k:∀ (nx:Nat) (w':List Nat) (b:Nat),w'.length=nv+1→(∀ d ∈ w',d<18446744073709551616)→b≤1→dOf 18446744073709551616 w'+dOf 18446744073709551616 v*d=dOf 18446744073709551616 w+18446744073709551616^(nv+1)*b→K nx (.bool (b != 0)) (upd m r (.live (List.map (fun d:Nat=>AV.int .u64 (d:Int)) (pre++(w'++tail)))))) :
 icX (ICall P) 86 [.sl r off (nv+1) 1,.sl r2 0 nv 1,.int .u64 (d:Int)] m (K:=⟨K⟩):=by
 have HE:=Sc_ok hP
 refine icX_vc (E:=⟨T0,Sc⟩) (fn86 hP) HE hP.mix rfl rfl (Nat.le_of_ble_eq_true rfl) 0 ?_
 obtain ⟨m0,rfl⟩:∃ m0,m=upd m0 r (.live (List.map (fun d:Nat=>AV.int .u64 (d:Int)) (pre++(w++tail)))):=⟨m,by rw [← hmr,upd_self]⟩
 clear hmr
 rw [upd_ne _ _ _ _ hne] at hmr2
 simp only [upd_upd] at k
 simp only [go_sem]
 refine trX_loop HE hP.mix L (fun q:Nat × List Nat × Nat × Nat=>⟨upd (upd (upd (upd (upd (upd (upd (upd (fun _=>.junk) 0 (.sl r off (nv+1) 1)) 1 (.sl r2 0 nv 1)) 2 (.int .u64 (d:Int))) 6 (.bool false)) 7 (.int .u64 (q.2.2.1:Int))) 8 (.int .u64 (q.2.2.2:Int))) 14 (.int .i64 ((nv+1:Nat):Int))) 15 (.int .i64 (q.1:Int)),upd m0 r (.live (List.map (fun d:Nat=>AV.int .u64 (d:Int)) (pre++(q.2.1++(w.drop q.1++tail))))),56⟩)
  (fun q=>q.1≤nv+1∧q.2.1.length=q.1∧(∀ d ∈ q.2.1,d<18446744073709551616)∧q.2.2.1<18446744073709551616∧q.2.2.2≤1∧(q.1=nv+1→q.2.2.1=0)∧dOf 18446744073709551616 q.2.1+dOf 18446744073709551616 (v.take q.1)*d=dOf 18446744073709551616 (w.take q.1)+18446744073709551616^q.1*q.2.2.2+18446744073709551616^q.1*q.2.2.1) (fun q=>nv+1-q.1) (0,[],0,0) 0
  hm.1 (Kept.of rfl KT.z (KM.gen hm)) ⟨by simp,by simp,by simp,by simp,by simp,by simp,by simp [dOf]⟩ 56 (by kernel_rfl) ?_
 rintro ⟨i,dn,c,b⟩ ⟨q1,q2,q3,q4,q5,q6,q7⟩
 simp only [] at q1 q2 q3 q4 q5 q6 q7
 by_cases hi:i<nv+1
 · have hiw:i<w.length:=by omega
   have hwd:=hw _ (getD_mem hiw)
   have hlen:=len_mid (tail:=tail) hoff q2 hiw rfl
   have hlen':off+i<pre.length+(dn.length+(w.length-i+tail.length)):=by omega
   have hget:=get_mid (tail:=tail) hoff q2 hiw rfl
   have hset:=set_mid (tail:=tail) hoff q2 hiw rfl
   have hwi:=wi_add1 i (by omega)
   by_cases hiv:i<nv
   · have hiv':i<v.length:=by omega
     have hxd:=hvd _ (getD_mem hiv')
     have hcar:=away_carry hxd hd q4
     have hw2:=wu_add' _ _ hcar
     have hm1:=mull_lt (v.getD i 0) d
     have hal:=addl_lt (mull (v.getD i 0) d) c 0
     simp only [go_sem,hi,hiv,hiv',hmr2,upd_ne,hne,gU hiv',hxd,hd,hm1,hw2,hlen,hlen',gU hlen,hget,hwd,hal,q5,hset,upd_upd,hwi]
     have hs:=sub_all (w.getD i 0) (addl (mull (v.getD i 0) d) c 0) b hwd hal q5
     have hst:=away_step q7 hs (away_digit (v.getD i 0) d c)
     refine ⟨(i+1,dn++[subd (w.getD i 0) (addl (mull (v.getD i 0) d) c 0) b],mulh (v.getD i 0) d+addh (mull (v.getD i 0) d) c 0,bor (w.getD i 0) (addl (mull (v.getD i 0) d) c 0) b),Kept.of rfl KT.z (KM.gen (hm.upd' hr objOnly_U)),⟨by simp only []; omega,by simp only [List.length_append,List.length_singleton]; omega,?_,hcar,bor_le _ _ _,by simp only []; omega,?_⟩,by simp only []; omega⟩
     · intro d hd
       rcases List.mem_append.1 hd with hd|hd
       · exact q3 d hd
       · rw [List.mem_singleton.1 hd]; exact subd_lt _ _ _
     · simp only []
       rw [dOf_snoc,dOf_take_succ 18446744073709551616 v i hiv',dOf_take_succ 18446744073709551616 w i hiw,Nat.pow_succ,q2]; exact hst
   · have hc0:=add0 c q4
     have hiv':¬ i<v.length:=by omega
     have hw2:=u_nat 0 (by decide)
     simp only [go_sem,hi,hiv,hiv',hmr2,upd_ne,hne,hlen,hlen',gU hlen,hget,hwd,q4,q5,hset,upd_upd,hwi,hc0.1,hc0.2]
     have hs:=sub_all (w.getD i 0) c b hwd q4 q5
     have hst:=away_step (x:=0) (c':=0) q7 hs (show c+18446744073709551616*0=0*d+c by omega)
     refine ⟨(i+1,dn++[subd (w.getD i 0) c b],0,bor (w.getD i 0) c b),Kept.of rfl KT.z (KM.gen (hm.upd' hr objOnly_U)),⟨by simp only []; omega,by simp only [List.length_append,List.length_singleton]; omega,?_,by simp,bor_le _ _ _,fun _=>rfl,?_⟩,by simp only []; omega⟩
     · intro d hd
       rcases List.mem_append.1 hd with hd|hd
       · exact q3 d hd
       · rw [List.mem_singleton.1 hd]; exact subd_lt _ _ _
     · simp only []
       have e1:v.take (i+1)=v:=List.take_of_length_le (by omega)
       have e2:v.take i=v:=List.take_of_length_le (by omega)
       rw [e2] at hst
       rw [dOf_snoc,e1,dOf_take_succ 18446744073709551616 w i hiw,Nat.pow_succ,q2]; exact hst
 · simp only [go_sem,hi]
   have hie:i=nv+1:=by omega
   have e1:w.drop i=[]:=List.drop_of_length_le (by omega)
   have e2:v.take i=v:=List.take_of_length_le (by omega)
   have e3:w.take i=w:=List.take_of_length_le (by omega)
   rw [e1,List.nil_append]
   rw [e2,e3,q6 hie,Nat.mul_zero,Nat.add_zero,hie] at q7
   exact k _ dn b (by omega) q3 q5 q7
theorem back_step {p D V W c s x w c':Nat} (h:D+p*c=W+V) (h1:s+18446744073709551616*c'=w+x+c):D+p*s+p*18446744073709551616*c'=W+p*w+(V+p*x):=by
 have e2:=congrArg (p*·) h1
 simp only [Nat.mul_add,← Nat.mul_assoc] at e2
 omega
theorem back_ic (hP:PrgOk P) {L:List Nat} {m:Nat→AObj} {K:Nat→AV→(Nat→AObj)→Prop} {r r2:Nat} {pre w tail v:List Nat} {off nv:Nat} (hm:GenM L m) (hr:L.contains r=true) (hr2:L.contains r2=true) (hne:(r2 == r)=false) (hmr:m r = .live (List.map (fun d:Nat=>AV.int .u64 (d:Int)) (pre++(w++tail)))) (hmr2:m r2 = .live (List.map (fun d:Nat=>AV.int .u64 (d:Int)) (v))) (hoff:pre.length=off) (hn:w.length=nv+1) (hv:v.length=nv) (hn2:nv<2305843009213693952) (hw:∀ d ∈ w,d<18446744073709551616) (hvd:∀ d ∈ v,d<18446744073709551616)
 (k:∀ (nx:Nat) (w':List Nat) (c:Nat),w'.length=nv+1→(∀ d ∈ w',d<18446744073709551616)→c≤1→dOf 18446744073709551616 w'+18446744073709551616^(nv+1)*c=dOf 18446744073709551616 w+dOf 18446744073709551616 v→K nx (.tup []) (upd m r (.live (List.map (fun d:Nat=>AV.int .u64 (d:Int)) (pre++(w'++tail)))))) :
 icX (ICall P) 87 [.sl r off (nv+1) 1,.sl r2 0 nv 1] m (K:=⟨K⟩):=by
 have HE:=Sc_ok hP
 refine icX_vc (E:=⟨T0,Sc⟩) (fn87 hP) HE hP.mix rfl rfl (Nat.le_of_ble_eq_true rfl) 0 ?_
 obtain ⟨m0,rfl⟩:∃ m0,m=upd m0 r (.live (List.map (fun d:Nat=>AV.int .u64 (d:Int)) (pre++(w++tail)))):=⟨m,by rw [← hmr,upd_self]⟩
 clear hmr
 rw [upd_ne _ _ _ _ hne] at hmr2
 simp only [upd_upd] at k
 simp only [go_sem]
 refine trX_loop HE hP.mix L (fun q:Nat × List Nat × Nat=>⟨upd (upd (upd (upd (upd (fun _=>.junk) 0 (.sl r off (nv+1) 1)) 1 (.sl r2 0 nv 1)) 4 (.int .u64 (q.2.2:Int))) 8 (.int .i64 ((nv+1:Nat):Int))) 9 (.int .i64 (q.1:Int)),upd m0 r (.live (List.map (fun d:Nat=>AV.int .u64 (d:Int)) (pre++(q.2.1++(w.drop q.1++tail))))),34⟩)
  (fun q=>q.1≤nv+1∧q.2.1.length=q.1∧(∀ d ∈ q.2.1,d<18446744073709551616)∧q.2.2≤1∧dOf 18446744073709551616 q.2.1+18446744073709551616^q.1*q.2.2=dOf 18446744073709551616 (w.take q.1)+dOf 18446744073709551616 (v.take q.1)) (fun q=>nv+1-q.1) (0,[],0) 0
  hm.1 (Kept.of rfl KT.z (KM.gen hm)) ⟨by simp,by simp,by simp,by simp,by simp [dOf]⟩ 34 (by kernel_rfl) ?_
 rintro ⟨i,dn,c⟩ ⟨q1,q2,q3,q5,q7⟩
 simp only [] at q1 q2 q3 q5 q7
 by_cases hi:i<nv+1
 · have hiw:i<w.length:=by omega
   have hwd:=hw _ (getD_mem hiw)
   have hlen:=len_mid (tail:=tail) hoff q2 hiw rfl
   have hlen':off+i<pre.length+(dn.length+(w.length-i+tail.length)):=by omega
   have hget:=get_mid (tail:=tail) hoff q2 hiw rfl
   have hset:=set_mid (tail:=tail) hoff q2 hiw rfl
   have hwi:=wi_add1 i (by omega)
   by_cases hiv:i<nv
   · have hiv':i<v.length:=by omega
     have hxd:=hvd _ (getD_mem hiv')
     simp only [go_sem,hi,hiv,hiv',hmr2,upd_ne,hne,gU hiv',hxd,hlen,hlen',gU hlen,hget,hwd,q5,hset,upd_upd,hwi]
     have hst:=back_step q7 (add_all (w.getD i 0) (v.getD i 0) c)
     refine ⟨(i+1,dn++[addl (w.getD i 0) (v.getD i 0) c],addh (w.getD i 0) (v.getD i 0) c),Kept.of rfl KT.z (KM.gen (hm.upd' hr objOnly_U)),⟨by simp only []; omega,by simp only [List.length_append,List.length_singleton]; omega,?_,addh_le hwd hxd q5,?_⟩,by simp only []; omega⟩
     · intro d hd
       rcases List.mem_append.1 hd with hd|hd
       · exact q3 d hd
       · rw [List.mem_singleton.1 hd]; exact addl_lt _ _ _
     · simp only []
       rw [dOf_snoc,dOf_take_succ 18446744073709551616 v i hiv',dOf_take_succ 18446744073709551616 w i hiw,Nat.pow_succ,q2]; exact hst
   · have hiv':¬ i<v.length:=by omega
     simp only [go_sem,hi,hiv,hiv',hmr2,upd_ne,hne,hlen,hlen',gU hlen,hget,hwd,q5,hset,upd_upd,hwi]
     have hst:=back_step (x:=0) q7 (add_all (w.getD i 0) 0 c)
     refine ⟨(i+1,dn++[addl (w.getD i 0) 0 c],addh (w.getD i 0) 0 c),Kept.of rfl KT.z (KM.gen (hm.upd' hr objOnly_U)),⟨by simp only []; omega,by simp only [List.length_append,List.length_singleton]; omega,?_,addh_le hwd (by decide) q5,?_⟩,by simp only []; omega⟩
     · intro d hd
       rcases List.mem_append.1 hd with hd|hd
       · exact q3 d hd
       · rw [List.mem_singleton.1 hd]; exact addl_lt _ _ _
     · simp only []
       have e1:v.take (i+1)=v:=List.take_of_length_le (by omega)
       have e2:v.take i=v:=List.take_of_length_le (by omega)
       rw [e2,Nat.mul_zero,Nat.add_zero] at hst
       rw [dOf_snoc,e1,dOf_take_succ 18446744073709551616 w i hiw,Nat.pow_succ,q2]; exact hst
 · simp only [go_sem,hi]
   have hie:i=nv+1:=by omega
   have e1:w.drop i=[]:=List.drop_of_length_le (by omega)
   have e2:v.take i=v:=List.take_of_length_le (by omega)
   have e3:w.take i=w:=List.take_of_length_le (by omega)
   rw [e1,List.nil_append]
   rw [e2,e3,hie] at q7
   exact k _ dn c (by omega) q3 q5 q7
theorem icX_any {f args m K} (N:Nat) (h:icX (ICall P) f args m (K:=⟨fun _ v m'=>K N v m'⟩)):icX (ICall P) f args m (K:=⟨K⟩):=fun X φ w vs h1 h2=>(h X φ w vs h1 h2).mono fun v w' ⟨_,r,m',φ',k,h⟩=>⟨N,r,m',φ',k,h⟩
theorem guess_leB {B x y z v w d rest:Nat} (h:d*v+rest=x*B+y) (h2:d*w≤rest*B+z):d*(v*B+w)≤(x*B+y)*B+z:=by
 rw [← h,Nat.mul_add,← Nat.mul_assoc,Nat.add_mul]; omega
theorem guess_gtB {B x y z v w d rest:Nat} (h:d*v+rest=x*B+y) (h2:rest*B+z<d*w):(x*B+y)*B+z<d*(v*B+w):=by
 rw [← h,Nat.mul_add,← Nat.mul_assoc,Nat.add_mul]; omega
theorem guess_endB {B d w rest z:Nat} (hd:d<B) (hw:w<B) (h:B≤rest):d*w≤rest*B+z:=by
 have h1:d*w≤B*B:=Nat.mul_le_mul (by omega) (by omega)
 have h2:B*B≤rest*B:=Nat.mul_le_mul_right _ h
 omega
theorem guess_le {x y z v w d rest:Nat} (h:d*v+rest=x*18446744073709551616+y) (h2:d*w≤rest*18446744073709551616+z):d*(v*18446744073709551616+w)≤(x*18446744073709551616+y)*18446744073709551616+z:=guess_leB h h2
theorem guess_gt {x y z v w d rest:Nat} (h:d*v+rest=x*18446744073709551616+y) (h2:rest*18446744073709551616+z<d*w):(x*18446744073709551616+y)*18446744073709551616+z<d*(v*18446744073709551616+w):=guess_gtB h h2
theorem guess_end {d w rest z:Nat} (hd:d<18446744073709551616) (hw:w<18446744073709551616) (h:18446744073709551616≤rest):d*w≤rest*18446744073709551616+z:=guess_endB hd hw h
theorem ge_of {h l A rest z B:Nat} (e:h*B+l=A) (hl:l<B) (h1:¬ h<rest) (h2:h=rest→z<l) (hz:z<B):rest*B+z<A:=by
 rcases Nat.lt_or_ge rest h with h3|h3
 · have:(rest+1)*B≤h*B:=Nat.mul_le_mul_right _ h3
   rw [Nat.add_mul] at this; omega
 · have h4:h=rest:=by omega
   have:=h2 h4
   subst h4; omega
theorem le_of {h l A rest z B:Nat} (e:h*B+l=A) (hl:l<B) (h1:h<rest∨(h=rest∧l≤z)):A≤rest*B+z:=by
 rcases h1 with h3|⟨rfl,h3⟩
 · have:(h+1)*B≤rest*B:=Nat.mul_le_mul_right _ h3
   rw [Nat.add_mul] at this; omega
 · omega
theorem guess_eq {N V d:Nat} (h1:d*V≤N) (h2:N<(d+1)*V):d=N / V:=(Nat.div_eq_of_lt_le h1 h2).symm
theorem guess_startB {B x y z v w d r:Nat} (hz:z<B) (h:d*v+r=x*B+y) (hr:r<v):(x*B+y)*B+z<(d+1)*(v*B+w):=by
 rw [Nat.mul_add,← Nat.mul_assoc]
 have h1:(x*B+y+1)*B≤(d+1)*v*B:=Nat.mul_le_mul_right _ (by rw [Nat.add_mul]; omega)
 rw [Nat.add_mul _ 1] at h1
 omega
theorem guess_start {x y z v w d r:Nat} (hz:z<18446744073709551616) (h:d*v+r=x*18446744073709551616+y) (hr:r<v):(x*18446744073709551616+y)*18446744073709551616+z<(d+1)*(v*18446744073709551616+w):=guess_startB hz h hr
theorem guess_spec (hP:PrgOk P) (x y z v w:Nat) (hx:x<18446744073709551616) (hy:y<18446744073709551616) (hz:z<18446744073709551616) (hv:v<18446744073709551616) (hw:w<18446744073709551616) (hlt:(x*18446744073709551616+y)*18446744073709551616+z<18446744073709551616*(v*18446744073709551616+w)) (hv0:0<v):CSpec P 85 [.int .u64 (x:Int),.int .u64 (y:Int),.int .u64 (z:Int),.int .u64 (v:Int),.int .u64 (w:Int)] (.int .u64 ((((x*18446744073709551616+y)*18446744073709551616+z) / (v*18446744073709551616+w):Nat):Int)):=by
 have HE:=Sc_ok hP
 refine CSpec_go (E:=⟨T0,Sc⟩) (fn85 hP) HE hP.mix ?_
 by_cases h:x<v
 · simp only [go_sem,h,hy,hv]
   have i1:=divq_lt h hy
   have i2:divr x y v<18446744073709551616:=Nat.lt_trans (divr_lt x y hv0) hv
   have i3:=div_all x y v
   have i4:=guess_start (w:=w) hz i3 (divr_lt x y hv0)
   generalize divq x y v=d0 at *
   generalize divr x y v=r0 at *
   refine trX_loop HE hP.mix [] (fun q:Nat × Nat=>⟨upd (upd (upd (upd (upd (upd (fun _=>.junk) 2 (.int .u64 (z:Int))) 3 (.int .u64 (v:Int))) 4 (.int .u64 (w:Int))) 10 (.int .u64 0)) 11 (.int .u64 (q.1:Int))) 12 (.int .u64 (q.2:Int)),fun _=>.unused,67⟩)
    (fun q=>q.1<18446744073709551616∧q.2<18446744073709551616∧q.1*v+q.2=x*18446744073709551616+y∧(x*18446744073709551616+y)*18446744073709551616+z<(q.1+1)*(v*18446744073709551616+w)) (fun q=>q.1) (d0,r0) 0
    Has.z (Kept.of rfl KT.z KM.z) ⟨i1,i2,i3,i4⟩ 67 (by kernel_rfl) ?_
   rintro ⟨d,rest⟩ ⟨q1,q2,q3,q4⟩
   simp only [] at q1 q2 q3 q4
   clear i1 i2 i3 i4
   have hm:mulh d w*18446744073709551616+mull d w=d*w:=by rw [Nat.mul_comm,Nat.add_comm]; exact mul_all d w
   have hml:=mull_lt d w
   have fin:d*w≤rest*18446744073709551616+z→d=((x*18446744073709551616+y)*18446744073709551616+z) / (v*18446744073709551616+w):=fun h=>guess_eq (guess_le q3 h) q4
   by_cases h1:mulh d w<rest
   · simp only [go_sem,q1,hw,h1]
     rw [← fin (le_of hm hml (.inl h1))]; exact .refl _
   · have hstep:rest*18446744073709551616+z<d*w→∃ d',d=d'+1∧(x*18446744073709551616+y)*18446744073709551616+z<(d'+1)*(v*18446744073709551616+w):=fun h=>by
      have:=guess_gt q3 h
      obtain ⟨d',rfl⟩:=succ_of h
      exact ⟨d',rfl,this⟩
     have h2t:(mulh d w == rest)=true∨(mulh d w == rest)=false:=by cases (mulh d w == rest)<;>simp
     rcases h2t with h2|h2
     · have h2e:mulh d w=rest:=by simpa using h2
       by_cases h3:mull d w≤z
       · simp only [go_sem,q1,hw,h1,h2,h3]
         rw [← fin (le_of hm hml (.inr ⟨h2e,h3⟩))]; exact .refl _
       · obtain ⟨d',rfl,g⟩:=hstep (ge_of hm hml h1 (fun _=>Nat.lt_of_not_le h3) hz)
         clear fin hstep
         have m1:=u_nat d' (by omega)
         have hc:=add_all rest v 0
         have hcl:=addl_lt rest v 0
         have g3:d'*v+(rest+v)=x*18446744073709551616+y:=by rw [← q3,Nat.succ_mul]; omega
         simp only [go_sem,q1,q2,hw,h1,h2,h3,m1]
         refine if_split (fun hb=>?_) (fun hb=>?_)
         · have hb:addh rest v 0 ≠ 0:=by simpa using hb
           have:d'*w≤(rest+v)*18446744073709551616+z:=guess_end (by omega) hw (by omega)
           simp only [go_sem]
           rw [← guess_eq (guess_le g3 this) g]; exact .refl _
         · have hb:addh rest v 0=0:=by simpa using hb
           have he:addl rest v 0=rest+v:=by omega
           simp only [go_sem]
           exact ⟨(d',addl rest v 0),Kept.of rfl KT.z KM.z,⟨by simp only []; omega,hcl,by simp only []; rw [he]; exact g3,g⟩,by simp only []; omega⟩
     · have h2e:mulh d w ≠ rest:=by simpa using h2
       obtain ⟨d',rfl,g⟩:=hstep (ge_of hm hml h1 (fun e=>absurd e h2e) hz)
       clear fin hstep
       have m1:=u_nat d' (by omega)
       have hc:=add_all rest v 0
       have hcl:=addl_lt rest v 0
       have g3:d'*v+(rest+v)=x*18446744073709551616+y:=by rw [← q3,Nat.succ_mul]; omega
       simp only [go_sem,q1,q2,hw,h1,h2,m1]
       refine if_split (fun hb=>?_) (fun hb=>?_)
       · have hb:addh rest v 0 ≠ 0:=by simpa using hb
         have:d'*w≤(rest+v)*18446744073709551616+z:=guess_end (by omega) hw (by omega)
         simp only [go_sem]
         rw [← guess_eq (guess_le g3 this) g]; exact .refl _
       · have hb:addh rest v 0=0:=by simpa using hb
         have he:addl rest v 0=rest+v:=by omega
         simp only [go_sem]
         exact ⟨(d',addl rest v 0),Kept.of rfl KT.z KM.z,⟨by simp only []; omega,hcl,by simp only []; rw [he]; exact g3,g⟩,by simp only []; omega⟩
 · have hxv:v=x:=by
    rcases Nat.lt_or_ge v x with h'|h'
    · have:(v+1)*18446744073709551616≤x*18446744073709551616:=Nat.mul_le_mul_right _ h'
      omega
    · omega
   subst hxv
   have hc:=add_all y v 0
   have i3:18446744073709551615*v+(y+v)=v*18446744073709551616+y:=by omega
   have i4:(v*18446744073709551616+y)*18446744073709551616+z<(18446744073709551615+1)*(v*18446744073709551616+w):=hlt
   simp only [go_sem,h,hy]
   refine if_split (fun hb=>?_) (fun hb=>?_)
   · have hb:addh y v 0 ≠ 0:=by simpa using hb
     have:=guess_eq (guess_le i3 (guess_end (z:=z) (by decide) hw (by omega))) i4
     simp only [go_sem]
     rw [← this]; exact .refl _
   · have hb:addh y v 0=0:=by simpa using hb
     have i2:=addl_lt y v 0
     rw [show y+v=addl y v 0 by omega] at i3
     have i1:18446744073709551615<18446744073709551616:=by decide
     simp only [go_sem]
     generalize addl y v 0=r0 at *
     obtain ⟨d0,hd0⟩:∃ d0:Nat,d0=18446744073709551615:=⟨_,rfl⟩
     rw [← hd0] at i1 i3 i4
     have hd0':(18446744073709551615:Int)=(d0:Int):=by rw [hd0]; rfl
     rw [hd0']
     clear hd0 hd0'
     refine trX_loop HE hP.mix [] (fun q:Nat × Nat=>⟨upd (upd (upd (upd (upd (upd (fun _=>.junk) 2 (.int .u64 (z:Int))) 3 (.int .u64 (v:Int))) 4 (.int .u64 (w:Int))) 10 (.int .u64 0)) 11 (.int .u64 (q.1:Int))) 12 (.int .u64 (q.2:Int)),fun _=>.unused,67⟩)
      (fun q=>q.1<18446744073709551616∧q.2<18446744073709551616∧q.1*v+q.2=v*18446744073709551616+y∧(v*18446744073709551616+y)*18446744073709551616+z<(q.1+1)*(v*18446744073709551616+w)) (fun q=>q.1) (d0,r0) 0
      Has.z (Kept.of rfl KT.z KM.z) ⟨i1,i2,i3,i4⟩ 67 (by kernel_rfl) ?_
     rintro ⟨d,rest⟩ ⟨q1,q2,q3,q4⟩
     simp only [] at q1 q2 q3 q4
     clear i1 i2 i3 i4
     have hm:mulh d w*18446744073709551616+mull d w=d*w:=by rw [Nat.mul_comm,Nat.add_comm]; exact mul_all d w
     have hml:=mull_lt d w
     have fin:d*w≤rest*18446744073709551616+z→d=((v*18446744073709551616+y)*18446744073709551616+z) / (v*18446744073709551616+w):=fun h=>guess_eq (guess_le q3 h) q4
     by_cases h1:mulh d w<rest
     · simp only [go_sem,q1,hw,h1]
       rw [← fin (le_of hm hml (.inl h1))]; exact .refl _
     · have hstep:rest*18446744073709551616+z<d*w→∃ d',d=d'+1∧(v*18446744073709551616+y)*18446744073709551616+z<(d'+1)*(v*18446744073709551616+w):=fun h=>by
        have:=guess_gt q3 h
        obtain ⟨d',rfl⟩:=succ_of h
        exact ⟨d',rfl,this⟩
       have h2t:(mulh d w == rest)=true∨(mulh d w == rest)=false:=by cases (mulh d w == rest)<;>simp
       rcases h2t with h2|h2
       · have h2e:mulh d w=rest:=by simpa using h2
         by_cases h3:mull d w≤z
         · simp only [go_sem,q1,hw,h1,h2,h3]
           rw [← fin (le_of hm hml (.inr ⟨h2e,h3⟩))]; exact .refl _
         · obtain ⟨d',rfl,g⟩:=hstep (ge_of hm hml h1 (fun _=>Nat.lt_of_not_le h3) hz)
           clear fin hstep
           have m1:=u_nat d' (by omega)
           have hc:=add_all rest v 0
           have hcl:=addl_lt rest v 0
           have g3:d'*v+(rest+v)=v*18446744073709551616+y:=by rw [← q3,Nat.succ_mul]; omega
           simp only [go_sem,q1,q2,hw,h1,h2,h3,m1]
           refine if_split (fun hb=>?_) (fun hb=>?_)
           · have hb:addh rest v 0 ≠ 0:=by simpa using hb
             have:d'*w≤(rest+v)*18446744073709551616+z:=guess_end (by omega) hw (by omega)
             simp only [go_sem]
             rw [← guess_eq (guess_le g3 this) g]; exact .refl _
           · have hb:addh rest v 0=0:=by simpa using hb
             have he:addl rest v 0=rest+v:=by omega
             simp only [go_sem]
             exact ⟨(d',addl rest v 0),Kept.of rfl KT.z KM.z,⟨by simp only []; omega,hcl,by simp only []; rw [he]; exact g3,g⟩,by simp only []; omega⟩
       · have h2e:mulh d w ≠ rest:=by simpa using h2
         obtain ⟨d',rfl,g⟩:=hstep (ge_of hm hml h1 (fun e=>absurd e h2e) hz)
         clear fin hstep
         have m1:=u_nat d' (by omega)
         have hc:=add_all rest v 0
         have hcl:=addl_lt rest v 0
         have g3:d'*v+(rest+v)=v*18446744073709551616+y:=by rw [← q3,Nat.succ_mul]; omega
         simp only [go_sem,q1,q2,hw,h1,h2,m1]
         refine if_split (fun hb=>?_) (fun hb=>?_)
         · have hb:addh rest v 0 ≠ 0:=by simpa using hb
           have:d'*w≤(rest+v)*18446744073709551616+z:=guess_end (by omega) hw (by omega)
           simp only [go_sem]
           rw [← guess_eq (guess_le g3 this) g]; exact .refl _
         · have hb:addh rest v 0=0:=by simpa using hb
           have he:addl rest v 0=rest+v:=by omega
           simp only [go_sem]
           exact ⟨(d',addl rest v 0),Kept.of rfl KT.z KM.z,⟨by simp only []; omega,hcl,by simp only []; rw [he]; exact g3,g⟩,by simp only []; omega⟩
theorem guess_top (hP:PrgOk P) (z v w:Nat) (hz:z<18446744073709551616) (hv:v<18446744073709551616) (hw:w<18446744073709551616):CSpec P 85 [.int .u64 (v:Int),.int .u64 (w:Int),.int .u64 (z:Int),.int .u64 (v:Int),.int .u64 (w:Int)] (.int .u64 18446744073709551615):=by
 have HE:=Sc_ok hP
 refine CSpec_go (E:=⟨T0,Sc⟩) (fn85 hP) HE hP.mix ?_
 have h:¬ v<v:=Nat.lt_irrefl v
 have hc:=add_all w v 0
 simp only [go_sem,h,hw]
 refine if_split (fun hb=>?_) (fun hb=>?_)
 · simp only [go_sem]
   exact .refl _
 · have hb:addh w v 0=0:=by simpa using hb
   have i2:=addl_lt w v 0
   have i1:18446744073709551615<18446744073709551616:=by decide
   have i3:addl w v 0=w+v:=by omega
   simp only [go_sem]
   generalize addl w v 0=r0 at *
   obtain ⟨d0,hd0⟩:∃ d0:Nat,d0=18446744073709551615:=⟨_,rfl⟩
   rw [← hd0] at i1
   have hd0':(18446744073709551615:Int)=(d0:Int):=by rw [hd0]; rfl
   rw [hd0']
   refine trX_loop HE hP.mix [] (fun q:Nat × Nat=>⟨upd (upd (upd (upd (upd (upd (fun _=>.junk) 2 (.int .u64 (z:Int))) 3 (.int .u64 (v:Int))) 4 (.int .u64 (w:Int))) 10 (.int .u64 0)) 11 (.int .u64 (q.1:Int))) 12 (.int .u64 (q.2:Int)),fun _=>.unused,67⟩)
    (fun q=>q=(d0,r0)) (fun q=>q.1) (d0,r0) 0
    Has.z (Kept.of rfl KT.z KM.z) rfl 67 (by kernel_rfl) ?_
   rintro ⟨d,rest⟩ hq
   obtain ⟨rfl,rfl⟩:=Prod.mk.inj hq
   have hm:mulh d w*18446744073709551616+mull d w=d*w:=by rw [Nat.mul_comm,Nat.add_comm]; exact mul_all d w
   have hml:=mull_lt d w
   have hle:d*w≤rest*18446744073709551616+z:=by
    have h1:d*w≤18446744073709551616*w:=Nat.mul_le_mul_right _ (by omega)
    have h2:w*18446744073709551616≤rest*18446744073709551616:=Nat.mul_le_mul_right _ (by omega)
    rw [Nat.mul_comm] at h2; omega
   clear hd0 hd0'
   by_cases h1:mulh d w<rest
   · simp only [go_sem,i1,hw,h1]
     exact .refl _
   · have h2t:(mulh d w == rest)=true∨(mulh d w == rest)=false:=by cases (mulh d w == rest)<;>simp
     rcases h2t with h2|h2
     · have h2e:mulh d w=rest:=by simpa using h2
       by_cases h3:mull d w≤z
       · simp only [go_sem,i1,hw,h1,h2,h3]
         exact .refl _
       · exact absurd (ge_of hm hml h1 (fun _=>Nat.lt_of_not_le h3) hz) (Nat.not_lt_of_le hle)
     · have h2e:mulh d w ≠ rest:=by simpa using h2
       exact absurd (ge_of hm hml h1 (fun e=>absurd e h2e) hz) (Nat.not_lt_of_le hle)
theorem gd_ex:∃ f:Nat→Nat→Nat→Nat→Nat→Nat,∀ x y z v w,f x y z v w=if (x*18446744073709551616+y)*18446744073709551616+z<18446744073709551616*(v*18446744073709551616+w) then ((x*18446744073709551616+y)*18446744073709551616+z) / (v*18446744073709551616+w) else 18446744073709551615:=⟨_,fun _ _ _ _ _=>rfl⟩
noncomputable def gdig:Nat→Nat→Nat→Nat→Nat→Nat:=Classical.choose gd_ex
theorem gdig_eq (x y z v w):gdig x y z v w=if (x*18446744073709551616+y)*18446744073709551616+z<18446744073709551616*(v*18446744073709551616+w) then ((x*18446744073709551616+y)*18446744073709551616+z) / (v*18446744073709551616+w) else 18446744073709551615:=Classical.choose_spec gd_ex x y z v w
def guessC (x y z v w:Nat):Prop:=x<18446744073709551616∧y<18446744073709551616∧z<18446744073709551616∧v<18446744073709551616∧w<18446744073709551616∧x*18446744073709551616+y≤v*18446744073709551616+w∧0<v
theorem guess_eqB {B x y z v w:Nat} (hy:y<B) (hw:w<B) (h:x*B+y≤v*B+w) (hn:¬ (x*B+y)*B+z<B*(v*B+w)) (hz:z<B):x=v∧y=w:=by
 have h1:x*B+y=v*B+w:=by
  rcases Nat.lt_or_ge (x*B+y) (v*B+w) with h2|h2
  · have:(x*B+y+1)*B≤(v*B+w)*B:=Nat.mul_le_mul_right _ h2
    rw [Nat.add_mul,Nat.mul_comm (v*B+w)] at this; omega
  · omega
 have h2:x=v:=by
  rcases Nat.lt_trichotomy x v with h3|h3|h3
  · have:(x+1)*B≤v*B:=Nat.mul_le_mul_right _ h3
    rw [Nat.add_mul] at this; omega
  · exact h3
  · have:(v+1)*B≤x*B:=Nat.mul_le_mul_right _ h3
    rw [Nat.add_mul] at this; omega
 subst h2; exact ⟨rfl,by omega⟩
theorem guess_all (hP:PrgOk P) (x y z v w:Nat) (h:guessC x y z v w):CSpec P 85 [.int .u64 (x:Int),.int .u64 (y:Int),.int .u64 (z:Int),.int .u64 (v:Int),.int .u64 (w:Int)] (.int .u64 ((gdig x y z v w:Nat):Int)):=by
 obtain ⟨hx,hy,hz,hv,hw,hle,hv0⟩:=h
 rw [gdig_eq]
 by_cases h:(x*18446744073709551616+y)*18446744073709551616+z<18446744073709551616*(v*18446744073709551616+w)
 · rw [if_pos h]; exact guess_spec hP x y z v w hx hy hz hv hw h hv0
 · rw [if_neg h]
   obtain ⟨rfl,rfl⟩:=guess_eqB hy hw hle h hz
   exact guess_top hP z x y hz hx hy
noncomputable def guessS:List AV→Option (Prop × AV)
 | [.int .u64 x,.int .u64 y,.int .u64 z,.int .u64 v,.int .u64 w]=>some ((0≤x∧0≤y∧0≤z∧0≤v∧0≤w)∧guessC x.toNat y.toNat z.toNat v.toNat w.toNat,.int .u64 ((gdig x.toNat y.toNat z.toNat v.toNat w.toNat:Nat):Int))
 | _=>none
theorem guessS_ok (hP:PrgOk P) (args p r) (h:guessS args=some (p,r)) (hp:p):CSpec P 85 args r:=by
 unfold guessS at h
 split at h
 · simp only [Option.some.injEq,Prod.mk.injEq] at h
   obtain ⟨rfl,rfl⟩:=h
   exact (by rename_i x y z v w; obtain ⟨⟨a1,a2,a3,a4,a5⟩,b⟩:=hp; have:=guess_all hP _ _ _ _ _ b; rw [nn a1,nn a2,nn a3,nn a4,nn a5] at this; exact this)
 · simp at h
attribute [go_sem] guessS
theorem gdig_good {B p P3 V2 V Pn q lowV lowP:Nat} (hV:V=V2*p+lowV) (hl:lowV<p) (hPn:Pn=P3*p+lowP) (hlp:lowP<p) (hB:B≤V2) (hB0:0<B) (hPV:Pn<B*V) (hq:q=if P3<B*V2 then P3 / V2 else B-1):q<B∧q*V<Pn+V∧Pn<(q+1)*V:=by
 have hV2:0<V2:=by omega
 have h0:B*p≤V2*p:=Nat.mul_le_mul_right _ hB
 have hVp:0<V2*p:=Nat.mul_pos hV2 (by omega)
 split at hq
 · rename_i h
   have e1:=Nat.div_mul_le_self P3 V2
   have e2:P3<(q+1)*V2:=by
    rw [hq,Nat.add_mul,Nat.one_mul,Nat.mul_comm]
    have:=Nat.mod_add_div P3 V2
    have:=Nat.mod_lt P3 hV2
    omega
   rw [← hq] at e1
   have hqB:q<B:=by rw [hq]; exact (Nat.div_lt_iff_lt_mul hV2).2 h
   refine ⟨hqB,?_,?_⟩
   · have a1:q*V2*p≤P3*p:=Nat.mul_le_mul_right _ e1
     clear hq
     rw [hV,Nat.mul_add,← Nat.mul_assoc]
     rcases Nat.eq_zero_or_pos q with hq0|hq0
     · subst hq0; simp; omega
     · have a3:q*lowV<q*p:=(Nat.mul_lt_mul_left hq0).2 hl
       have a4:q*p≤B*p:=Nat.mul_le_mul_right _ (by omega)
       omega
   · have a1:(P3+1)*p≤(q+1)*V2*p:=Nat.mul_le_mul_right _ e2
     clear hq
     rw [Nat.add_mul,Nat.one_mul] at a1
     rw [hV,Nat.mul_add,← Nat.mul_assoc]; omega
 · rename_i h
   refine ⟨by omega,?_,?_⟩
   · have a1:B*V2*p≤P3*p:=Nat.mul_le_mul_right _ (by omega)
     have a2:B*lowV<B*p:=(Nat.mul_lt_mul_left hB0).2 hl
     have a3:(q+1)*V=B*V:=by rw [hq]; congr 1; omega
     have a4:B*V=B*V2*p+B*lowV:=by rw [hV,Nat.mul_add,Nat.mul_assoc]
     rw [Nat.add_mul,Nat.one_mul] at a3
     omega
   · have a3:(q+1)*V=B*V:=by rw [hq]; congr 1; omega
     omega
theorem away_none {w V d P Bn b:Nat} (h:w+V*d=P+Bn*b) (hb:b=0) (h2:P<(d+1)*V):w<V∧w+d*V=P:=by
 subst hb; rw [Nat.mul_comm V] at h; rw [Nat.add_mul] at h2; omega
theorem away_much {w w2 V d P Bn b c:Nat} (h:w+V*d=P+Bn*b) (hb:b=1) (hw:w<Bn) (h1:d*V<P+V) (hc:c≤1) (h3:w2+Bn*c=w+V) (hV:V<Bn) (hw2:w2<Bn):∃ d',d=d'+1∧w2<V∧w2+d'*V=P:=by
 subst hb
 rw [Nat.mul_comm V] at h
 obtain ⟨d',rfl⟩:∃ d',d=d'+1:=by
  cases d with
  | zero=>omega
  | succ d=>exact ⟨d,rfl⟩
 rw [Nat.add_mul,Nat.one_mul] at h h1
 refine ⟨d',rfl,?_⟩
 rcases Nat.le_one_iff_eq_zero_or_eq_one.1 hc with rfl|rfl<;>omega
theorem pow64 {s:Nat} (hs:s≤64):(2:Nat)^(64-s)*2^s=18446744073709551616:=by rw [← Nat.pow_add,show 64-s+s=64 by omega]
theorem shl_mod (d s:Nat) (hs:s≤64):d*2^s % 18446744073709551616=d % 2^(64-s)*2^s:=by rw [← pow64 hs,Nat.mul_mod_mul_right]
theorem shl_all (d s:Nat) (hs:s≤64):d*2^s % 18446744073709551616+18446744073709551616*(d / 2^(64-s))=d*2^s:=by
 have:=Nat.mod_add_div d (2^(64-s))
 rw [shl_mod d s hs]
 conv=>rhs; rw [← this]
 rw [Nat.add_mul]; congr 1
 rw [← pow64 hs,Nat.mul_right_comm]
theorem shr_lt {d s:Nat} (hs:s≤64) (hd:d<18446744073709551616):d / 2^(64-s)<2^s:=by
 rw [Nat.div_lt_iff_lt_mul (Nat.two_pow_pos _),Nat.mul_comm,pow64 hs]; exact hd
theorem wu_shl (d s:Nat):IntKind.u64.wrap ((d:Int)*2^s)=((d*2^s % 18446744073709551616:Nat):Int):=by
 rw [show (d:Int)*2^s=((d*2^s:Nat):Int) by simp,IntKind.wrap_u64]; generalize d*2^s=c; omega
theorem or_up {d c s:Nat} (hs:s≤64) (hc:c<2^s):IntKind.u64.wrap (((BitVec.ofInt 64 ((d*2^s % 18446744073709551616:Nat):Int) ||| BitVec.ofInt 64 (c:Int)).toNat:Nat):Int)=((d*2^s % 18446744073709551616+c:Nat):Int):=by
 rw [shl_mod d s hs]
 refine or64 _ _ _ ?_ hc hs
 rw [← shl_mod d s hs]; exact Nat.mod_lt _ (by decide)
theorem or_dn {b x t:Nat} (ht:t≤64) (hb:b<2^t):IntKind.u64.wrap (((BitVec.ofInt 64 (b:Int) ||| BitVec.ofInt 64 ((x*2^t % 18446744073709551616:Nat):Int)).toNat:Nat):Int)=((x*2^t % 18446744073709551616+b:Nat):Int):=by
 rw [BitVec.or_comm]; exact or_up ht hb
theorem or_up_lt {d c s:Nat} (hs:s≤64) (hc:c<2^s):d*2^s % 18446744073709551616+c<18446744073709551616:=by
 rw [shl_mod d s hs]
 have h1:d % 2^(64-s)+1≤2^(64-s):=Nat.mod_lt _ (Nat.two_pow_pos _)
 have h2:=Nat.mul_le_mul_right (2^s) h1
 rw [pow64 hs,Nat.add_mul,Nat.one_mul] at h2
 omega
theorem rep_get {done:List Nat} {n k:Nat} (hd:done.length=k) (hk:k<n):(done++List.replicate (n-k) 0).getD k 0=0:=by
 obtain ⟨j,hj⟩:∃ j,n-k=j+1:=⟨n-k-1,by omega⟩
 rw [hj,List.replicate_succ]; exact get_app (R:=List.replicate j 0) hd
theorem rep_set {done:List Nat} {n k s:Nat} (hd:done.length=k) (hk:k<n):(done++List.replicate (n-k) 0).set k s=(done++[s])++List.replicate (n-(k+1)) 0:=by
 obtain ⟨j,hj⟩:∃ j,n-k=j+1:=⟨n-k-1,by omega⟩
 rw [hj,List.replicate_succ,show n-(k+1)=j by omega,List.append_assoc]; exact set_app (R:=List.replicate j 0) hd
theorem rep_len {done:List Nat} {n k:Nat} (hd:done.length=k) (hk:k<n):k<(done++List.replicate (n-k) 0).length:=by simp; omega
theorem sn_get {done R:List Nat} {x k:Nat} (hd:done.length=k):((done++[x])++R).getD k 0=x:=by rw [List.append_assoc]; exact get_app hd
theorem sn_set {done R:List Nat} {x k s:Nat} (hd:done.length=k):((done++[x])++R).set k s=(done++[s])++R:=by
 rw [List.append_assoc,set_app hd,List.append_assoc]; rfl
theorem sn_len {done R:List Nat} {x k:Nat} (hd:done.length=k):k<((done++[x])++R).length:=by simp; omega
def cup (d:List Nat) (s k:Nat):Nat:=if k=0 then 0 else d.getD (k-1) 0 / 2^(64-s)
theorem cup_lt {d:List Nat} {s k:Nat} (hs:s≤64) (hd:∀ x ∈ d,x<18446744073709551616):cup d s k<2^s:=by
 unfold cup; split
 · exact Nat.two_pow_pos _
 · refine shr_lt hs ?_
   by_cases h:k-1<d.length
   · exact hd _ (getD_mem h)
   · rw [List.getD_eq_getElem?_getD,List.getElem?_eq_none (by omega)]; simp
theorem up_step {p D V z c x a c':Nat} {t:Nat} (h:D+p*c=V*t) (h1:a+18446744073709551616*c'=x*t) (hz:z=a+c):D+p*z+p*18446744073709551616*c'=(V+p*x)*t:=by
 have e2:=congrArg (p*·) h1
 simp only [Nat.mul_add,← Nat.mul_assoc] at e2
 rw [hz,Nat.add_mul,Nat.mul_add]; omega
theorem up_ic (hP:PrgOk P) {L:List Nat} {m:Nat→AObj} {K:Nat→AV→(Nat→AObj)→Prop} {r nx0 N:Nat} {d:List Nat} {s n:Nat} (hm:GenM L m) (hr:L.contains r=true) (hmr:m r = .unused) (hrn:nx0+1+1=r) (hn3:n≤1099511627776) (hn:d.length≤n) (hn1:n≤d.length+1) (hd0:d ≠ []) (hd:∀ x ∈ d,x<18446744073709551616) (hs:s≤63)
 (k:∀ (w:List Nat),w.length=n→(∀ d ∈ w,d<18446744073709551616)→dOf 18446744073709551616 w+18446744073709551616^n*cup d s n=dOf 18446744073709551616 d*2^s→K N (.sl r 0 n 1) (upd m r (.live (List.map (fun d:Nat=>AV.int .u64 (d:Int)) (w))))) :
 icX (ICall P) 84 [.imm d.length (List.map (fun d:Nat=>AV.int .u64 (d:Int)) (d)),.int .i64 (s:Int),.int .i64 (n:Int)] m (K:=⟨K⟩):=by
 have HE:=Sc_ok hP
 refine icX_any N (icX_vc (E:=⟨T0,Sc⟩) (fn84 hP) HE hP.mix rfl (by first|rfl|(simp only [go_sem]; done)) (Nat.le_of_ble_eq_true rfl) nx0 ?_)
 simp only [go_sem,hmr,hn3,hrn]
 refine trX_loop HE hP.mix L (fun q:Nat × List Nat=>⟨upd (upd (upd (upd (upd (upd (fun _=>.junk) 0 (.imm d.length (List.map (fun d:Nat=>AV.int .u64 (d:Int)) (d)))) 1 (.int .i64 (s:Int))) 6 .nils) 7 (.sl r 0 n 1)) 12 (.int .i64 (n:Int))) 13 (.int .i64 (q.1:Int)),upd m r (.live (List.map (fun d:Nat=>AV.int .u64 (d:Int)) (q.2++List.replicate (n-q.1) 0))),57⟩)
  (fun q=>q.1≤n∧q.2.length=q.1∧(∀ x ∈ q.2,x<18446744073709551616)∧dOf 18446744073709551616 q.2+18446744073709551616^q.1*cup d s q.1=dOf 18446744073709551616 (d.take q.1)*2^s) (fun q=>n-q.1) (0,[]) 0
  (hm.upd hr objOnly_U).1 (Kept.of rfl KT.z (KM.gen (hm.upd hr objOnly_U))) ⟨by simp,by simp,by simp,by simp [dOf,cup]⟩ 57 (by kernel_rfl) ?_
 rintro ⟨i,dn⟩ ⟨q1,q2,q3,q4⟩
 simp only [] at q1 q2 q3 q4
 have hcl:=cup_lt (k:=i) (show s≤64 by omega) hd
 by_cases hi:i<n
 · have hwi:=wi_add1 i (by omega)
   have hnl:i<dn.length+(n-i):=by omega
   have hget:=rep_get q2 hi
   have hset:∀ x,(dn++List.replicate (n-i) 0).set i x=(dn++[x])++List.replicate (n-(i+1)) 0:=fun x=>rep_set q2 hi
   have hlen:=rep_len q2 hi
   have hsm:min s 64=s:=by omega
   have hlt:=or_up_lt (d:=d.getD i 0) (show s≤64 by omega) hcl
   have hlt0:d.getD i 0*2^s % 18446744073709551616<18446744073709551616:=Nat.mod_lt _ (by decide)
   have fin:∀ z,z=d.getD i 0*2^s % 18446744073709551616+cup d s i→z<18446744073709551616∧(∀ x ∈ dn++[z],x<18446744073709551616)∧dOf 18446744073709551616 (dn++[z])+18446744073709551616^(i+1)*cup d s (i+1)=dOf 18446744073709551616 (d.take (i+1))*2^s:=fun z hz=>by
    refine ⟨by omega,?_,?_⟩
    · intro x hx
      rcases List.mem_append.1 hx with hx|hx
      · exact q3 x hx
      · rw [List.mem_singleton.1 hx]; omega
    · have h1:=shl_all (d.getD i 0) s (by omega)
      have h2:=up_step q4 h1 hz
      have h3:cup d s (i+1)=d.getD i 0 / 2^(64-s):=by unfold cup; rw [if_neg (by omega),Nat.add_sub_cancel]
      rw [h3,dOf_snoc,q2,Nat.pow_succ]
      refine h2.trans ?_
      by_cases hl:i<d.length
      · rw [dOf_take_succ 18446744073709551616 d i hl]
      · rw [List.take_of_length_le (show d.length≤i by omega),List.take_of_length_le (show d.length≤i+1 by omega),List.getD_eq_getElem?_getD,List.getElem?_eq_none (by omega)]; simp
   have hfin:∀ z,z=d.getD i 0*2^s % 18446744073709551616+cup d s i→∀ St',Kept L St' ⟨upd (upd (upd (upd (upd (upd (fun _=>.junk) 0 (.imm d.length (List.map (fun d:Nat=>AV.int .u64 (d:Int)) (d)))) 1 (.int .i64 (s:Int))) 6 .nils) 7 (.sl r 0 n 1)) 12 (.int .i64 (n:Int))) 13 (.int .i64 ((i+1:Nat):Int)),upd m r (.live (List.map (fun d:Nat=>AV.int .u64 (d:Int)) ((dn++[z])++List.replicate (n-(i+1)) 0))),57⟩→∃ x:Nat × List Nat,Kept L St' ⟨upd (upd (upd (upd (upd (upd (fun _=>.junk) 0 (.imm d.length (List.map (fun d:Nat=>AV.int .u64 (d:Int)) (d)))) 1 (.int .i64 (s:Int))) 6 .nils) 7 (.sl r 0 n 1)) 12 (.int .i64 (n:Int))) 13 (.int .i64 (x.1:Int)),upd m r (.live (List.map (fun d:Nat=>AV.int .u64 (d:Int)) (x.2++List.replicate (n-x.1) 0))),57⟩∧(x.1≤n∧x.2.length=x.1∧(∀ y ∈ x.2,y<18446744073709551616)∧dOf 18446744073709551616 x.2+18446744073709551616^x.1*cup d s x.1=dOf 18446744073709551616 (d.take x.1)*2^s)∧n-x.1<n-i:=fun z hz St' hk=>by
    obtain ⟨z1,z2,z3⟩:=fin z hz
    exact ⟨(i+1,dn++[z]),hk,⟨by simp only []; omega,by simp only [List.length_append,List.length_singleton]; omega,z2,z3⟩,by simp only []; omega⟩
   have hle:i≤d.length:=by omega
   have hwk:(∀ a,GenM L (upd m r (.live (List.map (fun d:Nat=>AV.int .u64 (d:Int)) (dn++[a]++List.replicate (n-(i+1)) 0))))):=fun a=>hm.upd hr objOnly_U
   obtain ⟨a,haa⟩:∃ a,d.getD i 0*2^s % 18446744073709551616=a:=⟨_,rfl⟩
   have hshl:=wu_shl (d.getD i 0) s
   rw [haa] at hshl hfin hlt hlt0
   have hset2:∀ x,((dn++[a])++List.replicate (n-(i+1)) 0).set i x=(dn++[x])++List.replicate (n-(i+1)) 0:=fun x=>sn_set q2
   have hget2:((dn++[a])++List.replicate (n-(i+1)) 0).getD i 0=a:=sn_get q2
   have hlen2:i<((dn++[a])++List.replicate (n-(i+1)) 0).length:=sn_len q2
   have hnl2:i<dn.length+(1+(n-(i+1))):=by omega
   have hnl3:i<dn.length+1+(n-(i+1)):=by omega
   cases i with
   | zero =>
     have hl:0<d.length:=List.length_pos_iff.2 hd0
     have hz:=hfin a (by simp [cup])
     have hl0:0<d.length:=hl
     simp only [Nat.sub_zero,Nat.zero_add] at hset hget hlen hnl hnl2 hset2 hget2 hlen2 hnl3 hz hwk hwi
     simp only [go_sem,hi,hl,hwi,hnl,hset,hget,hlen,gU hlen,hsm,hshl,gU hl,upd_upd]
     exact hz _ (Kept.of rfl KT.z (KM.gen (hwk a)))
   | succ j =>
     have hj:j<d.length:=by omega
     have hj2:j≤d.length:=by omega
     have hwj:=wi_nat j (by omega)
     have hw64:IntKind.i64.wrap (64-(s:Int))=((64-s:Nat):Int):=by rw [IntKind.wrap_i64]; omega
     have hm64:min (64-s) 64=64-s:=by omega
     have hcup:cup d s (j+1)=d.getD j 0 / 2^(64-s):=by unfold cup; rw [if_neg (by omega),Nat.add_sub_cancel]
     have hor:IntKind.u64.wrap (((BitVec.ofInt 64 (a:Int) ||| BitVec.ofInt 64 ((cup d s (j+1):Nat):Int)).toNat:Nat):Int)=((a+cup d s (j+1):Nat):Int):=by rw [← haa]; exact or_up (show s≤64 by omega) hcl
     rw [hcup] at hor hcl hlt hfin
     obtain ⟨c,hcc⟩:∃ c,d.getD j 0 / 2^(64-s)=c:=⟨_,rfl⟩
     rw [hcc] at hor hcl hlt hfin
     obtain ⟨z,hzz⟩:∃ z,a+c=z:=⟨_,rfl⟩
     rw [hzz] at hor hfin hlt
     have hz:=hfin z rfl
     by_cases hs0:0<s
     · by_cases hl:j+1<d.length
       · simp only [go_sem,hi,hl,hle,hwi,hwj,hw64,hm64,hnl,hnl2,hnl3,hset,hset2,hget,hget2,hlen,hlen2,hsm,hs0,hshl,gU' hl,gU' hj,hj,hj2,gU hlen,gU hlen2,fd_pow,hcc,or_fix,hor,upd_upd,List.any_toArray,Region.binds]
         exact hz _ (Kept.of rfl KT.z (KM.gen (hwk z)))
       · have ha0:a=0:=by rw [← haa,List.getD_eq_getElem?_getD,List.getElem?_eq_none (by omega)]; simp
         subst ha0
         simp only [go_sem,hi,hl,hle,hwi,hwj,hw64,hm64,hnl,hnl2,hnl3,hset,hset2,hget,hget2,hlen,hlen2,hsm,hs0,gU' hj,hj,hj2,gU hlen,gU hlen2,fd_pow,hcc,or_fix,hor,upd_upd,List.any_toArray,Region.binds]
         exact hz _ (Kept.of rfl KT.z (KM.gen (hwk z)))
     · have hs00:s=0:=by omega
       have hc0:c=0:=by
        rw [← hcc,hs00]
        exact Nat.div_eq_of_lt (hd _ (getD_mem hj))
       have hza:z=a:=by omega
       subst hza
       by_cases hl:j+1<d.length
       · simp only [go_sem,hi,hl,hle,hwi,hwj,hnl,hnl2,hnl3,hset,hget,hlen,hsm,hs0,hshl,gU' hl,gU hlen,upd_upd]
         exact hz _ (Kept.of rfl KT.z (KM.gen (hwk z)))
       · have ha0:z=0:=by rw [← haa,List.getD_eq_getElem?_getD,List.getElem?_eq_none (by omega)]; simp
         have hrs:dn++List.replicate (n-(j+1)) 0=(dn++[z])++List.replicate (n-(j+1+1)) 0:=by
          rw [ha0,show n-(j+1)=n-(j+1+1)+1 by omega,List.replicate_succ,List.append_assoc]; rfl
         simp only [go_sem,hi,hl,hle,hwi,hwj,hsm,hs0]
         rw [hrs]
         exact hz _ (Kept.of rfl KT.z (KM.gen (hwk z)))
 · simp only [go_sem,hi]
   have hie:i=n:=by omega
   have e1:d.take i=d:=List.take_of_length_le (by omega)
   rw [e1,hie] at q4
   rw [hie,Nat.sub_self,List.replicate_zero,List.append_nil]
   exact k dn (by omega) q3 q4
def edn (l:List Nat) (s k:Nat):Nat:=l.getD k 0 % 2^s
theorem dn_digit {s x y:Nat} (hs:s≤64):(y*2^(64-s) % 18446744073709551616+x / 2^s)*2^s+x % 2^s=x+18446744073709551616*(y % 2^s):=by
 rw [shl_mod y (64-s) (by omega),show 64-(64-s)=s by omega,Nat.add_mul,Nat.mul_assoc,pow64 hs]
 have:=Nat.mod_add_div x (2^s)
 rw [Nat.mul_comm (x / 2^s)]
 omega
theorem dn_digit0 {s x:Nat}:(x / 2^s)*2^s+x % 2^s=x+18446744073709551616*0:=by
 have:=Nat.mod_add_div x (2^s)
 rw [Nat.mul_comm (x / 2^s)]
 omega
theorem dn_step {p D W e0 e e' z x t:Nat} (h:D*t+e0=W+p*e) (h1:z*t+e=x+18446744073709551616*e'):(D+p*z)*t+e0=W+p*x+p*18446744073709551616*e':=by
 have e2:=congrArg (p*·) h1
 simp only [Nat.mul_add,← Nat.mul_assoc] at e2
 rw [Nat.add_mul]; omega
theorem dn_end {D W e0 t:Nat} (h:D*t+e0=W) (he:e0<t):D=W / t:=by
 refine (Nat.div_eq_of_lt_le ?_ ?_).symm
 · omega
 · rw [Nat.add_mul]; omega
theorem getD_ge {l:List Nat} {k:Nat} (h:l.length≤k):l.getD k 0=0:=by
 rw [List.getD_eq_getElem?_getD,List.getElem?_eq_none h]; rfl
theorem down_spec (hP:PrgOk P) (l:List Nat) (n s:Nat) (hd:∀ x ∈ l,x<18446744073709551616) (hn:l.length=n) (hn3:n≤1099511627776) (hs:s≤63):CSpec P 88 [.imm n (List.map (fun d:Nat=>AV.int .u64 (d:Int)) (l)),.int .i64 (s:Int)] (.agg [.opq (.nat (dOf 18446744073709551616 l / 2^s)),.pad]):=by
 have HE:=Sc_ok hP
 refine CSpec_go (E:=⟨T0,Sc⟩) (fn88 hP) HE hP.mix ?_
 simp only [go_sem,hn3]
 refine trX_loop HE hP.mix [3,0] (fun q:Nat × List Nat=>⟨upd (upd (upd (upd (upd (upd (fun _=>.junk) 0 (.imm n (List.map (fun d:Nat=>AV.int .u64 (d:Int)) (l)))) 1 (.int .i64 (s:Int))) 4 (.ref 0 0)) 5 (.sl 3 0 n 1)) 11 (.int .i64 (n:Int))) 12 (.int .i64 (q.1:Int)),upd (upd (fun _=>.unused) 0 (.live [.int .u64 0,.nils])) 3 (.live (List.map (fun d:Nat=>AV.int .u64 (d:Int)) (q.2++List.replicate (n-q.1) 0))),50⟩)
  (fun q=>q.1≤n∧q.2.length=q.1∧(∀ x ∈ q.2,x<18446744073709551616)∧dOf 18446744073709551616 q.2*2^s+edn l s 0=dOf 18446744073709551616 (l.take q.1)+18446744073709551616^q.1*edn l s q.1) (fun q=>n-q.1) (0,[]) 20
  Has.z (Kept.of rfl KT.z KM.z) ⟨by simp,by simp,by simp,by simp [dOf]⟩ 50 (by kernel_rfl) ?_
 rintro ⟨i,dn⟩ ⟨q1,q2,q3,q4⟩
 simp only [] at q1 q2 q3 q4
 by_cases hi:i<n
 · have hil:i<l.length:=by omega
   have hil2:i≤n:=by omega
   have hil3:i≤l.length:=by omega
   have hwi:=wi_add1 i (by omega)
   have hnl:i<dn.length+(n-i):=by omega
   have hget:=rep_get q2 hi
   have hset:∀ x,(dn++List.replicate (n-i) 0).set i x=(dn++[x])++List.replicate (n-(i+1)) 0:=fun x=>rep_set q2 hi
   have hlen:=rep_len q2 hi
   have hsm:min s 64=s:=by omega
   have hnl3:i<dn.length+1+(n-(i+1)):=by omega
   have hdi:=hd _ (getD_mem hil)
   have fin:∀ z,z<18446744073709551616→z*2^s+edn l s i=l.getD i 0+18446744073709551616*edn l s (i+1)→∃ x:Nat × List Nat,x=(i+1,dn++[z])∧(x.1≤n∧x.2.length=x.1∧(∀ y ∈ x.2,y<18446744073709551616)∧dOf 18446744073709551616 x.2*2^s+edn l s 0=dOf 18446744073709551616 (l.take x.1)+18446744073709551616^x.1*edn l s x.1)∧n-x.1<n-i:=fun z hz h1=>by
    refine ⟨_,rfl,⟨by simp only []; omega,by simp only [List.length_append,List.length_singleton]; omega,?_,?_⟩,by simp only []; omega⟩
    · intro x hx
      rcases List.mem_append.1 hx with hx|hx
      · exact q3 x hx
      · rw [List.mem_singleton.1 hx]; exact hz
    · simp only []
      rw [dOf_snoc,q2,dOf_take_succ 18446744073709551616 l i hil,Nat.pow_succ]
      exact dn_step q4 h1
   have hb:l.getD i 0 / 2^s<2^(64-s):=by
    have:=shr_lt (s:=64-s) (by omega) hdi
    rwa [show 64-(64-s)=s by omega] at this
   have hbb:l.getD i 0 / 2^s<18446744073709551616:=Nat.lt_of_le_of_lt (Nat.div_le_self _ _) hdi
   obtain ⟨b,hbe⟩:∃ b,l.getD i 0 / 2^s=b:=⟨_,rfl⟩
   have hset2:∀ x,((dn++[b])++List.replicate (n-(i+1)) 0).set i x=(dn++[x])++List.replicate (n-(i+1)) 0:=fun x=>sn_set q2
   have hget2:((dn++[b])++List.replicate (n-(i+1)) 0).getD i 0=b:=sn_get q2
   have hlen2:i<((dn++[b])++List.replicate (n-(i+1)) 0).length:=sn_len q2
   by_cases h1:i+1<n
   · have h1l:i+1<l.length:=by omega
     have h1n:i+1≤n:=by omega
     have h1m:i+1≤l.length:=by omega
     have hw64:IntKind.i64.wrap (64-(s:Int))=((64-s:Nat):Int):=by rw [IntKind.wrap_i64]; omega
     have hm64:min (64-s) 64=64-s:=by omega
     by_cases hs0:0<s
     · have hshl:=wu_shl (l.getD (i+1) 0) (64-s)
       have hor:=or_dn (x:=l.getD (i+1) 0) (t:=64-s) (by omega) hb
       have hz:=fin (l.getD (i+1) 0*2^(64-s) % 18446744073709551616+l.getD i 0 / 2^s) (or_up_lt (by omega) hb) (dn_digit (by omega))
       rw [hbe] at hor hz
       generalize hcc:l.getD (i+1) 0*2^(64-s) % 18446744073709551616=c at hshl hor hz
       generalize hzz:c+b=z at hor hz
       simp only [go_sem,hi,hil,hil2,hil3,hwi,hnl,hnl3,hset,hset2,hget,hget2,hlen,hlen2,hsm,gU hil,gU' hil,gU hlen,gU hlen2,gU' h1l,h1,h1n,h1l,h1m,hs0,hw64,hm64,hshl,fd_pow,hbe,or_fix,hor,upd_upd,List.any_toArray,Region.binds]
       obtain ⟨x,rfl,hz⟩:=hz
       exact ⟨_,Kept.of rfl KT.z KM.z,hz⟩
     · have hs00:s=0:=by omega
       have hz:=fin b (by omega) (by rw [← hbe]; have:=dn_digit0 (s:=s) (x:=l.getD i 0); unfold edn; rw [hs00] at this ⊢; rw [Nat.pow_zero,Nat.mod_one (l.getD (i+1) 0)]; exact this)
       simp only [go_sem,hi,hil,hil2,hil3,hwi,hnl,hnl3,hset,hget,hlen,hsm,gU hil,gU' hil,gU hlen,h1,hs0,fd_pow,hbe,upd_upd]
       obtain ⟨x,rfl,hz⟩:=hz
       exact ⟨_,Kept.of rfl KT.z KM.z,hz⟩
   · have hz:=fin b (by omega) (by rw [← hbe]; unfold edn; rw [getD_ge (show l.length≤i+1 by omega),Nat.zero_mod]; exact dn_digit0)
     simp only [go_sem,hi,hil,hil2,hil3,hwi,hnl,hnl3,hset,hget,hlen,hsm,gU hil,gU' hil,gU hlen,h1,fd_pow,hbe,upd_upd]
     obtain ⟨x,rfl,hz⟩:=hz
     exact ⟨_,Kept.of rfl KT.z KM.z,hz⟩
 · have hie:i=n:=by omega
   subst hie
   have htk:dn.take i=dn:=List.take_of_length_le (by omega)
   have hsl:i<4611686018427387904:=by omega
   have hz3:(∀ d ∈ dn,d<18446744073709551616)=True:=eq_true q3
   have e1:edn l s i=0:=by unfold edn; rw [getD_ge (by omega),Nat.zero_mod]
   have e2:l.take i=l:=List.take_of_length_le (by omega)
   rw [e1,e2,Nat.mul_zero,Nat.add_zero] at q4
   have:=dn_end q4 (Nat.mod_lt _ (Nat.two_pow_pos s))
   simp only [go_sem,hi,htk,q2,hz3,hsl]
   rw [this]; exact .refl _
noncomputable def downS:List AV→Option (Prop × AV)
 | [.imm n cs,.int .i64 s]=>some (cs=(List.map (fun d:Nat=>AV.int .u64 (d:Int)) (cs.map ud))∧n=cs.length∧(∀ d ∈ cs.map ud,d<18446744073709551616)∧n≤1099511627776∧0≤s∧s.toNat≤63,(.agg [.opq (.nat (dOf 18446744073709551616 (cs.map ud) / 2^s.toNat)),.pad]))
 | _=>none
theorem downS_ok (hP:PrgOk P) (args p r) (h:downS args=some (p,r)) (hp:p):CSpec P 88 args r:=by
 unfold downS at h
 split at h
 · simp only [Option.some.injEq,Prod.mk.injEq] at h
   obtain ⟨rfl,rfl⟩:=h
   exact (by rename_i n cs s; obtain ⟨a1,a2,a3,a4,a5,a6⟩:=hp; have:=down_spec hP (cs.map ud) n s.toNat a3 (by rw [List.length_map]; exact a2.symm) a4 a6; rw [nn a5,← a1] at this; exact this)
 · simp at h
attribute [go_sem] downS
noncomputable def Sd:Nat→List AV→Option (Prop × AV):=addS (addS Sc 85 guessS) 88 downS
theorem Sd_ok (hP:PrgOk P):EnvOk P ⟨T0,Sd⟩:=(((Sc_ok hP).add (guessS_ok hP)).add (downS_ok hP))
theorem Sd_at (f a):Sd f a=(addS (addS Sc 85 guessS) 88 downS) f a:=rfl
attribute [go_sem] Sd_at
theorem up_ic' (hP:PrgOk P) {L:List Nat} {m:Nat→AObj} {K:Nat→AV→(Nat→AObj)→Prop} {r nx0 N:Nat} {d:List Nat} {s n nd:Nat} (hm:GenM L m) (hr:L.contains r=true) (hmr:m r = .unused) (hrn:nx0+1+1=r) (hn3:n≤1099511627776) (hnd:d.length=nd) (hn:nd≤n) (hn1:n≤nd+1) (hd0:d ≠ []) (hd:∀ x ∈ d,x<18446744073709551616) (hs:s≤63)
 (k:∀ (w:List Nat),w.length=n→(∀ d ∈ w,d<18446744073709551616)→dOf 18446744073709551616 w+18446744073709551616^n*cup d s n=dOf 18446744073709551616 d*2^s→K N (.sl r 0 n 1) (upd m r (.live (List.map (fun d:Nat=>AV.int .u64 (d:Int)) (w))))) :
 icX (ICall P) 84 [.imm nd (List.map (fun d:Nat=>AV.int .u64 (d:Int)) (d)),.int .i64 (s:Int),.int .i64 (n:Int)] m (K:=⟨K⟩):=by
 subst hnd
 exact up_ic hP hm hr hmr hrn hn3 hn hn1 hd0 hd hs k
theorem get_pre {pre w tail:List Nat} {off i j:Nat} (hp:pre.length=off) (hi:i<w.length) (hj:j=off+i):(pre++(w++tail)).getD j 0=w.getD i 0:=by
 subst hp; subst hj
 induction pre with
 | nil=>simp only [List.nil_append,List.length_nil,Nat.zero_add,List.getD_eq_getElem?_getD]; rw [List.getElem?_append_left hi]
 | cons a pre ih=>simpa [Nat.add_right_comm] using ih
theorem len_pre {pre w tail:List Nat} {off i j:Nat} (hp:pre.length=off) (hi:i<w.length) (hj:j=off+i):j<(pre++(w++tail)).length:=by simp; omega
theorem dOf_top (l:List Nat) (n:Nat) (h:l.length=n+1):dOf 18446744073709551616 l=dOf 18446744073709551616 (l.take n)+18446744073709551616^n*l.getD n 0:=by
 have e:l.take n++[l.getD n 0]=l:=by
  rw [← take_snoc (by omega)]; exact List.take_of_length_le (by omega)
 conv=>lhs; rw [← e]
 rw [dOf_snoc,List.length_take,Nat.min_eq_left (by omega)]
theorem dOf_low {l:List Nat} {n:Nat} (h:∀ d ∈ l,d<18446744073709551616):dOf 18446744073709551616 (l.take n)<18446744073709551616^n:=by
 have h1:=dOf_lt 18446744073709551616 (l.take n) (fun d hd=>h d (List.mem_of_mem_take hd))
 refine Nat.lt_of_lt_of_le h1 (Nat.pow_le_pow_right (by decide) ?_)
 rw [List.length_take]; omega
theorem take_take_getD {l:List Nat} {n k:Nat} (h:n<k):(l.take k).getD n 0=l.getD n 0:=by
 simp only [List.getD_eq_getElem?_getD]; rw [List.getElem?_take_of_lt h]
theorem dOf_top2 (l:List Nat) (n:Nat) (h:l.length=n+2):dOf 18446744073709551616 l=(l.getD (n+1) 0*18446744073709551616+l.getD n 0)*18446744073709551616^n+dOf 18446744073709551616 (l.take n):=by
 rw [dOf_top l (n+1) h,dOf_top (l.take (n+1)) n (by rw [List.length_take]; omega),List.take_take,Nat.min_eq_left (by omega),take_take_getD (by omega),Nat.pow_succ,Nat.add_mul,Nat.mul_assoc (l.getD (n+1) 0),Nat.mul_comm (l.getD (n+1) 0),Nat.mul_comm (18446744073709551616^n) 18446744073709551616,Nat.mul_comm (l.getD n 0)]
 omega
theorem dOf_top3 (l:List Nat) (n:Nat) (h:l.length=n+3):dOf 18446744073709551616 l=((l.getD (n+2) 0*18446744073709551616+l.getD (n+1) 0)*18446744073709551616+l.getD n 0)*18446744073709551616^n+dOf 18446744073709551616 (l.take n):=by
 rw [dOf_top l (n+2) h,dOf_top2 (l.take (n+2)) n (by rw [List.length_take]; omega),List.take_take,Nat.min_eq_left (by omega),take_take_getD (by omega),take_take_getD (by omega)]
 rw [Nat.add_mul (l.getD (n+2) 0*18446744073709551616),Nat.add_mul _ (l.getD n 0),Nat.add_mul _ (l.getD n 0),Nat.add_mul (l.getD (n+2) 0*18446744073709551616*18446744073709551616)]
 have e:18446744073709551616^(n+2)*l.getD (n+2) 0=l.getD (n+2) 0*18446744073709551616*18446744073709551616*18446744073709551616^n:=by
  rw [Nat.pow_add,Nat.mul_comm,Nat.mul_comm (18446744073709551616^n),Nat.mul_assoc (l.getD (n+2) 0) 18446744073709551616 18446744073709551616,← Nat.mul_assoc]
 rw [e]
 omega
theorem le_of_mul_lt {a b p x y:Nat} (h:a*p+x<b*p+y) (hy:y<p):a≤b:=by
 rcases Nat.lt_or_ge b a with h1|h1
 · have:(b+1)*p≤a*p:=Nat.mul_le_mul_right _ h1
   rw [Nat.add_mul] at this; omega
 · exact h1
theorem long_step {B lo p x hi qs V w d U:Nat} (h:U=lo+p*x+p*B*(hi+qs*V)) (h1:w+d*V=x+B*hi):U=lo+p*(w+(d+B*qs)*V):=by
 rw [h]
 have e:=congrArg (p*·) h1
 simp only [Nat.mul_add,← Nat.mul_assoc] at e
 simp only [Nat.mul_add,Nat.add_mul,← Nat.mul_assoc]
 have e3:p*B*hi=p*B*hi:=rfl
 omega
theorem long_init {B A Bv V U hm s m n:Nat} {lo:Nat} (hB:0<B) (hU:U=A*s) (hV:V=Bv*s) (hA:A<B^(n+1+m)) (hb:B^(n+1)≤Bv) (hs:0<s) (e:U=lo+B^m*hm):hm<V:=by
 have h1:B^(n+1)*s≤V:=by rw [hV]; exact Nat.mul_le_mul_right _ hb
 have h2:B^m*(B^(n+1)*s)≤B^m*V:=Nat.mul_le_mul_left _ h1
 have h3:U<B^(n+1+m)*s:=by rw [hU]; exact Nat.mul_lt_mul_of_pos_right hA hs
 have h4:B^m*(B^(n+1)*s)=B^(n+1+m)*s:=by rw [← Nat.mul_assoc,← Nat.pow_add,Nat.add_comm m]
 have h5:B^m*hm<B^m*V:=by omega
 exact Nat.lt_of_mul_lt_mul_left h5
theorem long_end {A Bv V U hi qs s:Nat} (hU:U=A*s) (hV:V=Bv*s) (hs:0<s) (h:U=hi+qs*V) (hh:hi<V):qs=A / Bv∧hi / s=A % Bv:=by
 have h1:U / V=qs:=by rw [h,Nat.mul_comm,Nat.add_mul_div_left _ _ (by omega),Nat.div_eq_of_lt hh,Nat.zero_add]
 have h2:U % V=hi:=by rw [h,Nat.mul_comm,Nat.add_mul_mod_self_left,Nat.mod_eq_of_lt hh]
 rw [hU,hV,Nat.mul_div_mul_right _ _ hs] at h1
 rw [hU,hV,Nat.mul_mod_mul_right] at h2
 exact ⟨h1.symm,by rw [← h2,Nat.mul_div_cancel _ hs]⟩
theorem pv_lt {B x h V:Nat} (h1:x<B) (h2:h<V):x+B*h<B*V:=by
 have h3:B*(h+1)≤B*V:=Nat.mul_le_mul_left _ h2
 rw [Nat.mul_add] at h3; omega
theorem ge_B {B x y:Nat} (h:0<x):B≤x*B+y:=by
 have:=Nat.mul_le_mul_right B h
 rw [Nat.succ_mul,Nat.zero_mul] at this; omega
theorem dOf_zero {l:List Nat} (h:∀ d ∈ l,d=0):dOf 18446744073709551616 l=0:=by
 induction l with
 | nil=>rfl
 | cons a l ih=>simp only [dOf]; rw [h a (by simp),ih (fun d hd=>h d (by simp [hd]))]
theorem away_pos {w V d P Bn b:Nat} (h:w+V*d=P+Bn*b) (hb:b≤1) (hne:b ≠ 0) (hw:w<Bn):b=1∧∃ d',d=d'+1:=by
 have:b=1:=by omega
 subst this
 refine ⟨rfl,?_⟩
 cases d with
 | zero=>rw [Nat.mul_zero] at h; omega
 | succ d=>exact ⟨d,rfl⟩
theorem long_spec (hP:PrgOk P) (a b:List Nat) (ha:∀ d ∈ a,d<18446744073709551616) (hb:∀ d ∈ b,d<18446744073709551616) (hb2:2≤b.length) (hab:b.length≤a.length) (hal:a.length+1≤1099511627776) (htop:b.getD (b.length-1) 0 ≠ 0):CSpec P 77 [.imm a.length (List.map (fun d:Nat=>AV.int .u64 (d:Int)) (a)),.imm b.length (List.map (fun d:Nat=>AV.int .u64 (d:Int)) (b))] (.tup [(.agg [.opq (.nat (dOf 18446744073709551616 a / dOf 18446744073709551616 b)),.pad]),(.agg [.opq (.nat (dOf 18446744073709551616 a % dOf 18446744073709551616 b)),.pad])]):=by
 have HE:=Sd_ok hP
 refine CSpec_go (E:=⟨T0,Sd⟩) (fn77 hP) HE hP.mix ?_
 obtain ⟨n,hn⟩:∃ n,b.length=n+2:=⟨b.length-2,by omega⟩
 have hn1:n+1<b.length:=by omega
 have hn2:n+1<n+2:=by omega
 have hn3:n+1≤b.length:=by omega
 have hn4:n+1≤n+2:=by omega
 have hwn:=wi_nat (n+1) (by omega)
 have htd:=hb _ (getD_mem hn1)
 rw [hn,show n+2-1=n+1 by omega] at htop
 obtain ⟨s,hs⟩:∃ s,64-blen (b.getD (n+1) 0)=s:=⟨_,rfl⟩
 have hb0:¬ blen (b.getD (n+1) 0)≤0:=by rw [Nat.le_zero,blen_zero_iff]; exact htop
 have hb64:blen (b.getD (n+1) 0)≤64:=(blen_le_iff _ 64).2 htd
 have hs63:s≤63:=by omega
 rw [hn]
 simp only [go_sem,hn1,hn2,hn3,hn4,hwn,gU' hn1,htd,hs]
 obtain ⟨m,hm,hm1⟩:∃ m,a.length=n+1+m∧0<m:=⟨a.length-(n+1),by omega,by omega⟩
 have hla:=wi_add1 a.length (by omega)
 have hbn:0<b.length:=by omega
 refine up_ic' hP (L:=[67,42,18,1,0]) (r:=18) (nx0:=16) (N:=30) (by repeat (first|exact GenM.nil|refine GenM.upd ?_ rfl (by first|rfl|exact objOnly_U))) rfl rfl rfl (by omega) hn (by omega) (by omega) (by intro e; rw [e] at hbn; simp at hbn) hb hs63 ?_
 intro v hv1 hv2 hv3
 simp only [go_sem,hla]
 have hal1:a.length+1≤1099511627776:=hal
 refine up_ic' hP (L:=[67,42,18,1,0]) (r:=42) (nx0:=40) (N:=60) (by repeat (first|exact GenM.nil|refine GenM.upd ?_ rfl (by first|rfl|exact objOnly_U))) rfl rfl rfl hal rfl (Nat.le_succ _) (Nat.le_refl _) (by intro e; rw [e] at hm; simp at hm; omega) ha hs63 ?_
 intro u hu1 hu2 hu3
 have hcv:cup b s (n+2)=0:=by
  unfold cup; rw [if_neg (by omega),show n+2-1=n+1 by omega]
  refine Nat.div_eq_of_lt ?_
  have:=blen_lt (b.getD (n+1) 0)
  rwa [show blen (b.getD (n+1) 0)=64-s by omega] at this
 have hcu:cup a s (a.length+1)=0:=by
  unfold cup; rw [if_neg (by omega),Nat.add_sub_cancel,getD_ge (Nat.le_refl _),Nat.zero_div]
 rw [hcv,Nat.mul_zero,Nat.add_zero] at hv3
 rw [hcu,Nat.mul_zero,Nat.add_zero] at hu3
 have hwm:IntKind.i64.wrap (((a.length+1:Nat):Int)-((n+2:Nat):Int))=(m:Int):=by rw [IntKind.wrap_i64]; omega
 have hwp:=wi_pred' m (by omega)
 have hml:m≤1099511627776:=by omega
 have hbge:18446744073709551616^(n+1)≤dOf 18446744073709551616 b:=by
  rw [dOf_top b (n+1) hn]
  have:18446744073709551616^(n+1)*1≤18446744073709551616^(n+1)*b.getD (n+1) 0:=Nat.mul_le_mul_left _ (by omega)
  omega
 have hvt:0<v.getD (n+1) 0:=by
  rcases Nat.eq_zero_or_pos (v.getD (n+1) 0) with h|h
  · have h1:=dOf_top v (n+1) hv1
    rw [h,Nat.mul_zero,Nat.add_zero,hv3] at h1
    have h2:=dOf_low (n:=n+1) hv2
    have h3:dOf 18446744073709551616 b*1≤dOf 18446744073709551616 b*2^s:=Nat.mul_le_mul_left _ (Nat.two_pow_pos s)
    omega
  · exact h
 have hv0:0<dOf 18446744073709551616 v:=by
  rw [hv3]; exact Nat.mul_pos (Nat.lt_of_lt_of_le (Nat.pow_pos (by decide)) hbge) (Nat.two_pow_pos s)
 have hum:(u.take m).length=m:=by rw [List.length_take]; omega
 have hus:dOf 18446744073709551616 u=dOf 18446744073709551616 (u.take m)+18446744073709551616^m*dOf 18446744073709551616 (u.drop m):=by
  conv=>lhs; rw [← List.take_append_drop m u]
  rw [dOf_append,hum]
 have hA:dOf 18446744073709551616 a<18446744073709551616^(n+1+m):=by rw [← hm]; exact dOf_lt 18446744073709551616 a ha
 have hinit:=long_init (B:=18446744073709551616) (by decide) hu3 hv3 hA hbge (Nat.two_pow_pos s) hus
 clear hcv hcu hA
 simp only [go_sem,hwm,hwp,hml]
 refine trX_loop HE hP.mix [67,42,18,1,0] (fun q:Nat × List Nat × List Nat × List Nat=>⟨upd (upd (upd (upd (upd (upd (upd (upd (fun _=>.junk) 4 (.ref 0 0)) 5 (.ref 1 0)) 6 (.int .i64 ((n+2:Nat):Int))) 7 (.int .i64 (s:Int))) 8 (.sl 18 0 (n+2) 1)) 9 (.sl 42 0 (a.length+1) 1)) 11 (.sl 67 0 m 1)) 12 (.int .i64 ((q.1:Int)-1)),upd (upd (upd (upd (upd (fun _=>.unused) 0 (.live [.int .u64 0,.nils])) 1 (.live [.int .u64 0,.nils])) 18 (.live (List.map (fun d:Nat=>AV.int .u64 (d:Int)) (v)))) 42 (.live (List.map (fun d:Nat=>AV.int .u64 (d:Int)) (u.take q.1++(q.2.1++q.2.2.1))))) 67 (.live (List.map (fun d:Nat=>AV.int .u64 (d:Int)) (List.replicate q.1 0++q.2.2.2))),100⟩)
  (fun q=>q.1≤m∧q.2.1.length=n+2∧(∀ d ∈ q.2.1,d<18446744073709551616)∧(∀ d ∈ q.2.2.1,d=0)∧q.2.2.1.length+q.1=m∧q.2.2.2.length+q.1=m∧(∀ d ∈ q.2.2.2,d<18446744073709551616)∧dOf 18446744073709551616 q.2.1<dOf 18446744073709551616 v∧dOf 18446744073709551616 u=dOf 18446744073709551616 (u.take q.1)+18446744073709551616^q.1*(dOf 18446744073709551616 q.2.1+dOf 18446744073709551616 q.2.2.2*dOf 18446744073709551616 v)) (fun q=>q.1) (m,u.drop m,[],[]) 80
  Has.z (Kept.of rfl KT.z (by
   have e1:u.take m++(u.drop m++[])=u:=by rw [List.append_nil,List.take_append_drop]
   have e2:List.replicate m 0++([]:List Nat)=List.replicate m 0:=List.append_nil _
   simp only []; rw [e1,e2]; exact KM.z)) ⟨by simp,by simp; omega,fun d hd=>hu2 d (List.mem_of_mem_drop hd),by simp,by simp,by simp,by simp,hinit,by simp only [dOf,Nat.zero_mul,Nat.add_zero]; exact hus⟩ 100 (by kernel_rfl) ?_
 rintro ⟨k',hi,tail,qs⟩ ⟨q1,q2,q3,q4,q5,q6,q7,q8,q9⟩
 simp only [] at q1 q2 q3 q4 q5 q6 q7 q8 q9
 cases k' with
 | zero =>
   have h0:((0:Int)≤((0:Nat):Int)-1)=False:=by simp
   have e1:qs.take m=qs:=List.take_of_length_le (by omega)
   have e2:(hi++tail).take (a.length+1)=hi++tail:=List.take_of_length_le (by rw [List.length_append]; omega)
   have e3:∀ d ∈ hi++tail,d<18446744073709551616:=fun d hd=>by
    rcases List.mem_append.1 hd with hd|hd
    · exact q3 d hd
    · rw [q4 d hd]; decide
   obtain ⟨f1,f2⟩:=long_end hu3 hv3 (Nat.two_pow_pos s) (by simpa [dOf] using q9) q8
   simp only [go_sem,h0,e1,e2]
   refine ⟨⟨⟨by omega,q7,by omega⟩,by omega⟩,⟨⟨by omega,e3,by omega,hs63⟩,by omega⟩,?_⟩
   rw [dOf_append,dOf_zero q4,Nat.mul_zero,Nat.add_zero,f1,f2]
   exact .refl _
 | succ j =>
   have hju:j<u.length:=by omega
   have hpl:(u.take j).length=j:=by rw [List.length_take]; omega
   obtain ⟨w,hw⟩:∃ w,u.getD j 0::hi=w:=⟨_,rfl⟩
   have hZ:u.take (j+1)++(hi++tail)=u.take j++(w++tail):=by rw [take_snoc hju,← hw]; simp
   have hwl:w.length=n+2+1:=by rw [← hw]; simp [q2]
   have hwd:∀ d ∈ w,d<18446744073709551616:=fun d hd=>by
    rw [← hw] at hd
    rcases List.mem_cons.1 hd with rfl|hd
    · exact hu2 _ (getD_mem hju)
    · exact q3 d hd
   have hwP:dOf 18446744073709551616 w=u.getD j 0+18446744073709551616*dOf 18446744073709551616 hi:=by rw [← hw]; rfl
   have c1:IntKind.i64.wrap ((j:Int)+((n+2:Nat):Int))=((j+(n+2):Nat):Int):=wi_add _ _ (by omega)
   have c2:=wi_add1 (j+(n+2)) (by omega)
   have c3:=wi_nat (n+1) (by omega)
   have c4:IntKind.i64.wrap (((n+2:Nat):Int)-2)=((n:Nat):Int):=by rw [IntKind.wrap_i64]; omega
   have c5:(((j+(n+2)+1:Nat):Int)-(j:Int)).toNat=n+2+1:=by omega
   have g2:=get_pre (tail:=tail) hpl (show n+2<w.length by omega) rfl
   have g1:=get_pre (tail:=tail) hpl (show n+1<w.length by omega) rfl
   have g0:=get_pre (tail:=tail) hpl (show n<w.length by omega) rfl
   have l2:=len_pre (tail:=tail) hpl (show n+2<w.length by omega) rfl
   have l1:=len_pre (tail:=tail) hpl (show n+1<w.length by omega) rfl
   have l0:=len_pre (tail:=tail) hpl (show n<w.length by omega) rfl
   have v1:n+1<v.length:=by omega
   have v0:n<v.length:=by omega
   have x1:j+(n+2)+1≤a.length+1:=by omega
   rw [hZ]
   simp only [go_sem,c1,c2,c3,c4,c5,g2,g1,g0,gU l2,gU l1,gU l0,gU v1,gU v0,x1]
   have hP2:=dOf_top2 hi n q2
   have hV2:=dOf_top2 v n hv1
   have hP3:=dOf_top3 w n hwl
   have lowV:=dOf_low (n:=n) hv2
   have lowP:=dOf_low (n:=n) hwd
   have lowH:=dOf_low (n:=n) q3
   have ew2:w.getD (n+2) 0=hi.getD (n+1) 0:=by rw [← hw]; rfl
   have ew1:w.getD (n+1) 0=hi.getD n 0:=by rw [← hw]; rfl
   have hle:w.getD (n+2) 0*18446744073709551616+w.getD (n+1) 0≤v.getD (n+1) 0*18446744073709551616+v.getD n 0:=by
    rw [ew2,ew1]
    rw [hP2,hV2] at q8
    exact le_of_mul_lt q8 lowV
   have hPV:dOf 18446744073709551616 w<18446744073709551616*dOf 18446744073709551616 v:=by
    rw [hwP]; exact pv_lt (hu2 _ (getD_mem hju)) q8
   have hvB:=ge_B (B:=18446744073709551616) (y:=v.getD n 0) hvt
   obtain ⟨d1,d2,d3⟩:=gdig_good hV2 lowV hP3 lowP hvB (by decide) hPV (gdig_eq (w.getD (n+2) 0) (w.getD (n+1) 0) (w.getD n 0) (v.getD (n+1) 0) (v.getD n 0))
   have hgc:guessC (w.getD (n+2) 0) (w.getD (n+1) 0) (w.getD n 0) (v.getD (n+1) 0) (v.getD n 0) :=
    ⟨hwd _ (getD_mem (by omega)),hwd _ (getD_mem (by omega)),hwd _ (getD_mem (by omega)),hv2 _ (getD_mem (by omega)),hv2 _ (getD_mem (by omega)),hle,hvt⟩
   refine ⟨⟨.inr (by omega),by omega⟩,by omega,by rw [hpl]; omega,by omega,by rw [hpl]; omega,by omega,by rw [hpl]; omega,by omega,by omega,by omega,by omega,hgc,?_⟩
   clear hgc g2 g1 g0 l2 l1 l0 hP2 hV2 hP3 lowV lowP lowH ew2 ew1 hle hPV hvB
   generalize gdig (w.getD (n+2) 0) (w.getD (n+1) 0) (w.getD n 0) (v.getD (n+1) 0) (v.getD n 0)=d at *
   have hVn:dOf 18446744073709551616 v<18446744073709551616^(n+2+1):=by
    have h1:=dOf_lt 18446744073709551616 v hv2
    rw [hv1] at h1
    exact Nat.lt_of_lt_of_le h1 (Nat.pow_le_pow_right (by decide) (by omega))
   have hrep:∀ x,(List.replicate (j+1) 0++qs).set j x=List.replicate j 0++(x::qs):=fun x=>by
    rw [List.replicate_succ',List.append_assoc]; exact set_app (List.length_replicate)
   have hjl:j<j+1+qs.length:=by omega
   have hjq:j<(List.replicate (j+1) 0++qs).length:=by simp; omega
   have hjm:j<m:=by omega
   have hwj:=wi_pred' j (by omega)
   have fin:∀ (w2:List Nat) (d':Nat),w2.length=n+2+1→(∀ d ∈ w2,d<18446744073709551616)→d'<18446744073709551616→dOf 18446744073709551616 w2<dOf 18446744073709551616 v→dOf 18446744073709551616 w2+d'*dOf 18446744073709551616 v=dOf 18446744073709551616 w→∀ St',Kept [67,42,18,1,0] St' ⟨upd (upd (upd (upd (upd (upd (upd (upd (fun _=>.junk) 4 (.ref 0 0)) 5 (.ref 1 0)) 6 (.int .i64 ((n+2:Nat):Int))) 7 (.int .i64 (s:Int))) 8 (.sl 18 0 (n+2) 1)) 9 (.sl 42 0 (a.length+1) 1)) 11 (.sl 67 0 m 1)) 12 (.int .i64 ((j:Int)-1)),upd (upd (upd (upd (upd (fun _=>.unused) 0 (.live [.int .u64 0,.nils])) 1 (.live [.int .u64 0,.nils])) 18 (.live (List.map (fun d:Nat=>AV.int .u64 (d:Int)) (v)))) 42 (.live (List.map (fun d:Nat=>AV.int .u64 (d:Int)) (u.take j++(w2++tail))))) 67 (.live (List.map (fun d:Nat=>AV.int .u64 (d:Int)) (List.replicate j 0++(d'::qs)))),100⟩ →
    ∃ q:Nat × List Nat × List Nat × List Nat,Kept [67,42,18,1,0] St' ⟨upd (upd (upd (upd (upd (upd (upd (upd (fun _=>.junk) 4 (.ref 0 0)) 5 (.ref 1 0)) 6 (.int .i64 ((n+2:Nat):Int))) 7 (.int .i64 (s:Int))) 8 (.sl 18 0 (n+2) 1)) 9 (.sl 42 0 (a.length+1) 1)) 11 (.sl 67 0 m 1)) 12 (.int .i64 ((q.1:Int)-1)),upd (upd (upd (upd (upd (fun _=>.unused) 0 (.live [.int .u64 0,.nils])) 1 (.live [.int .u64 0,.nils])) 18 (.live (List.map (fun d:Nat=>AV.int .u64 (d:Int)) (v)))) 42 (.live (List.map (fun d:Nat=>AV.int .u64 (d:Int)) (u.take q.1++(q.2.1++q.2.2.1))))) 67 (.live (List.map (fun d:Nat=>AV.int .u64 (d:Int)) (List.replicate q.1 0++q.2.2.2))),100⟩∧(q.1≤m∧q.2.1.length=n+2∧(∀ d ∈ q.2.1,d<18446744073709551616)∧(∀ d ∈ q.2.2.1,d=0)∧q.2.2.1.length+q.1=m∧q.2.2.2.length+q.1=m∧(∀ d ∈ q.2.2.2,d<18446744073709551616)∧dOf 18446744073709551616 q.2.1<dOf 18446744073709551616 v∧dOf 18446744073709551616 u=dOf 18446744073709551616 (u.take q.1)+18446744073709551616^q.1*(dOf 18446744073709551616 q.2.1+dOf 18446744073709551616 q.2.2.2*dOf 18446744073709551616 v))∧q.1<j+1:=by
    intro w2 d' k1 k2 k3 k4 k5 St' hk
    have z1:=dOf_top w2 (n+2) k1
    have z2:w2.getD (n+2) 0=0:=by
     rcases Nat.eq_zero_or_pos (w2.getD (n+2) 0) with h|h
     · exact h
     · have h1:18446744073709551616^(n+2)*1≤18446744073709551616^(n+2)*w2.getD (n+2) 0:=Nat.mul_le_mul_left _ h
       have h2:=dOf_lt 18446744073709551616 v hv2
       rw [hv1] at h2; omega
    rw [z2,Nat.mul_zero,Nat.add_zero] at z1
    have z3:w2=w2.take (n+2)++[0]:=by
     conv=>lhs; rw [← List.take_of_length_le (Nat.le_of_eq k1),take_snoc (by omega),z2]
    refine ⟨(j,w2.take (n+2),0::tail,d'::qs),?_,⟨by simp only []; omega,by simp only [List.length_take]; omega,fun d hd=>k2 d (List.mem_of_mem_take hd),?_,by simp only [List.length_cons]; omega,by simp only [List.length_cons]; omega,?_,by simp only []; rw [← z1]; exact k4,?_⟩,by simp only []; omega⟩
    · have e:w2++tail=w2.take (n+2)++(0::tail):=by
       conv=>lhs; rw [z3]
       rw [List.append_assoc]; rfl
      rw [e] at hk; exact hk
    · intro d hd
      rcases List.mem_cons.1 hd with rfl|hd
      · rfl
      · exact q4 d hd
    · intro d hd
      rcases List.mem_cons.1 hd with rfl|hd
      · exact k3
      · exact q7 d hd
    · simp only []
      rw [dOf_take_succ 18446744073709551616 u j hju,Nat.pow_succ] at q9
      rw [hwP] at k5
      rw [← z1]
      have:=long_step q9 k5
      simp only [dOf]; exact this
   refine away_ic hP (L:=[67,42,18,1,0]) (by repeat (first|exact GenM.nil|refine GenM.upd ?_ rfl (by first|rfl|exact objOnly_U))) rfl rfl rfl rfl rfl hpl hwl hv1 (by omega) hwd hv2 d1 ?_
   intro nx w1 b1 r1 r2 r3 r4
   have hw1n:dOf 18446744073709551616 w1<18446744073709551616^(n+2+1):=by have:=dOf_lt 18446744073709551616 w1 r2; rwa [r1] at this
   simp only [go_sem]
   refine if_split (fun hc=>?_) (fun hc=>?_)
   · have hc:b1 ≠ 0:=by simpa using hc
     obtain ⟨hb1,d',rfl⟩:=away_pos r4 r3 hc hw1n
     have hu:=u_nat d' (by omega)
     simp only [go_sem,hu]
     refine back_ic hP (L:=[67,42,18,1,0]) (by repeat (first|exact GenM.nil|refine GenM.upd ?_ rfl (by first|rfl|exact objOnly_U))) rfl rfl rfl rfl rfl hpl r1 hv1 (by omega) r2 hv2 ?_
     intro nx2 w2 c2' t1 t2 t3 t4
     have hw2n:dOf 18446744073709551616 w2<18446744073709551616^(n+2+1):=by have:=dOf_lt 18446744073709551616 w2 t2; rwa [t1] at this
     obtain ⟨d'',hd'',s8,s9⟩:=away_much r4 hb1 hw1n d2 t3 t4 hVn hw2n
     obtain rfl:d'=d'':=by omega
     simp only [go_sem,hrep,hjl,hjm,hwj,gU hjq]
     refine fin w2 d' t1 t2 (by omega) s8 s9 _ ?_
     exact Kept.of rfl KT.z KM.z
   · have hc:b1=0:=by simpa using hc
     obtain ⟨s8,s9⟩:=away_none r4 hc d3
     simp only [go_sem,hrep,hjl,hjm,hwj,gU hjq]
     refine fin w1 d r1 r2 d1 s8 s9 _ ?_
     exact Kept.of rfl KT.z KM.z
def longC (n m:Nat) (a b:List Nat):Prop:=n=a.length∧m=b.length∧(∀ d ∈ a,d<18446744073709551616)∧(∀ d ∈ b,d<18446744073709551616)∧2≤b.length∧b.length≤a.length∧a.length+1≤1099511627776∧b.getD (b.length-1) 0 ≠ 0
noncomputable def longS:List AV→Option (Prop × AV)
 | [.imm n xs,.imm m ys]=>some ((xs=(List.map (fun d:Nat=>AV.int .u64 (d:Int)) (xs.map ud))∧ys=(List.map (fun d:Nat=>AV.int .u64 (d:Int)) (ys.map ud)))∧longC n m (xs.map ud) (ys.map ud),.tup [(.agg [.opq (.nat (dOf 18446744073709551616 (xs.map ud) / dOf 18446744073709551616 (ys.map ud))),.pad]),(.agg [.opq (.nat (dOf 18446744073709551616 (xs.map ud) % dOf 18446744073709551616 (ys.map ud))),.pad])])
 | _=>none
theorem longS_ok (hP:PrgOk P) (args p r) (h:longS args=some (p,r)) (hp:p):CSpec P 77 args r:=by
 unfold longS at h
 split at h
 · simp only [Option.some.injEq,Prod.mk.injEq] at h
   obtain ⟨rfl,rfl⟩:=h
   exact (by rename_i n xs m ys; obtain ⟨⟨a1,a2⟩,b1,b2,b3,b4,b5,b6,b7,b8⟩:=hp; have:=long_spec hP _ _ b3 b4 b5 b6 b7 b8; rw [← a1,← a2,← b1,← b2] at this; exact this)
 · simp at h
attribute [go_sem] longS
noncomputable def Se:Nat→List AV→Option (Prop × AV):=addS Sd 77 longS
theorem Se_ok (hP:PrgOk P):EnvOk P ⟨T0,Se⟩:=((Sd_ok hP).add (longS_ok hP))
theorem Se_at (f a):Se f a=(addS Sd 77 longS) f a:=rfl
attribute [go_sem] Se_at
theorem Div_zero (hP:PrgOk P) (a:Nat):CSpec P 63 [(.agg [.opq (.nat (a)),.pad]),(.agg [.opq (.nat (0)),.pad])] (.tup [(.agg [.opq (.nat (0)),.pad]),(.agg [.opq (.nat (0)),.pad]),.int .i64 11]):=by
 have HE:=Se_ok hP
 have hb:blen 0≤68719476736:=by decide
 have hb2:blen 0=0:=by decide
 have e0:natC 0=[.int .u64 0,.nils]:=natC_small (by decide)
 have e:CvL [.agg [.int .u64 0,.nils],.agg [.int .u64 0,.nils],.int .i64 11] [(.agg [.opq (.nat (0)),.pad]),(.agg [.opq (.nat (0)),.pad]),.int .i64 11]:=by
  have:=CvL.natOut 0 (CvL.natOut 0 (CvL.refl [.int .i64 11]))
  rwa [e0] at this
 refine CSpec_go (E:=⟨T0,Se⟩) (fn63 hP) HE hP.mix ?_
 simp only [go_sem,hb,hb2]
 exact CvL.conv (CvL.tup e .nil)
theorem Div_less (hP:PrgOk P) (a b:Nat) (ha:blen a≤68719476736) (hb:blen b≤68719476736) (h:a<b):CSpec P 63 [(.agg [.opq (.nat (a)),.pad]),(.agg [.opq (.nat (b)),.pad])] (.tup [(.agg [.opq (.nat (0)),.pad]),(.agg [.opq (.nat (a)),.pad]),.int .i64 0]):=by
 have HE:=Se_ok hP
 have hb2:(blen b == 0)=false:=by
  have:blen b ≠ 0:=by rw [Ne,blen_zero_iff]; omega
  simpa using this
 have hc:decide (cmpI a b<0)=true:=by rw [cmpI_lt h]; rfl
 have e0:natC 0=[.int .u64 0,.nils]:=natC_small (by decide)
 have e:CvL [.agg [.int .u64 0,.nils],(.agg [.opq (.nat (a)),.pad]),.int .i64 0] [(.agg [.opq (.nat (0)),.pad]),(.agg [.opq (.nat (a)),.pad]),.int .i64 0]:=by
  have:=CvL.natOut 0 (CvL.refl [(.agg [.opq (.nat (a)),.pad]),.int .i64 0])
  rwa [e0] at this
 refine CSpec_go (E:=⟨T0,Se⟩) (fn63 hP) HE hP.mix ?_
 simp only [go_sem,ha,hb,hb2,hc]
 exact CvL.conv (CvL.tup e .nil)
theorem cmp_ge {a b:Nat} (h:b≤a):decide (cmpI a b<0)=false:=by
 rcases Nat.lt_or_ge b a with h'|h'
 · rw [cmpI_gt h']; rfl
 · rw [Nat.le_antisymm h h',cmpI_eq]; rfl
theorem divmod_of {W A y c:Nat} (h:W*y+c=A) (hc:c<y):W=A / y∧c=A % y:=by
 have h1:A / y=W:=by rw [← h,Nat.mul_comm,Nat.mul_add_div (by omega),Nat.div_eq_of_lt hc,Nat.add_zero]
 have h2:A % y=c:=by rw [← h,Nat.mul_comm,Nat.mul_add_mod,Nat.mod_eq_of_lt hc]
 exact ⟨h1.symm,h2.symm⟩
theorem Div_pos (hP:PrgOk P) (a b:Nat) (ha:blen a≤68719476736) (hb:blen b≤68719476736) (h0:0<b) (h:b≤a):CSpec P 63 [(.agg [.opq (.nat (a)),.pad]),(.agg [.opq (.nat (b)),.pad])] (.tup [(.agg [.opq (.nat (a / b)),.pad]),(.agg [.opq (.nat (a % b)),.pad]),.int .i64 0]):=by
 have HE:=Se_ok hP
 have hb2:(blen b == 0)=false:=by
  have:blen b ≠ 0:=by rw [Ne,blen_zero_iff]; omega
  simpa using this
 have hc:=cmp_ge h
 refine CSpec.cv ?_ (CvL.natIn a (CvL.natIn b .nil))
 by_cases hb1:b<18446744073709551616
 · by_cases ha1:a<18446744073709551616
   · rw [natC_small ha1,natC_small hb1]
     have hq:=wu_div a b ha1
     have hr:=u_mod a b
     have hqb:a / b<18446744073709551616:=Nat.lt_of_le_of_lt (Nat.div_le_self _ _) ha1
     have hrb:a % b<18446744073709551616:=Nat.lt_of_le_of_lt (Nat.mod_le _ _) ha1
     have e:CvL [.agg [.int .u64 ((a / b:Nat):Int),.nils],.agg [.int .u64 ((a % b:Nat):Int),.nils],.int .i64 0] [(.agg [.opq (.nat (a / b)),.pad]),(.agg [.opq (.nat (a % b)),.pad]),.int .i64 0]:=by
      have:=CvL.natOut (a / b) (CvL.natOut (a % b) (CvL.refl [.int .i64 0]))
      rwa [natC_small hqb,natC_small hrb] at this
     refine CSpec_go (E:=⟨T0,Se⟩) (fn63 hP) HE hP.mix ?_
     simp only [go_sem,ha,hb,ha1,hb1,hb2,hc,hq,hr]
     exact ⟨by omega,by omega,CvL.conv (CvL.tup e .nil)⟩
   · rw [natC_great ha1,natC_small hb1]
     have hxd:∀ d ∈ digs 18446744073709551616 a,d<18446744073709551616:=digs_lt 18446744073709551616 a (by decide)
     have hx:=dOf_digs 18446744073709551616 a (by decide)
     have hlx:=digs_len_blen a
     have hl:=digs_length_gt 18446744073709551616 a 1 (by decide) (by omega)
     have hl2:2≤(digs 18446744073709551616 a).length:=by omega
     have hl3:((digs 18446744073709551616 a).length ≠ 0)=True:=eq_true (by omega)
     refine CSpec_go (E:=⟨T0,Se⟩) (fn63 hP) HE hP.mix ?_
     simp only [go_sem,ha,hb,hb1,hb2,hc,hl2,hl3]
     generalize digs 18446744073709551616 a=x at *
     refine ⟨⟨fun _=>by omega,by omega⟩,?_⟩
     refine short_ic hP (L:=[24,3,2,1,0]) (tail:=[]) (w:=x) (by repeat (first|exact GenM.nil|refine GenM.upd ?_ rfl (by first|rfl|exact objOnly_U|(simp only [go_sem,objOnly]; done)))) rfl (by rw [List.append_nil]; rfl) rfl (by omega) hxd hb1 h0 ?_
     intro nx w' c w1 w2 w3 w4
     have hwt:w'.take x.length=w':=List.take_of_length_le (by omega)
     have hz3:(∀ d ∈ w',d<18446744073709551616)=True:=eq_true w2
     have hsl:x.length<4611686018427387904:=by omega
     rw [List.append_nil]
     simp only [go_sem,hwt,hz3,w1,hsl]
     have hdm:=divmod_of w4 w3
     rw [hx] at hdm
     have e:CvL [(.agg [.opq (.nat (dOf 18446744073709551616 w')),.pad]),.agg [.int .u64 ((c:Nat):Int),.nils],.int .i64 0] [(.agg [.opq (.nat (a / b)),.pad]),(.agg [.opq (.nat (a % b)),.pad]),.int .i64 0]:=by
      have:=CvL.natOut c (CvL.refl [.int .i64 0])
      rw [natC_small (show c<18446744073709551616 by omega)] at this
      rw [← hdm.2,hdm.1]
      exact CvL.agg (.refl _) this
     exact CvL.conv (CvL.tup e .nil)
 · have ha1:¬ a<18446744073709551616:=by omega
   rw [natC_great ha1,natC_great hb1]
   have hxd:∀ d ∈ digs 18446744073709551616 a,d<18446744073709551616:=digs_lt 18446744073709551616 a (by decide)
   have hyd:∀ d ∈ digs 18446744073709551616 b,d<18446744073709551616:=digs_lt 18446744073709551616 b (by decide)
   have hx:=dOf_digs 18446744073709551616 a (by decide)
   have hy:=dOf_digs 18446744073709551616 b (by decide)
   have hlx:=digs_len_blen a
   have hl:=digs_length_gt 18446744073709551616 a 1 (by decide) (by omega)
   have hm:=digs_length_gt 18446744073709551616 b 1 (by decide) (by omega)
   have hl2:2≤(digs 18446744073709551616 a).length:=by omega
   have hl3:((digs 18446744073709551616 a).length ≠ 0)=True:=eq_true (by omega)
   have hm2:2≤(digs 18446744073709551616 b).length:=by omega
   have hm3:((digs 18446744073709551616 b).length ≠ 0)=True:=eq_true (by omega)
   have hle:(digs 18446744073709551616 b).length≤(digs 18446744073709551616 a).length:=by
    rcases Nat.lt_or_ge (digs 18446744073709551616 a).length (digs 18446744073709551616 b).length with h'|h'
    · have:=digs_len_lt 18446744073709551616 a b (by decide) h'; omega
    · exact h'
   have htop:=canon_last (digs_canon 18446744073709551616 b (by decide)) (by omega)
   refine CSpec_go (E:=⟨T0,Se⟩) (fn63 hP) HE hP.mix ?_
   simp only [go_sem,ha,hb,hb2,hc,hl2,hl3,hm2,hm3]
   refine ⟨⟨rfl,rfl,hxd,hyd,hm2,hle,by omega,htop⟩,?_⟩
   exact .refl _
theorem Div_spec (hP:PrgOk P) (a b:Nat) (ha:blen a≤68719476736) (hb:blen b≤68719476736) (h0:0<b):CSpec P 63 [(.agg [.opq (.nat (a)),.pad]),(.agg [.opq (.nat (b)),.pad])] (.tup [(.agg [.opq (.nat (a / b)),.pad]),(.agg [.opq (.nat (a % b)),.pad]),.int .i64 0]):=by
 rcases Nat.lt_or_ge a b with h|h
 · rw [Nat.div_eq_of_lt h,Nat.mod_eq_of_lt h]; exact Div_less hP a b ha hb h
 · exact Div_pos hP a b ha hb h0 h
def DivS:List AV→Option (Prop × AV):=on2 fun a b=>(blen a≤68719476736∧blen b≤68719476736,if b=0 then .tup [(.agg [.opq (.nat (0)),.pad]),(.agg [.opq (.nat (0)),.pad]),.int .i64 11] else .tup [(.agg [.opq (.nat (a / b)),.pad]),(.agg [.opq (.nat (a % b)),.pad]),.int .i64 0])
theorem DivS_ok (hP:PrgOk P) (args p r):DivS args=some (p,r)→p→CSpec P 63 args r:=on2_ok (fun a b h=>by
 by_cases hb:b=0
 · subst hb; simp only [if_pos]; exact Div_zero hP a
 · simp only [if_neg hb]; exact Div_spec hP a b h.1 h.2 (by omega)) args p r
attribute [go_sem] DivS
end Go.Proofs.Ytapddfjimhohcaa.AM
/- Loops whose objects change their numbers. -/
namespace Go.Proofs.Ytapddfjimhohcaa.AM
set_option linter.all false
set_option autoImplicit true
set_option relaxedAutoImplicit true
open Go Go.Proofs
set_option maxRecDepth 100000
set_option linter.unusedSimpArgs false
section
variable {P:Program} {E:Env} {s:St} {Q:Exit→Nat→St→Prop} {nx:Nat} {tr:TriT} {ic:ICallT}
def loopV {α:Type} (LL:α→List Nat) (F:α→St) (I:α→Prop) (μ:α→Nat) (n:Nat) (Q:Exit→Nat→St→Prop):Exit→Nat→St→Prop
 | .normal,_,s=>∃ x,Kept (LL x) s (F x)∧I x∧μ x<n
 | e,nx,s=>Q e nx s
theorem Tri_loopV {α:Type} {c:Code} (LL:α→List Nat) (F:α→St) (I:α→Prop) (μ:α→Nat) (x0:α) (hL:∀ x r,s.m r ≠ .unused→(LL x).contains r=true) (h0:Kept (LL x0) s (F x0)) (i0:I x0)
 (hr:∀ x,I x→Tri P c (loopV LL F I μ (μ x) Q) (F x)):Tri P (.loop c) Q s:=by
 intro X φ a w R
 have hφ:∀ r,s.m r = .unused→φ r=none:=fun r h=>R.mem.unused h
 let p:Act→World→Nat→Prop:=fun a' w' k=>∃ x φ1,I x∧μ x=k∧Rel X φ1 (F x) a' w'∧Stp X φ s.m w φ1 (F x).m w'
 obtain ⟨φ0,r0,st0⟩:=kept_rel R h0 (.refl _ _ _ _) (hL x0) hφ
 refine wp_loop (fun a' w'=>∃ k,p a' w' k) (fun a' w'=>leastOf (p a' w')) ⟨_,x0,φ0,i0,rfl,r0,st0⟩ fun a' w' hI=>?_
 obtain ⟨⟨x,φ1,i1,hk,r1,st1⟩,_⟩:=leastOf_spec hI
 refine Code.wp_mono ?_ (hr x i1 X φ1 a' w' r1)
 rintro e a2 w2 ⟨nx,s2,φ2,q,r2,st2⟩
 cases e with
 | normal =>
   obtain ⟨x3,k3,i3,hlt⟩:=q
   obtain ⟨φ3,r3,st3⟩:=kept_rel r2 k3 (st1.trans st2) (hL x3) hφ
   have hp:p a2 w2 (μ x3):=⟨x3,φ3,i3,rfl,r3,st3⟩
   refine ⟨⟨_,hp⟩,?_⟩
   have:=(leastOf_spec ⟨_,hp⟩).2 _ hp
   omega
 | _=>exact ⟨nx,s2,φ2,q,r2,st1.trans st2⟩
theorem q_loopV_normal {α:Type} (LL:α→List Nat) (F:α→St) (I:α→Prop) (μ:α→Nat) (n):qX .normal nx s (Q:=⟨loopV LL F I μ n Q⟩)=∃ x,Kept (LL x) s (F x)∧I x∧μ x<n:=rfl
theorem q_loopV_exit {α:Type} (LL:α→List Nat) (F:α→St) (I:α→Prop) (μ:α→Nat) (n i):qX (.exit i) nx s (Q:=⟨loopV LL F I μ n Q⟩)=qX (.exit i) nx s (Q:=⟨Q⟩):=rfl
theorem q_loopV_ret {α:Type} (LL:α→List Nat) (F:α→St) (I:α→Prop) (μ:α→Nat) (n):qX .ret nx s (Q:=⟨loopV LL F I μ n Q⟩)=qX .ret nx s (Q:=⟨Q⟩):=rfl
theorem trX_loopV {α:Type} {c:Code} (HE:EnvOk P E) (hmix:P.follows .mixedOrders=true) (LL:α→List Nat) (F:α→St) (I:α→Prop) (μ:α→Nat) (x0:α) (nx0:α→Nat) (hL:∀ x r,s.m r ≠ .unused→(LL x).contains r=true) (h0:Kept (LL x0) s (F x0)) (i0:I x0) (N:Nat) (hN:regsOk N c=true)
 (hr:∀ x,I x→vcX (Tri P) (ICall P) E N c (nx0 x) (F x) (Q:=⟨loopV LL F I μ (μ x) Q⟩)):trX (Tri P) (.loop c) s (Q:=⟨Q⟩) :=
 Tri_loopV LL F I μ x0 hL h0 i0 fun x ix=>vc_sound HE hmix N c _ (nx0 x) _ hN (hr x ix)
def CvM (m m':Nat→AObj):Prop:=∀ r,m' r=m r∨∃ cs cs',m r = .live cs∧m' r = .live cs'∧CvL cs cs'∧cs'.length=cs.length∧cs'.all AV.ck=true
theorem CvM.refl (m):CvM m m:=fun _=>.inl rfl
theorem CvM.upd {m m':Nat→AObj} (h:CvM m m') {r:Nat} {cs cs':List AV} (hc:CvL cs cs') (hl:cs'.length=cs.length) (hk:cs'.all AV.ck=true):CvM (AM.upd m r (.live cs)) (AM.upd m' r (.live cs')):=fun q=>by
 unfold AM.upd; split
 · exact .inr ⟨cs,cs',rfl,rfl,hc,hl,hk⟩
 · exact h q
theorem CvM.same {m m':Nat→AObj} (h:CvM m m') (r:Nat) (o:AObj):CvM (AM.upd m r o) (AM.upd m' r o):=fun q=>by
 unfold AM.upd; split
 · exact .inl rfl
 · exact h q
theorem CvM.wr {m m':Nat→AObj} (h:CvM m m') (X φ):Wr X φ m'=Wr X φ m:=by
 funext b
 simp only [Wr,eq_iff_iff]
 refine or_congr Iff.rfl ⟨?_,?_⟩
 · rintro ⟨r,cs,h1,h2⟩
   rcases h r with h3|⟨c1,c2,h3,_⟩
   · exact ⟨r,cs,h1,by rw [← h3]; exact h2⟩
   · exact ⟨r,c1,h1,h3⟩
 · rintro ⟨r,cs,h1,h2⟩
   rcases h r with h3|⟨c1,c2,_,h3,_⟩
   · exact ⟨r,cs,h1,by rw [h3]; exact h2⟩
   · exact ⟨r,c2,h1,h3⟩
theorem CvM.rel {m m':Nat→AObj} (h:CvM m m') {X φ t n a w} (R:Rel X φ ⟨t,m,n⟩ a w):Rel X φ ⟨t,m',n⟩ a w:=by
 have hW:=h.wr X φ
 refine ⟨fun i hi=>?_,R.df,R.n,⟨fun r=>?_,R.mem.inj,R.mem.ext,R.mem.xlt⟩⟩
 · rw [hW]; exact R.tm i hi
 · have:=R.mem.obj r
   simp only [] at this ⊢
   rw [hW]
   rcases h r with h3|⟨cs,cs',h1,h2,h3,h4,h5⟩
   · rw [h3]; exact this
   · rw [h1] at this; rw [h2]
     obtain ⟨b,hb,c,e,k1,k2,k3,k4⟩:=this
     exact ⟨b,hb,c,e,k1,by rw [h4]; exact k2,by rw [h4]; exact h3 _ _ _ _ k3,h5⟩
theorem Tri_cv {c:Code} {t:Nat→AV} {m m':Nat→AObj} {n:Nat} (h:CvM m m') (k:Tri P c Q ⟨t,m',n⟩):Tri P c Q ⟨t,m,n⟩:=by
 intro X φ a w R
 refine Code.wp_mono ?_ (k X φ a w (h.rel R))
 rintro e a2 w2 ⟨nx,s2,φ2,q,r2,st2⟩
 have hW:=h.wr X φ
 refine ⟨nx,s2,φ2,q,r2,?_⟩
 obtain ⟨e1,f1⟩:=st2
 simp only [] at e1
 rw [hW] at e1
 exact ⟨e1,f1⟩
theorem Tri_vcX {c:Code} (HE:EnvOk P E) (hmix:P.follows .mixedOrders=true) (N nx:Nat) (hN:regsOk N c=true) (h:vcX (Tri P) (ICall P) E N c nx s (Q:=⟨Q⟩)):Tri P c Q s:=vc_sound HE hmix N c _ nx _ hN h
theorem trX_loopT {α:Type} {c:Code} (L:List Nat) (F:α→St) (I:α→Prop) (μ:α→Nat) (x0:α) (hL:∀ r,s.m r ≠ .unused→L.contains r=true) (h0:Kept L s (F x0)) (i0:I x0)
 (hr:∀ x,I x→Tri P c (loopR L F I μ (μ x) Q) (F x)):trX (Tri P) (.loop c) s (Q:=⟨Q⟩):=Tri_loopR L F I μ x0 hL h0 i0 hr
end
attribute [go_sem] q_loopV_normal q_loopV_exit q_loopV_ret
end Go.Proofs.Ytapddfjimhohcaa.AM
/- Package nat: the greatest divisor. -/
namespace Go.Proofs.Ytapddfjimhohcaa.AM
set_option linter.all false
set_option autoImplicit true
set_option relaxedAutoImplicit true
open Go Go.Proofs
set_option maxRecDepth 100000
set_option maxHeartbeats 8000000
set_option linter.unusedSimpArgs false
variable {P:Program}
noncomputable def Sf:Nat→List AV→Option (Prop × AV):=addS (addS Se 63 DivS) 71 SubS
theorem Sf_ok (hP:PrgOk P):EnvOk P ⟨T0,Sf⟩:=(((Se_ok hP).add (DivS_ok hP)).add (SubS_ok hP))
theorem Sf_at (f a):Sf f a=(addS (addS Se 63 DivS) 71 SubS) f a:=rfl
attribute [go_sem] Sf_at
theorem gcd_step (a b:Nat):Nat.gcd a b=Nat.gcd b (a % b):=by rw [Nat.gcd_comm a b,Nat.gcd_rec b a,Nat.gcd_comm]
theorem natC_ck (a:Nat):(natC a).all AV.ck=true:=by
 by_cases h:a<18446744073709551616
 · rw [natC_small h]; rfl
 · rw [natC_great h]; rfl
theorem natC_len (a:Nat):(natC a).length=2:=by
 by_cases h:a<18446744073709551616
 · rw [natC_small h]; rfl
 · rw [natC_great h]; rfl
theorem natC_only (a:Nat) {f}:onlyL f (natC a)=true:=by
 by_cases h:a<18446744073709551616
 · rw [natC_small h]; rfl
 · rw [natC_great h]; simp only [onlyL,AV.only,Bool.true_and,Bool.and_true]; exact only_U
theorem CvL.un (a:Nat):CvL [.opq (.nat a),.pad] (natC a):=by have:=CvL.unnat a []; simpa using this
def cel:Bool→Nat→List AV
 | true,x=>natC x
 | false,x=>[.opq (.nat x),.pad]
theorem CvL.cel (f:Bool) (a:Nat):CvL (cel f a) (natC a):=by
 cases f
 · exact CvL.un a
 · exact CvL.refl _
theorem CvL.lec (f:Bool) (a:Nat):CvL (AM.cel f a) [.opq (.nat a),.pad]:=by
 cases f
 · exact CvL.refl _
 · have:=CvL.nat a [] rfl; simpa [AM.cel] using this
theorem cel_len (f:Bool) (a:Nat):(cel f a).length=2:=by
 cases f
 · rfl
 · exact natC_len a
theorem Gcd_spec (hP:PrgOk P) (a b:Nat) (ha:blen a≤68719476736) (hb:blen b≤68719476736):CSpec P 64 [(.agg [.opq (.nat (a)),.pad]),(.agg [.opq (.nat (b)),.pad])] (.agg [.opq (.nat (Nat.gcd a b)),.pad]):=by
 have HE:=Sf_ok hP
 refine CSpec_go (E:=⟨T0,Sf⟩) (fn64 hP) HE hP.mix ?_
 simp only [go_sem]
 refine trX_loopT [2,1,0] (fun q:Nat × Nat × Bool=>⟨upd (upd (upd (fun _=>.junk) 2 (.ref 0 0)) 3 (.ref 1 0)) 4 (.ref 2 0),upd (upd (upd (fun _=>.unused) 0 (.live (cel q.2.2 q.1))) 1 (.live [.opq (.nat q.2.1),.pad])) 2 (.live [.int .u64 0,.nils]),43⟩)
  (fun q=>blen q.1≤68719476736∧blen q.2.1≤68719476736∧Nat.gcd q.1 q.2.1=Nat.gcd a b) (fun q=>q.2.1) (a,b,false)
  Has.z (Kept.of rfl KT.z KM.z) ⟨ha,hb,rfl⟩ ?_
 rintro ⟨x,y,f⟩ ⟨h1,h2,h3⟩
 simp only [] at h1 h2 h3
 by_cases hy:y=0
 · subst hy
   refine Tri_cv (m':=upd (upd (upd (fun _=>.unused) 0 (.live [.opq (.nat x),.pad])) 1 (.live [.opq (.nat 0),.pad])) 2 (.live [.int .u64 0,.nils])) ((((CvM.refl _).upd (CvL.lec f x) (cel_len f x).symm rfl).same _ _).same _ _) ?_
   refine Tri_vcX HE hP.mix 43 10 (by kernel_rfl) ?_
   have hb0:blen 0=0:=by decide
   have hb1:blen 0≤68719476736:=by decide
   simp only [go_sem,hb0,hb1]
   rw [Nat.gcd_zero_right] at h3
   rw [h3]; exact .refl _
 · have hyp:0<y:=by omega
   have hbp:0<blen y:=by
    have:blen y ≠ 0:=by rw [Ne,blen_zero_iff]; exact hy
    omega
   have hyz:(y=0)=False:=eq_false hy
   refine Tri_cv (m':=upd (upd (upd (fun _=>.unused) 0 (.live (natC x))) 1 (.live (natC y))) 2 (.live [.int .u64 0,.nils])) (((CvM.refl _).upd (CvL.cel f x) ((natC_len x).trans (cel_len f x).symm) (natC_ck x)).upd (CvL.un y) (natC_len y) (natC_ck y) |>.same _ _) ?_
   refine Tri_vcX HE hP.mix 43 10 (by kernel_rfl) ?_
   by_cases hxs:x<18446744073709551616
   · by_cases hys:y<18446744073709551616
     · rw [natC_small hxs,natC_small hys]
       simp only [go_sem,h2,hys,hbp]
       refine trX_loop HE hP.mix [2,1,0] (fun q:Nat × Nat=>⟨upd (upd (upd (fun _=>.junk) 4 (.ref 2 0)) 5 (.int .u64 (q.1:Int))) 6 (.int .u64 (q.2:Int)),upd (upd (upd (fun _=>.unused) 0 (.live [.int .u64 (x:Int),.nils])) 1 (.live [.int .u64 (y:Int),.nils])) 2 (.live [.int .u64 0,.nils]),43⟩)
        (fun q=>q.1<18446744073709551616∧q.2<18446744073709551616∧Nat.gcd q.1 q.2=Nat.gcd a b) (fun q=>q.2) (x,y) 10
        Has.z (Kept.of rfl KT.z KM.z) ⟨hxs,hys,h3⟩ 43 (by kernel_rfl) ?_
       rintro ⟨u,v⟩ ⟨k1,k2,k3⟩
       simp only [] at k1 k2 k3
       by_cases hv:0<v
       · have hm:=u_mod u v
         have hml:=Nat.mod_lt u hv
         simp only [go_sem,hv,hm]
         exact ⟨by omega,(v,u % v),Kept.of rfl KT.z KM.z,⟨k2,by simp only []; omega,by simp only []; rw [← gcd_step]; exact k3⟩,by simp only []; omega⟩
       · have hv0:v=0:=by omega
         subst hv0
         simp only [go_sem,hv]
         rw [Nat.gcd_zero_right] at k3
         rw [← k3]
         exact Conv.nat1 k1
     · have hm2:=digs_length_gt 18446744073709551616 y 1 (by decide) (by omega)
       have hm2:2≤(digs 18446744073709551616 y).length:=by omega
       have hm3:((digs 18446744073709551616 y).length ≠ 0)=True:=eq_true (by omega)
       rw [natC_small hxs,natC_great hys]
       simp only [go_sem,h1,h2,hm2,hm3,hxs,hbp,hyz]
       rw [← natC_great hys]
       have hml:=Nat.mod_lt x hyp
       have hcl:objOnly [2,1,0] (.live (natC y))=true:=by simp only [objOnly]; exact natC_only y
       refine ⟨(y,x % y,true),Kept.of rfl KT.z (KM.p (by repeat (first|exact KMp.nil|refine KMp.upd rfl (by first|rfl|exact hcl) ?_))),⟨h2,blen_le_of (Nat.le_of_lt hml) h2,by simp only []; rw [← gcd_step]; exact h3⟩,by simp only []; exact hml⟩
   · have hl2:=digs_length_gt 18446744073709551616 x 1 (by decide) (by omega)
     have hl2:2≤(digs 18446744073709551616 x).length:=by omega
     have hl3:((digs 18446744073709551616 x).length ≠ 0)=True:=eq_true (by omega)
     by_cases hys:y<18446744073709551616
     · rw [natC_great hxs,natC_small hys]
       simp only [go_sem,h1,h2,hl2,hl3,hys,hbp,hyz]
       rw [← natC_small hys]
       have hml:=Nat.mod_lt x hyp
       have hcl:objOnly [2,1,0] (.live (natC y))=true:=by simp only [objOnly]; exact natC_only y
       refine ⟨(y,x % y,true),Kept.of rfl KT.z (KM.p (by repeat (first|exact KMp.nil|refine KMp.upd rfl (by first|rfl|exact hcl) ?_))),⟨h2,blen_le_of (Nat.le_of_lt hml) h2,by simp only []; rw [← gcd_step]; exact h3⟩,by simp only []; exact hml⟩
     · have hm2:=digs_length_gt 18446744073709551616 y 1 (by decide) (by omega)
       have hm2:2≤(digs 18446744073709551616 y).length:=by omega
       have hm3:((digs 18446744073709551616 y).length ≠ 0)=True:=eq_true (by omega)
       rw [natC_great hxs,natC_great hys]
       simp only [go_sem,h1,h2,hl2,hl3,hm2,hm3,hbp,hyz]
       rw [← natC_great hys]
       have hml:=Nat.mod_lt x hyp
       have hcl:objOnly [2,1,0] (.live (natC y))=true:=by simp only [objOnly]; exact natC_only y
       refine ⟨(y,x % y,true),Kept.of rfl KT.z (KM.p (by repeat (first|exact KMp.nil|refine KMp.upd rfl (by first|rfl|exact hcl) ?_))),⟨h2,blen_le_of (Nat.le_of_lt hml) h2,by simp only []; rw [← gcd_step]; exact h3⟩,by simp only []; exact hml⟩
def GcdS:List AV→Option (Prop × AV):=on2 fun a b=>(blen a≤68719476736∧blen b≤68719476736,(.agg [.opq (.nat (Nat.gcd a b)),.pad]))
theorem GcdS_ok (hP:PrgOk P) (args p r):GcdS args=some (p,r)→p→CSpec P 64 args r:=on2_ok (fun a b h=>by exact Gcd_spec hP a b h.1 h.2) args p r
attribute [go_sem] GcdS
theorem strM_sl2 (T:Nat→Option TyD) (m:Nat→AObj) (e b b' z z' sz sz' r off n k):strM T m ⟨.slice e,sz,b,z⟩ ⟨.string,sz',b',z'⟩ (.sl r off n k)=if isU8 (T e)=true then (objCells (m r)).map fun cs=>(Cut cs off n∧k=1∧((cs.drop off).take n).all isB=true,.str (bytesS ((cs.drop off).take n))) else none:=rfl
attribute [go_sem] strM_sl2
abbrev OD:=Option (Bool × Bool)
structure TS where
 n:Nat
 w:List Nat
 tl:List Nat
 D:OD
 k:Nat
 o:List Nat
structure T3 where
 j:Option Bool
 i:Nat
 r:Nat
 k:Nat
 o:List Nat
def okD (l:List Nat):Prop:=l ≠ []∧¬ (1<l.length∧l.getD 0 0=48)∧∀ c ∈ l,48≤c∧c≤57
structure PS where
 s:ByteArray
 k:Nat
 D:OD
 n:Nat
 d:List Nat
theorem cut_nil (hP:PrgOk P):CSpec P 75 [.nils] (.agg [.opq (.nat (0)),.pad]):=by
 have HE:=Sf_ok hP
 refine CSpec_go (E:=⟨T0,Sf⟩) (fn75 hP) HE hP.mix ?_
 simp only [go_sem]
 refine trX_loop HE hP.mix [0] (fun _:Unit=>⟨upd (upd (upd (fun _=>.junk) 0 .nils) 2 (.ref 0 0)) 3 (.int .i64 0),upd (fun _=>.unused) 0 (.live [.int .u64 0,.nils]),33⟩)
  (fun _=>True) (fun _=>0) () 20 Has.z (Kept.of rfl KT.z KM.z) trivial 33 (by kernel_rfl) ?_
 intro _ _
 simp only [go_sem,Int.lt_irrefl]
 exact Conv.nat1 (by decide)
def cutS2:List AV→Option (Prop × AV)
 | [.nils]=>some (True,(.agg [.opq (.nat (0)),.pad]))
 | [.imm n cs]=>cutS [.imm n cs]
 | _=>none
theorem cutS2_ok (hP:PrgOk P) (args p r) (h:cutS2 args=some (p,r)) (hp:p):CSpec P 75 args r:=by
 unfold cutS2 at h
 split at h
 · simp only [Option.some.injEq,Prod.mk.injEq] at h
   obtain ⟨rfl,rfl⟩:=h
   exact cut_nil hP
 · exact cutS_ok hP _ _ _ h hp
 · simp at h
attribute [go_sem] cutS2
noncomputable def Sg:Nat→List AV→Option (Prop × AV):=addS Sf 75 cutS2
theorem Sg_ok (hP:PrgOk P):EnvOk P ⟨T0,Sg⟩:=((Sf_ok hP).add (cutS2_ok hP))
theorem Sg_at (f a):Sg f a=(addS Sf 75 cutS2) f a:=rfl
attribute [go_sem] Sg_at
theorem strs_only (f):∀ l:List ByteArray,onlyL f (l.map AV.str)=true
 | []=>rfl
 | s::l=>by simp only [List.map_cons,onlyL,AV.only,Bool.true_and]; exact strs_only f l
theorem strs_drop (l:List ByteArray) (i:Nat):(l.map AV.str).drop i=(l.drop i).map AV.str:=List.map_drop.symm
theorem strs_head (l:List ByteArray):AV.head (l.map AV.str)=true:=by cases l<;>rfl
attribute [go_sem] strs_only strs_drop strs_head
theorem lap_cons {α:Type} (a:α) (l r:List α):List.append (a::l) r=a::List.append l r:=rfl
theorem lap_nil {α:Type} (r:List α):List.append [] r=r:=rfl
attribute [go_sem] lap_cons lap_nil
theorem gcd_blen {a b n:Nat} (ha:blen a≤n) (hb:blen b≤n):blen (Nat.gcd a b)≤n:=by
 rcases Nat.eq_zero_or_pos a with h|h
 · subst h; rw [Nat.gcd_zero_left]; exact hb
 · exact blen_le_of (Nat.le_of_dvd h (Nat.gcd_dvd_left a b)) ha
noncomputable def Sh:Nat→List AV→Option (Prop × AV):=addS (addS Sg 64 GcdS) 60 AddS
theorem Sh_ok (hP:PrgOk P):EnvOk P ⟨T0,Sh⟩:=(((Sg_ok hP).add (GcdS_ok hP)).add (AddS_ok hP))
theorem Sh_at (f a):Sh f a=(addS (addS Sg 64 GcdS) 60 AddS) f a:=rfl
attribute [go_sem] Sh_at
theorem Conv.rnat (n:Nat):Conv (.imm (digs 65536 (n)).length (List.map (fun d:Nat=>AV.int .u32 (d:Int)) (digs 65536 (n)))) (.opq (.rnat (n))):=CvL.conv (by simpa [Pay.open,Pay.width] using CvL.fold (.rnat n) [] rfl)
theorem dOf_digs16 (a:Nat):dOf 65536 (digs 65536 a)=a:=dOf_digs _ _ (by decide)
theorem CvL.nilR {xs bs} (k:CvL xs bs):CvL (.nils::xs) (.imm 0 []::bs):=fun _ _ _ _ hl=>by
 obtain ⟨v,vs,rfl,h1,h2⟩:=hl.uncons rfl
 rw [h1.nils_inv]
 exact .imm0 _ _ (k _ _ _ _ h2)
attribute [go_sem] dOf_digs16
structure RS where
 m:Nat
 D:OD
 k:Nat
 o:List Nat
noncomputable def Sk:Nat→List AV→Option (Prop × AV):=Sh
theorem Sk_ok (hP:PrgOk P):EnvOk P ⟨T0,Sk⟩:=(Sh_ok hP)
attribute [go_sem] Sk
structure AS where
 i:Nat
 c:Nat
 D:OD
 o:List Nat
noncomputable def Sl:Nat→List AV→Option (Prop × AV):=Sk
theorem Sl_ok (hP:PrgOk P):EnvOk P ⟨T0,Sl⟩:=(Sk_ok hP)
attribute [go_sem] Sl
noncomputable def Sm:Nat→List AV→Option (Prop × AV):=Sl
theorem Sm_ok (hP:PrgOk P):EnvOk P ⟨T0,Sm⟩:=(Sl_ok hP)
attribute [go_sem] Sm
noncomputable def Sn:Nat→List AV→Option (Prop × AV):=Sm
theorem Sn_ok (hP:PrgOk P):EnvOk P ⟨T0,Sn⟩:=(Sm_ok hP)
attribute [go_sem] Sn
instance okD_dec (l:List Nat):Decidable (okD l):=by unfold okD; infer_instance
noncomputable def So:Nat→List AV→Option (Prop × AV):=Sn
theorem So_ok (hP:PrgOk P):EnvOk P ⟨T0,So⟩:=(Sn_ok hP)
attribute [go_sem] So
noncomputable def Sp:Nat→List AV→Option (Prop × AV):=So
theorem Sp_ok (hP:PrgOk P):EnvOk P ⟨T0,Sp⟩:=(So_ok hP)
attribute [go_sem] Sp
noncomputable def Sr:Nat→List AV→Option (Prop × AV):=Sp
theorem Sr_all (hP:PrgOk P) (T) (hT:TyOk P T):EnvOk P ⟨T,Sr⟩:=((Sp_ok hP).re hT)
attribute [go_sem] Sr
def wC (z:Int):List AV:=[.bool (decide (z<0)),.opq (.nat z.natAbs),.pad]
theorem CvL.wholeIn (z:Int) {xs bs} (h:CvL xs bs):CvL ((.agg [.opq (.whole (z)),.pad,.pad])::xs) (.agg (wC z)::bs):=.agg (by simpa [Pay.open,Pay.width,wC] using CvL.unfold (.whole z) []) h
theorem CvL.wholeOut (z:Int) {xs bs} (h:CvL xs bs):CvL (.agg (wC z)::xs) ((.agg [.opq (.whole (z)),.pad,.pad])::bs):=.agg (by simpa [Pay.open,Pay.width,wC] using CvL.fold (.whole z) [] rfl) h
theorem Conv.whole (z:Int):Conv (.agg (wC z)) (.agg [.opq (.whole (z)),.pad,.pad]):=CvL.conv (.wholeOut z .nil)
def sg (m:Bool) (a:Nat):Int:=if m then -(a:Int) else a
theorem sg_t (a:Nat):sg true a = -(a:Int):=rfl
theorem sg_f (a:Nat):sg false a=(a:Int):=rfl
theorem sg_abs (m a):(sg m a).natAbs=a:=by cases m<;>simp [sg]
theorem sg_neg (m a):decide (sg m a<0)=(m && decide (0<a)):=by cases m<;>simp [sg]<;>omega
theorem sg_of (z:Int):sg (decide (z<0)) z.natAbs=z:=by
 unfold sg; by_cases h:z<0
 · rw [decide_eq_true h]; simp; omega
 · rw [decide_eq_false h]; simp; omega
def rawW:AV→Option (Prop × Int)
 | .agg [.opq (.whole z),.pad,.pad]=>some (True,z)
 | .agg [.bool m,.opq (.nat a),.pad]=>some (m=true→0<a,sg m a)
 | _=>none
theorem rawW_atom (z:Int):rawW (.agg [.opq (.whole (z)),.pad,.pad])=some (True,z):=rfl
theorem rawW_raw (m a):rawW (.agg [.bool m,.opq (.nat a),.pad])=some (m=true→0<a,sg m a):=rfl
theorem rawW_cv {v:AV} {p z} (h:rawW v=some (p,z)) (hp:p) {xs bs} (k:CvL xs bs):CvL (v::xs) ((.agg [.opq (.whole (z)),.pad,.pad])::bs):=by
 unfold rawW at h
 split at h
 · simp only [Option.some.injEq,Prod.mk.injEq] at h
   obtain ⟨rfl,rfl⟩:=h
   exact .agg (.refl _) k
 · simp only [Option.some.injEq,Prod.mk.injEq] at h
   obtain ⟨rfl,rfl⟩:=h
   rename_i m a
   have e:wC (sg m a)=[.bool m,.opq (.nat a),.pad]:=by
    unfold wC; rw [sg_abs,sg_neg]
    cases m
    · rfl
    · rw [decide_eq_true (hp rfl)]; rfl
   rw [← e]; exact .wholeOut _ k
 · simp at h
def onW1 (f:Int→Prop × AV):List AV→Option (Prop × AV)
 | [x]=>(rawW x).map fun a=>(a.1∧(f a.2).1,(f a.2).2)
 | _=>none
def onW2 (f:Int→Int→Prop × AV):List AV→Option (Prop × AV)
 | [x,y]=>(rawW x).bind fun a=>(rawW y).map fun b=>(a.1∧b.1∧(f a.2 b.2).1,(f a.2 b.2).2)
 | _=>none
theorem onW1_ok {fi:Nat} {f:Int→Prop × AV} (h:∀ a,(f a).1→CSpec P fi [(.agg [.opq (.whole (a)),.pad,.pad])] (f a).2) (args p r) (he:onW1 f args=some (p,r)) (hp:p):CSpec P fi args r:=by
 unfold onW1 at he
 split at he
 · simp only [Option.map_eq_some_iff,Prod.exists,Prod.mk.injEq] at he
   obtain ⟨q,a,h1,rfl,rfl⟩:=he
   exact (h a hp.2).cv (rawW_cv h1 hp.1 .nil)
 · simp at he
theorem onW2_ok {fi:Nat} {f:Int→Int→Prop × AV} (h:∀ a b,(f a b).1→CSpec P fi [(.agg [.opq (.whole (a)),.pad,.pad]),(.agg [.opq (.whole (b)),.pad,.pad])] (f a b).2) (args p r) (he:onW2 f args=some (p,r)) (hp:p):CSpec P fi args r:=by
 unfold onW2 at he
 split at he
 · simp only [Option.bind_eq_some_iff,Option.map_eq_some_iff,Prod.exists,Prod.mk.injEq] at he
   obtain ⟨q,a,h1,q',b,h2,rfl,rfl⟩:=he
   exact (h a b hp.2.2).cv (rawW_cv h1 hp.1 (rawW_cv h2 hp.2.1 .nil))
 · simp at he
theorem onW1_eq (f x):onW1 f [x]=(rawW x).map fun a=>(a.1∧(f a.2).1,(f a.2).2):=rfl
theorem onW2_eq (f x y):onW2 f [x,y]=(rawW x).bind fun a=>(rawW y).map fun b=>(a.1∧b.1∧(f a.2 b.2).1,(f a.2 b.2).2):=rfl
attribute [go_sem] rawW_atom rawW_raw onW1_eq onW2_eq
abbrev wl (z:Int):Nat:=blen z.natAbs
theorem wMake_spec (hP:PrgOk P) (m:Bool) (a:Nat) (ha:blen a≤68719476736):CSpec P 53 [.bool m,(.agg [.opq (.nat (a)),.pad])] (.agg [.opq (.whole (sg m a)),.pad,.pad]):=by
 have HE:=Sr_all hP T1 hP.t1
 refine CSpec.conv (r:=.agg (wC (sg m a))) ?_ (.whole _)
 unfold wC
 rw [sg_abs,sg_neg]
 refine CSpec_go (E:=⟨T1,Sr⟩) (fn53 hP) HE hP.mix ?_
 cases m
 · simp only [go_sem,ha]
   exact .refl _
 · rcases Nat.eq_zero_or_pos a with h|h
   · subst h
     have hb:blen 0=0:=by decide
     simp only [go_sem,ha,hb]
     exact .refl _
   · have hb:0<blen a:=by
      have:blen a ≠ 0:=by rw [Ne,blen_zero_iff]; omega
      omega
     simp only [go_sem,ha,hb,h]
     exact .refl _
def wMakeS:List AV→Option (Prop × AV)
 | [.bool m,x]=>(rawN x).map fun a=>(a.1∧blen a.2≤68719476736,(.agg [.opq (.whole (sg m a.2)),.pad,.pad]))
 | _=>none
theorem wMakeS_eq (m x):wMakeS [.bool m,x]=(rawN x).map fun a=>(a.1∧blen a.2≤68719476736,(.agg [.opq (.whole (sg m a.2)),.pad,.pad])):=rfl
theorem wMakeS_ok (hP:PrgOk P) (args p r) (he:wMakeS args=some (p,r)) (hp:p):CSpec P 53 args r:=by
 unfold wMakeS at he
 split at he
 · simp only [Option.map_eq_some_iff,Prod.exists,Prod.mk.injEq] at he
   obtain ⟨q,a,h1,rfl,rfl⟩:=he
   exact (wMake_spec hP _ a hp.2).cv (.cons rfl (rawN_cv h1 hp.1 .nil))
 · simp at he
attribute [go_sem] wMakeS_eq
noncomputable def Wt0:Nat→List AV→Option (Prop × AV):=addS Sr 53 wMakeS
theorem Wt0_all (hP:PrgOk P) (T) (hT:TyOk P T):EnvOk P ⟨T,Wt0⟩:=((Sr_all hP T hT).add (wMakeS_ok hP))
theorem Wt0_at (f a):Wt0 f a=(addS Sr 53 wMakeS) f a:=rfl
attribute [go_sem] Wt0_at
def sgnZ (z:Int):Int:=if z=0 then 0 else if z<0 then -1 else 1
def cmpZ (a b:Int):Int:=if a<b then -1 else if b<a then 1 else 0
theorem wSign_spec (hP:PrgOk P) (z:Int) (h:wl z≤68719476736):CSpec P 36 [(.agg [.opq (.whole (z)),.pad,.pad])] (.int .i64 (sgnZ z)):=by
 have HE:=Wt0_all hP T1 hP.t1
 refine CSpec.cv ?_ (.wholeIn z .nil)
 unfold wC
 refine CSpec_go (E:=⟨T1,Wt0⟩) (fn36 hP) HE hP.mix ?_
 unfold sgnZ
 unfold wl at h
 by_cases h0:z=0
 · have hb:(blen z.natAbs == 0)=true:=beq_iff_eq.2 ((blen_zero_iff _).2 (by omega))
   rw [if_pos h0]
   simp only [go_sem,h,hb]
   exact .refl _
 · have hb:(blen z.natAbs == 0)=false:=beq_eq_false_iff_ne.2 fun e=>h0 (by have:=(blen_zero_iff _).1 e; omega)
   rw [if_neg h0]
   by_cases h1:z<0
   · rw [if_pos h1]
     simp only [go_sem,h,hb,h1]
     exact .refl _
   · rw [if_neg h1]
     simp only [go_sem,h,hb,h1]
     exact .refl _
def wSignS:List AV→Option (Prop × AV):=onW1 fun a=>(wl a≤68719476736,.int .i64 (sgnZ a))
theorem wSignS_ok (hP:PrgOk P) (args p r):wSignS args=some (p,r)→p→CSpec P 36 args r:=onW1_ok (fun a h=>by exact wSign_spec hP a h) args p r
attribute [go_sem] wSignS
theorem wAbs_spec (hP:PrgOk P) (z:Int):CSpec P 69 [(.agg [.opq (.whole (z)),.pad,.pad])] (.agg [.opq (.nat (z.natAbs)),.pad]):=by
 have HE:=Wt0_all hP T1 hP.t1
 refine CSpec.cv ?_ (.wholeIn z .nil)
 unfold wC
 refine CSpec_go (E:=⟨T1,Wt0⟩) (fn69 hP) HE hP.mix ?_
 simp only [go_sem]
 exact .refl _
def wAbsS:List AV→Option (Prop × AV):=onW1 fun a=>(True,(.agg [.opq (.nat (a.natAbs)),.pad]))
theorem wAbsS_ok (hP:PrgOk P) (args p r):wAbsS args=some (p,r)→p→CSpec P 69 args r:=onW1_ok (fun a _=>by exact wAbs_spec hP a) args p r
attribute [go_sem] wAbsS
theorem wOf_spec (hP:PrgOk P) (n:Int) (h1 : -9223372036854775808≤n) (h2:n≤9223372036854775807):CSpec P 33 [.int .i64 n] (.agg [.opq (.whole (n)),.pad,.pad]):=by
 have HE:=Wt0_all hP T1 hP.t1
 refine CSpec.conv (r:=.agg (wC n)) ?_ (.whole _)
 unfold wC
 refine CSpec_go (E:=⟨T1,Wt0⟩) (fn33 hP) HE hP.mix ?_
 by_cases h:n<0
 · have e1:IntKind.u64.wrap n=n+18446744073709551616:=by rw [IntKind.wrap_u64]; omega
   have e2:IntKind.u64.wrap (0-(n+18446744073709551616)) = -n:=by rw [IntKind.wrap_u64]; omega
   have e3:((0:Int)≤-n)=True:=eq_true (by omega)
   have e4:(-n<18446744073709551616)=True:=eq_true (by omega)
   have e5:(-n).toNat=n.natAbs:=by omega
   simp only [go_sem,h,e1,e2,e3,e4,e5]
   exact .refl _
 · have e1:IntKind.u64.wrap n=n:=by rw [IntKind.wrap_u64]; omega
   have e3:((0:Int)≤n)=True:=eq_true (by omega)
   have e4:(n<18446744073709551616)=True:=eq_true (by omega)
   have e5:n.toNat=n.natAbs:=by omega
   simp only [go_sem,h,e1,e3,e4,e5]
   exact .refl _
def wOfS:List AV→Option (Prop × AV)
 | [.int .i64 n]=>some (-9223372036854775808≤n∧n≤9223372036854775807,(.agg [.opq (.whole (n)),.pad,.pad]))
 | _=>none
theorem wOfS_ok (hP:PrgOk P) (args p r) (h:wOfS args=some (p,r)) (hp:p):CSpec P 33 args r:=by
 unfold wOfS at h
 split at h
 · simp only [Option.some.injEq,Prod.mk.injEq] at h
   obtain ⟨rfl,rfl⟩:=h
   exact wOf_spec hP _ hp.1 hp.2
 · simp at h
attribute [go_sem] wOfS
theorem wCmp_spec (hP:PrgOk P) (a b:Int) (ha:wl a≤68719476736) (hb:wl b≤68719476736):CSpec P 45 [(.agg [.opq (.whole (a)),.pad,.pad]),(.agg [.opq (.whole (b)),.pad,.pad])] (.int .i64 (cmpZ a b)):=by
 have HE:=Wt0_all hP T1 hP.t1
 refine CSpec.cv ?_ (.wholeIn a (.wholeIn b .nil))
 unfold wC
 unfold wl at ha hb
 refine CSpec_go (E:=⟨T1,Wt0⟩) (fn45 hP) HE hP.mix ?_
 by_cases h1:a<0
 · by_cases h2:b<0
   · have e:cmpZ a b=cmpI b.natAbs a.natAbs:=by
      unfold cmpZ cmpI; repeat' split
      all_goals omega
     simp only [go_sem,h1,h2,ha,hb]
     rw [e]; exact .refl _
   · have e:cmpZ a b = -1:=by unfold cmpZ; rw [if_pos (by omega)]
     simp only [go_sem,h1,h2,ha,hb]
     rw [e]; exact .refl _
 · by_cases h2:b<0
   · have e:cmpZ a b=1:=by unfold cmpZ; rw [if_neg (by omega),if_pos (by omega)]
     simp only [go_sem,h1,h2,ha,hb]
     rw [e]; exact .refl _
   · have e:cmpZ a b=cmpI a.natAbs b.natAbs:=by
      unfold cmpZ cmpI; repeat' split
      all_goals omega
     simp only [go_sem,h1,h2,ha,hb]
     rw [e]; exact .refl _
def wCmpS:List AV→Option (Prop × AV):=onW2 fun a b=>(wl a≤68719476736∧wl b≤68719476736,.int .i64 (cmpZ a b))
theorem wCmpS_ok (hP:PrgOk P) (args p r):wCmpS args=some (p,r)→p→CSpec P 45 args r:=onW2_ok (fun a b h=>by exact wCmp_spec hP a b h.1 h.2) args p r
attribute [go_sem] wCmpS
theorem wNeg_spec (hP:PrgOk P) (a:Int) (ha:wl a≤68719476736):CSpec P 37 [(.agg [.opq (.whole (a)),.pad,.pad])] (.agg [.opq (.whole (-a)),.pad,.pad]):=by
 have HE:=Wt0_all hP T1 hP.t1
 refine CSpec.cv ?_ (.wholeIn a .nil)
 unfold wC
 unfold wl at ha
 refine CSpec_go (E:=⟨T1,Wt0⟩) (fn37 hP) HE hP.mix ?_
 have e:sg (!decide (a<0)) a.natAbs = -a:=by
  by_cases h:a<0
  · rw [decide_eq_true h]; simp [sg]; omega
  · rw [decide_eq_false h]; simp [sg]; omega
 simp only [go_sem,ha,e]
 exact .refl _
def wNegS:List AV→Option (Prop × AV):=onW1 fun a=>(wl a≤68719476736,(.agg [.opq (.whole (-a)),.pad,.pad]))
theorem wNegS_ok (hP:PrgOk P) (args p r):wNegS args=some (p,r)→p→CSpec P 37 args r:=onW1_ok (fun a h=>by exact wNeg_spec hP a h) args p r
attribute [go_sem] wNegS
theorem wAdd_spec (hP:PrgOk P) (a b:Int) (ha:wl a≤34359738368) (hb:wl b≤34359738368):CSpec P 58 [(.agg [.opq (.whole (a)),.pad,.pad]),(.agg [.opq (.whole (b)),.pad,.pad])] (.agg [.opq (.whole (a+b)),.pad,.pad]):=by
 have HE:=Wt0_all hP T1 hP.t1
 refine CSpec.cv ?_ (.wholeIn a (.wholeIn b .nil))
 unfold wC
 unfold wl at ha hb
 have hs:=Nat.le_trans (blen_add_le ha hb) (show _≤68719476736 by decide)
 have ha':=Nat.le_trans ha (show _≤68719476736 by decide)
 have hb':=Nat.le_trans hb (show _≤68719476736 by decide)
 refine CSpec_go (E:=⟨T1,Wt0⟩) (fn58 hP) HE hP.mix ?_
 by_cases h1:a<0
 · by_cases h2:b<0
   · have e:sg true (a.natAbs+b.natAbs)=a+b:=by rw [sg_t]; omega
     simp only [go_sem,h1,h2,ha',hb',hs,e]
     exact .refl _
   · rcases Nat.lt_or_ge a.natAbs b.natAbs with h|h
     · have hc:cmpI a.natAbs b.natAbs = -1:=cmpI_lt h
       have hn:(b.natAbs<a.natAbs)=False:=eq_false (by omega)
       have hd:=Nat.le_trans (blen_mono (Nat.sub_le b.natAbs a.natAbs)) hb'
       have e:sg false (b.natAbs-a.natAbs)=a+b:=by rw [sg_f]; omega
       simp only [go_sem,h1,h2,ha',hb',hc,hn,hd,e]
       exact .refl _
     · have hc:decide (cmpI a.natAbs b.natAbs<0)=false:=cmp_ge h
       have hn:(a.natAbs<b.natAbs)=False:=eq_false (by omega)
       have hd:=Nat.le_trans (blen_mono (Nat.sub_le a.natAbs b.natAbs)) ha'
       have e:sg true (a.natAbs-b.natAbs)=a+b:=by rw [sg_t]; omega
       simp only [go_sem,h1,h2,ha',hb',hc,hn,hd,e]
       exact .refl _
 · by_cases h2:b<0
   · rcases Nat.lt_or_ge a.natAbs b.natAbs with h|h
     · have hc:cmpI a.natAbs b.natAbs = -1:=cmpI_lt h
       have hn:(b.natAbs<a.natAbs)=False:=eq_false (by omega)
       have hd:=Nat.le_trans (blen_mono (Nat.sub_le b.natAbs a.natAbs)) hb'
       have e:sg true (b.natAbs-a.natAbs)=a+b:=by rw [sg_t]; omega
       simp only [go_sem,h1,h2,ha',hb',hc,hn,hd,e]
       exact .refl _
     · have hc:decide (cmpI a.natAbs b.natAbs<0)=false:=cmp_ge h
       have hn:(a.natAbs<b.natAbs)=False:=eq_false (by omega)
       have hd:=Nat.le_trans (blen_mono (Nat.sub_le a.natAbs b.natAbs)) ha'
       have e:sg false (a.natAbs-b.natAbs)=a+b:=by rw [sg_f]; omega
       simp only [go_sem,h1,h2,ha',hb',hc,hn,hd,e]
       exact .refl _
   · have e:sg false (a.natAbs+b.natAbs)=a+b:=by rw [sg_f]; omega
     simp only [go_sem,h1,h2,ha',hb',hs,e]
     exact .refl _
def wAddS:List AV→Option (Prop × AV):=onW2 fun a b=>(wl a≤34359738368∧wl b≤34359738368,(.agg [.opq (.whole (a+b)),.pad,.pad]))
theorem wAddS_ok (hP:PrgOk P) (args p r):wAddS args=some (p,r)→p→CSpec P 58 args r:=onW2_ok (fun a b h=>by exact wAdd_spec hP a b h.1 h.2) args p r
attribute [go_sem] wAddS
noncomputable def Wt1:Nat→List AV→Option (Prop × AV):=addS (addS (addS (addS (addS (addS Wt0 36 wSignS) 69 wAbsS) 33 wOfS) 45 wCmpS) 37 wNegS) 58 wAddS
theorem Wt1_all (hP:PrgOk P) (T) (hT:TyOk P T):EnvOk P ⟨T,Wt1⟩:=(((((((Wt0_all hP T hT).add (wSignS_ok hP)).add (wAbsS_ok hP)).add (wOfS_ok hP)).add (wCmpS_ok hP)).add (wNegS_ok hP)).add (wAddS_ok hP))
theorem Wt1_at (f a):Wt1 f a=(addS (addS (addS (addS (addS (addS Wt0 36 wSignS) 69 wAbsS) 33 wOfS) 45 wCmpS) 37 wNegS) 58 wAddS) f a:=rfl
attribute [go_sem] Wt1_at
theorem wl_neg (a:Int):wl (-a)=wl a:=by unfold wl; rw [Int.natAbs_neg]
theorem wSub_spec (hP:PrgOk P) (a b:Int) (ha:wl a≤34359738368) (hb:wl b≤34359738368):CSpec P 51 [(.agg [.opq (.whole (a)),.pad,.pad]),(.agg [.opq (.whole (b)),.pad,.pad])] (.agg [.opq (.whole (a-b)),.pad,.pad]):=by
 have HE:=Wt1_all hP T2 hP.t2
 have hb':=Nat.le_trans hb (show _≤68719476736 by decide)
 have e:a + -b=a-b:=rfl
 unfold wl at ha hb hb'
 refine CSpec_go (E:=⟨T2,Wt1⟩) (fn51 hP) HE hP.mix ?_
 simp only [go_sem,ha,hb,hb',wl,Int.natAbs_neg,e]
 exact .refl _
def wSubS:List AV→Option (Prop × AV):=onW2 fun a b=>(wl a≤34359738368∧wl b≤34359738368,(.agg [.opq (.whole (a-b)),.pad,.pad]))
theorem wSubS_ok (hP:PrgOk P) (args p r):wSubS args=some (p,r)→p→CSpec P 51 args r:=onW2_ok (fun a b h=>by exact wSub_spec hP a b h.1 h.2) args p r
attribute [go_sem] wSubS
theorem sg_mul (a b:Int):sg (!(decide (a<0) == decide (b<0))) (a.natAbs*b.natAbs)=a*b:=by
 rw [← Int.natAbs_mul]
 have ha:=sg_of a
 have hb:=sg_of b
 unfold sg at *
 by_cases h1:a<0<;>by_cases h2:b<0
 · have:=Int.mul_pos_of_neg_of_neg h1 h2; simp [h1,h2]; omega
 · have:=Int.mul_nonpos_of_nonpos_of_nonneg (Int.le_of_lt h1) (Int.not_lt.1 h2); simp [h1,h2]; omega
 · have:=Int.mul_nonpos_of_nonneg_of_nonpos (Int.not_lt.1 h1) (Int.le_of_lt h2); simp [h1,h2]; omega
 · have:=Int.mul_nonneg (Int.not_lt.1 h1) (Int.not_lt.1 h2); simp [h1,h2]; omega
theorem wMul_spec (hP:PrgOk P) (a b:Int) (ha:wl a≤34359738368) (hb:wl b≤34359738368):CSpec P 55 [(.agg [.opq (.whole (a)),.pad,.pad]),(.agg [.opq (.whole (b)),.pad,.pad])] (.agg [.opq (.whole (a*b)),.pad,.pad]):=by
 have HE:=Wt1_all hP T1 hP.t1
 refine CSpec.cv ?_ (.wholeIn a (.wholeIn b .nil))
 unfold wC
 unfold wl at ha hb
 have hs:=Nat.le_trans (blen_mul_le ha hb) (show _≤68719476736 by decide)
 have ha':=Nat.le_trans ha (show _≤68719476736 by decide)
 have hb':=Nat.le_trans hb (show _≤68719476736 by decide)
 refine CSpec_go (E:=⟨T1,Wt1⟩) (fn55 hP) HE hP.mix ?_
 simp only [go_sem,ha',hb',hs,sg_mul]
 exact .refl _
def wMulS:List AV→Option (Prop × AV):=onW2 fun a b=>(wl a≤34359738368∧wl b≤34359738368,(.agg [.opq (.whole (a*b)),.pad,.pad]))
theorem wMulS_ok (hP:PrgOk P) (args p r):wMulS args=some (p,r)→p→CSpec P 55 args r:=onW2_ok (fun a b h=>by exact wMul_spec hP a b h.1 h.2) args p r
attribute [go_sem] wMulS
noncomputable def Wt2:Nat→List AV→Option (Prop × AV):=addS (addS Wt1 51 wSubS) 55 wMulS
theorem Wt2_all (hP:PrgOk P) (T) (hT:TyOk P T):EnvOk P ⟨T,Wt2⟩:=(((Wt1_all hP T hT).add (wSubS_ok hP)).add (wMulS_ok hP))
theorem Wt2_at (f a):Wt2 f a=(addS (addS Wt1 51 wSubS) 55 wMulS) f a:=rfl
attribute [go_sem] Wt2_at
noncomputable def Wt3:Nat→List AV→Option (Prop × AV):=Wt2
theorem Wt3_all (hP:PrgOk P) (T) (hT:TyOk P T):EnvOk P ⟨T,Wt3⟩:=(Wt2_all hP T hT)
attribute [go_sem] Wt3
theorem wl_add {a b:Int} {n m:Nat} (h:wl a≤n) (h':wl b≤m):wl (a+b)≤n+m+1:=by
 unfold wl at *
 rw [blen_le_iff] at *
 have h1:(a+b).natAbs≤a.natAbs+b.natAbs:=Int.natAbs_add_le a b
 have e1:2^n≤2^(n+m):=Nat.pow_le_pow_right (by decide) (by omega)
 have e2:2^m≤2^(n+m):=Nat.pow_le_pow_right (by decide) (by omega)
 rw [Nat.pow_succ]; omega
theorem wl_sub {a b:Int} {n m:Nat} (h:wl a≤n) (h':wl b≤m):wl (a-b)≤n+m+1:=by
 have:=wl_add h (show wl (-b)≤m by rw [wl_neg]; exact h')
 exact this
theorem wl_mul {a b:Int} {n m:Nat} (h:wl a≤n) (h':wl b≤m):wl (a*b)≤n+m:=by
 unfold wl at *
 rw [Int.natAbs_mul]; exact blen_mul_le h h'
end Go.Proofs.Ytapddfjimhohcaa.AM
/- Fractions: plain facts. -/

namespace Go.Proofs.Ytapddfjimhohcaa.AM
set_option linter.all false
set_option autoImplicit true
set_option relaxedAutoImplicit true
open Go Go.Proofs
set_option maxRecDepth 100000
def fl (q:Rat):Nat:=max (wl q.num) (blen q.den)
theorem fl_le {q:Rat} {n:Nat}:fl q≤n ↔ wl q.num≤n∧blen q.den≤n:=by unfold fl; exact Nat.max_le
theorem mk_num {z:Int} {d:Nat} (hd:0<d):(mkRat z d).num=sg (decide (z<0)) (z.natAbs / Nat.gcd z.natAbs d):=by
 rw [Rat.num_mkRat,if_neg (by omega),Nat.gcd_comm d]
 have hg:0<Nat.gcd z.natAbs d:=Nat.gcd_pos_of_pos_right _ hd
 have e:=Nat.div_mul_cancel (Nat.gcd_dvd_left z.natAbs d)
 refine Int.ediv_eq_of_eq_mul_left (by omega) ?_
 have hz:=sg_of z
 by_cases h:z<0
 · rw [decide_eq_true h,sg_t] at *
   rw [Int.neg_mul,← Int.natCast_mul,e]; exact hz.symm
 · rw [decide_eq_false h,sg_f] at *
   rw [← Int.natCast_mul,e]; exact hz.symm
theorem mk_den {z:Int} {d:Nat} (hd:0<d):(mkRat z d).den=d / Nat.gcd z.natAbs d:=by
 rw [Rat.den_mkRat,if_neg (by omega),Nat.gcd_comm]
theorem mk_one (z:Int):(mkRat z 1).num=z∧(mkRat z 1).den=1:=by
 rw [mk_num (by decide),mk_den (by decide),Nat.gcd_one_right,Nat.div_one]
 exact ⟨sg_of z,rfl⟩
theorem mk_int (z:Int):mkRat z 1=(z:Rat):=by
 apply Rat.ext
 · rw [(mk_one z).1]; rfl
 · rw [(mk_one z).2]; rfl
theorem fl_mk {z:Int} {d n:Nat} (hz:wl z≤n) (hd:blen d≤n) (h0:0<d):fl (mkRat z d)≤n:=by
 rw [fl_le,mk_num h0,mk_den h0]
 refine ⟨?_,blen_le_of (Nat.div_le_self _ _) hd⟩
 unfold wl; rw [sg_abs]; exact blen_le_of (Nat.div_le_self _ _) hz
theorem den_pos (q:Rat):0<q.den:=q.den_pos
theorem den_eq (q:Rat):q.den-1+1=q.den:=by have:=q.den_pos; omega
theorem q_self (q:Rat):mkRat q.num q.den=q:=Rat.mkRat_self q
theorem q_gcd (q:Rat):Nat.gcd q.num.natAbs q.den=1:=q.reduced
theorem add_mk (a b:Rat):a+b=mkRat (a.num*b.den+b.num*a.den) (a.den*b.den):=by rw [Rat.add_def,Rat.normalize_eq_mkRat]
theorem sub_mk (a b:Rat):a-b=mkRat (a.num*b.den-b.num*a.den) (a.den*b.den):=by rw [Rat.sub_def,Rat.normalize_eq_mkRat]
theorem mul_mk (a b:Rat):a*b=mkRat (a.num*b.num) (a.den*b.den):=by rw [Rat.mul_def,Rat.normalize_eq_mkRat]
theorem neg_nd (a:Rat):(-a).num = -a.num∧(-a).den=a.den:=⟨rfl,rfl⟩
def cmpQ (a b:Rat):Int:=if a<b then -1 else if b<a then 1 else 0
theorem cmpQ_mk (a b:Rat):cmpQ a b=cmpZ (a.num*b.den) (b.num*a.den):=by
 unfold cmpQ cmpZ
 simp only [Rat.lt_iff]
theorem sgn_cmp (q:Rat):sgnZ q.num=cmpQ q 0:=by
 rw [cmpQ_mk]
 show _=cmpZ (q.num*1) (0*q.den)
 rw [Int.mul_one,Int.zero_mul]
 unfold sgnZ cmpZ; repeat' split
 all_goals first|rfl|omega
theorem wl_add2 {a b:Int} {n:Nat} (h:wl a≤n) (h':wl b≤n):wl (a+b)≤n+1:=by
 unfold wl at *
 rw [blen_le_iff] at *
 have h1:(a+b).natAbs≤a.natAbs+b.natAbs:=Int.natAbs_add_le a b
 rw [Nat.pow_succ]; omega
theorem fl_add {a b:Rat} {n m:Nat} (h:fl a≤n) (h':fl b≤m):fl (a+b)≤n+m+1:=by
 rw [fl_le] at h h'
 rw [add_mk]
 refine fl_mk ?_ ?_ (Nat.mul_pos a.den_pos b.den_pos)
 · have h1:=wl_mul h.1 (show wl (b.den:Int)≤m from h'.2)
   have h2:=wl_mul h'.1 (show wl (a.den:Int)≤n from h.2)
   exact wl_add2 h1 (Nat.le_trans h2 (by omega))
 · exact Nat.le_trans (blen_mul_le h.2 h'.2) (by omega)
theorem fl_neg {a:Rat} {n:Nat} (h:fl a≤n):fl (-a)≤n:=by
 rw [fl_le] at *
 exact ⟨by rw [(neg_nd a).1,wl_neg]; exact h.1,h.2⟩
theorem fl_sub {a b:Rat} {n m:Nat} (h:fl a≤n) (h':fl b≤m):fl (a-b)≤n+m+1:=by
 rw [Rat.sub_eq_add_neg]; exact fl_add h (fl_neg h')
theorem fl_mul {a b:Rat} {n m:Nat} (h:fl a≤n) (h':fl b≤m):fl (a*b)≤n+m:=by
 rw [fl_le] at h h'
 rw [mul_mk]
 exact fl_mk (wl_mul h.1 h'.1) (blen_mul_le h.2 h'.2) (Nat.mul_pos a.den_pos b.den_pos)
theorem fl_int {z:Int} {n:Nat} (h:wl z≤n) (hn:1≤n):fl (z:Rat)≤n:=fl_le.2 ⟨h,Nat.le_trans (Nat.le_of_ble_eq_true rfl:blen 1≤1) hn⟩
theorem qo_ex:∃ x:(Rat→Rat→Rat) × (Rat→Rat→Rat) × (Rat→Rat→Rat) × (Rat→Rat→Rat) × (Int→Nat→Rat) × (Rat→Rat),x=((·+·),(·-·),(·*·),(· / ·),mkRat,(- ·)):=⟨_,rfl⟩
noncomputable def qo:(Rat→Rat→Rat) × (Rat→Rat→Rat) × (Rat→Rat→Rat) × (Rat→Rat→Rat) × (Int→Nat→Rat) × (Rat→Rat):=Classical.choose qo_ex
theorem qo_eq:qo=((·+·),(·-·),(·*·),(· / ·),mkRat,(- ·)):=Classical.choose_spec qo_ex
noncomputable def qadd (a b:Rat):Rat:=qo.1 a b
noncomputable def qsub (a b:Rat):Rat:=qo.2.1 a b
noncomputable def qmul (a b:Rat):Rat:=qo.2.2.1 a b
noncomputable def qlow (z:Int) (d:Nat):Rat:=qo.2.2.2.2.1 z d
noncomputable def qneg (a:Rat):Rat:=qo.2.2.2.2.2 a
theorem qadd_eq (a b):qadd a b=a+b:=by unfold qadd; rw [qo_eq]
theorem qsub_eq (a b):qsub a b=a-b:=by unfold qsub; rw [qo_eq]
theorem qmul_eq (a b):qmul a b=a*b:=by unfold qmul; rw [qo_eq]
theorem qlow_eq (z d):qlow z d=mkRat z d:=by unfold qlow; rw [qo_eq]
theorem qneg_eq (a):qneg a = -a:=by unfold qneg; rw [qo_eq]
theorem fl_qadd {a b:Rat} {n m:Nat} (h:fl a≤n) (h':fl b≤m):fl (qadd a b)≤n+m+1:=qadd_eq a b ▸ fl_add h h'
theorem fl_qsub {a b:Rat} {n m:Nat} (h:fl a≤n) (h':fl b≤m):fl (qsub a b)≤n+m+1:=qsub_eq a b ▸ fl_sub h h'
theorem fl_qmul {a b:Rat} {n m:Nat} (h:fl a≤n) (h':fl b≤m):fl (qmul a b)≤n+m:=qmul_eq a b ▸ fl_mul h h'
theorem fl_qneg {a:Rat} {n:Nat} (h:fl a≤n):fl (qneg a)≤n:=qneg_eq a ▸ fl_neg h
abbrev V3:=Rat × Rat × Rat
def pick (p:Nat) (a:V3):Rat:=if p=0 then a.1 else if p=1 then a.2.1 else a.2.2
theorem pick0 (a:V3):pick 0 a=a.1:=rfl
theorem pick1 (a:V3):pick 1 a=a.2.1:=rfl
theorem pick2 (a:V3):pick 2 a=a.2.2:=rfl
def vsc (k:Rat) (a:V3):V3:=(k*a.1,k*a.2.1,k*a.2.2)
def vad (a b:V3):V3:=(a.1+b.1,a.2.1+b.2.1,a.2.2+b.2.2)
def vsb (a b:V3):V3:=(a.1-b.1,a.2.1-b.2.1,a.2.2-b.2.2)
def vcr (a b:V3):V3:=(a.2.1*b.2.2-a.2.2*b.2.1,a.2.2*b.1-a.1*b.2.2,a.1*b.2.1-a.2.1*b.1)
def vdt (a b:V3):Rat:=a.1*b.1+a.2.1*b.2.1+a.2.2*b.2.2
def vdet (a b c:V3):Rat:=vdt a (vcr b c)
def v0:V3:=(0,0,0)
theorem v3_ext {a b:V3} (h1:a.1=b.1) (h2:a.2.1=b.2.1) (h3:a.2.2=b.2.2):a=b:=Prod.ext h1 (Prod.ext h2 h3)
theorem v0_iff (a:V3):a=v0 ↔ a.1=0∧a.2.1=0∧a.2.2=0:=⟨fun h=>by rw [h]; exact ⟨rfl,rfl,rfl⟩,fun h=>v3_ext h.1 h.2.1 h.2.2⟩
def nzP (a:V3):Option Nat:=if a.1 ≠ 0 then some 0 else if a.2.1 ≠ 0 then some 1 else if a.2.2 ≠ 0 then some 2 else none
theorem nz_none {a:V3} (h:nzP a=none):a=v0:=by
 unfold nzP at h
 by_cases h1:a.1=0
 · by_cases h2:a.2.1=0
   · by_cases h3:a.2.2=0
     · exact (v0_iff a).2 ⟨h1,h2,h3⟩
     · simp [h1,h2,h3] at h
   · simp [h1,h2] at h
 · simp [h1] at h
theorem nz_some {a:V3} {p:Nat} (h:nzP a=some p):pick p a ≠ 0∧p<3:=by
 unfold nzP at h
 by_cases h1:a.1=0
 · by_cases h2:a.2.1=0
   · by_cases h3:a.2.2=0
     · simp [h1,h2,h3] at h
     · simp [h1,h2,h3] at h; subst h; exact ⟨h3,by decide⟩
   · simp [h1,h2] at h; subst h; exact ⟨h2,by decide⟩
 · simp [h1] at h; subst h; exact ⟨h1,by decide⟩
theorem pick_sc (p:Nat) (k:Rat) (a:V3):pick p (vsc k a)=k*pick p a:=by
 unfold pick vsc; split
 · rfl
 · split<;>rfl
theorem pick_sb (p:Nat) (a b:V3):pick p (vsb a b)=pick p a-pick p b:=by
 unfold pick vsb; split
 · rfl
 · split<;>rfl
def red1 (r:V3) (p:Nat) (a:V3):V3:=vsb (vsc (pick p r) a) (vsc (pick p a) r)
theorem red1_p (r p a):pick p (red1 r p a)=0:=by
 unfold red1; rw [pick_sb,pick_sc,pick_sc]; grind
theorem mul_nz {a b:Rat} (ha:a ≠ 0) (hb:b ≠ 0):a*b ≠ 0:=fun h=>by
 rcases Rat.mul_eq_zero.1 h with h|h
 · exact ha h
 · exact hb h
theorem nz_of_mul {a b:Rat} (h:a*b ≠ 0):a ≠ 0∧b ≠ 0:=⟨fun e=>h (by rw [e,Rat.zero_mul]),fun e=>h (by rw [e,Rat.mul_zero])⟩
theorem zero_of_mul {a b:Rat} (ha:a ≠ 0) (h:a*b=0):b=0:=by
 rcases Rat.mul_eq_zero.1 h with h|h
 · exact absurd h ha
 · exact h
theorem cr_zero {a b:V3}:vcr a b=v0 ↔ a.2.1*b.2.2-a.2.2*b.2.1=0∧a.2.2*b.1-a.1*b.2.2=0∧a.1*b.2.1-a.2.1*b.1=0:=v0_iff _
theorem red_zero {r a:V3} {p:Nat} (hr:pick p r ≠ 0) (h:red1 r p a=v0):vcr a r=v0:=by
 have h':=(v0_iff _).1 h
 obtain ⟨h1,h2,h3⟩:=h'
 unfold red1 vsb vsc at h1 h2 h3
 simp only [] at h1 h2 h3
 rw [cr_zero]
 generalize hk:pick p r=k at *
 generalize pick p a=l at *
 refine ⟨zero_of_mul hr ?_,zero_of_mul hr ?_,zero_of_mul hr ?_⟩<;>grind
theorem cr_red (r a:V3) (p:Nat) (k:Rat):vcr r (vsc k (red1 r p a))=vsc (k*pick p r) (vcr r a):=by
 unfold red1 vsb vsc vcr
 generalize pick p r=x
 generalize pick p a=y
 refine v3_ext ?_ ?_ ?_<;>(simp only []; grind)
theorem cr_sc (k:Rat) (a b:V3):vcr (vsc k a) b=vsc k (vcr a b):=by
 unfold vsc vcr; refine v3_ext ?_ ?_ ?_<;>(simp only []; grind)
theorem sc_sc (k l:Rat) (a:V3):vsc k (vsc l a)=vsc (k*l) a:=by
 unfold vsc; refine v3_ext ?_ ?_ ?_<;>(simp only []; grind)
theorem dt_sc (k:Rat) (a b:V3):vdt a (vsc k b)=k*vdt a b:=by unfold vsc vdt; simp only []; grind
theorem dt_cr_self (a r:V3):vdt a (vcr r a)=0:=by unfold vdt vcr; simp only []; grind
theorem dt_par {b r s:V3} (h:vcr b r=v0):vdt b (vcr r s)=0:=by
 obtain ⟨h1,h2,h3⟩:=cr_zero.1 h
 unfold vdt vcr; simp only []; grind
theorem cr_zl (b:V3):vcr v0 b=v0:=by rw [cr_zero]; unfold v0; simp only []; refine ⟨?_,?_,?_⟩<;>grind
theorem cr_self (k:Rat) (a:V3):vcr a (vsc k a)=v0:=by rw [cr_zero]; unfold vsc; simp only []; refine ⟨?_,?_,?_⟩<;>grind
theorem third {r s a:V3} {p q:Nat} (hp:p<3) (hq:q<3) (hr:pick p r ≠ 0) (hs:pick q s ≠ 0) (h0:pick p s=0) (hn:red1 s q (red1 r p a) ≠ v0):vdt a (vcr r s) ≠ 0:=by
 intro hd
 have hpq:p ≠ q:=fun e=>hs (e ▸ h0)
 have e1:pick p (red1 s q (red1 r p a))=0:=by
  unfold red1; rw [pick_sb,pick_sc,pick_sc,pick_sb,pick_sc,pick_sc,h0]; grind
 have e2:=red1_p s q (red1 r p a)
 have key:vdt (red1 s q (red1 r p a)) (vcr r s)=pick q s*pick p r*vdt a (vcr r s):=by
  unfold red1 vsb vsc vdt vcr
  simp only []
  generalize pick q s=x
  generalize pick p r=y
  generalize pick p a=z
  generalize pick q _=w
  grind
 rw [hd,Rat.mul_zero] at key
 generalize red1 s q (red1 r p a)=b at *
 refine hn ((v0_iff _).2 ?_)
 unfold vdt vcr at key
 simp only [] at key
 rcases (show p=0∨p=1∨p=2 by omega) with rfl|rfl|rfl<;>rcases (show q=0∨q=1∨q=2 by omega) with rfl|rfl|rfl<;>first|exact absurd rfl hpq|skip
 all_goals simp only [pick0,pick1,pick2] at e1 e2 hr hs h0
 all_goals rw [e1,e2] at key
 all_goals rw [h0] at key
 · exact ⟨e1,e2,zero_of_mul (mul_nz hr hs) (by grind)⟩
 · exact ⟨e1,zero_of_mul (mul_nz hr hs) (by grind),e2⟩
 · exact ⟨e2,e1,zero_of_mul (mul_nz hr hs) (by grind)⟩
 · exact ⟨zero_of_mul (mul_nz hr hs) (by grind),e1,e2⟩
 · exact ⟨e2,zero_of_mul (mul_nz hr hs) (by grind),e1⟩
 · exact ⟨zero_of_mul (mul_nz hr hs) (by grind),e2,e1⟩
def Rk (l:List V3) (n:Nat):Prop :=
 (n=0∧∀ a ∈ l,a=v0) ∨
 (n=1∧(∃ a ∈ l,a ≠ v0)∧∀ a ∈ l,∀ b ∈ l,vcr a b=v0) ∨
 (n=2∧(∃ a ∈ l,∃ b ∈ l,vcr a b ≠ v0)∧∀ a ∈ l,∀ b ∈ l,∀ c ∈ l,vdet a b c=0) ∨
 (n=3∧∃ a ∈ l,∃ b ∈ l,∃ c ∈ l,vdet a b c ≠ 0)
theorem det_cr {a b c:V3} (h:vdet a b c ≠ 0):vcr b c ≠ v0:=fun e=>h (by unfold vdet; rw [e]; unfold vdt v0; simp only []; grind)
theorem cr_nz {a b:V3} (h:vcr a b ≠ v0):a ≠ v0:=fun e=>h (by rw [e]; exact cr_zl b)
theorem Rk.uniq {l:List V3} {n m:Nat} (h:Rk l n) (h':Rk l m):n=m:=by
 rcases h with ⟨rfl,h⟩|⟨rfl,⟨a,ha,h1⟩,h⟩|⟨rfl,⟨a,ha,b,hb,h1⟩,h⟩|⟨rfl,a,ha,b,hb,c,hc,h⟩ <;>
 rcases h' with ⟨rfl,k⟩|⟨rfl,⟨x,hx,k1⟩,k⟩|⟨rfl,⟨x,hx,y,hy,k1⟩,k⟩|⟨rfl,x,hx,y,hy,z,hz,k⟩
 all_goals first
  | rfl
  | exact absurd (h _ hx) k1
  | exact absurd (h _ hx) (cr_nz k1)
  | exact absurd (h _ hy) (cr_nz (det_cr k))
  | exact absurd (k _ ha) h1
  | exact absurd (h _ hx _ hy) k1
  | exact absurd (h _ hy _ hz) (det_cr k)
  | exact absurd (k _ ha) (cr_nz h1)
  | exact absurd (k _ ha _ hb) h1
  | exact absurd (h _ hx _ hy _ hz) k
  | exact absurd (k _ hb) (cr_nz (det_cr h))
  | exact absurd (k _ hb _ hc) (det_cr h)
  | exact absurd (k _ ha _ hb _ hc) h
end Go.Proofs.Ytapddfjimhohcaa.AM
