/- Package nat: the long division. -/
import Derived.Test.YtmahhmdeocnlgaaGreatDoorB4
namespace Go.Proofs.YtmahhmdeocnlgaaGreatDoor.AM
set_option linter.all false
set_option autoImplicit true
set_option relaxedAutoImplicit true
open Go Go.Proofs
set_option maxRecDepth 100000
set_option maxHeartbeats 8000000
set_option linter.unusedSimpArgs false
variable {P:Program}
noncomputable def Sd:Nat→List AV→Option (Prop × AV):=addS (addS Sc 171 guessS) 174 downS
theorem Sd_ok (hP:PrgOk P):EnvOk P ⟨T0,Sd⟩:=(((Sc_ok hP).add (guessS_ok hP)).add (downS_ok hP))
theorem Sd_at (f a):Sd f a=(addS (addS Sc 171 guessS) 174 downS) f a:=rfl
attribute [go_sem] Sd_at
theorem up_ic' (hP:PrgOk P) {L:List Nat} {m:Nat→AObj} {K:Nat→AV→(Nat→AObj)→Prop} {r nx0 N:Nat} {d:List Nat} {s n nd:Nat} (hm:GenM L m) (hr:L.contains r=true) (hmr:m r = .unused) (hrn:nx0+1+1=r) (hn3:n≤1099511627776) (hnd:d.length=nd) (hn:nd≤n) (hn1:n≤nd+1) (hd0:d ≠ []) (hd:∀ x ∈ d,x<18446744073709551616) (hs:s≤63)
 (k:∀ (w:List Nat),w.length=n→(∀ d ∈ w,d<18446744073709551616)→dOf 18446744073709551616 w+18446744073709551616^n*cup d s n=dOf 18446744073709551616 d*2^s→K N (.sl r 0 n 1) (upd m r (.live (List.map (fun d:Nat=>AV.int .u64 (d:Int)) (w))))) :
 icX (ICall P) 170 [.imm nd (List.map (fun d:Nat=>AV.int .u64 (d:Int)) (d)),.int .i64 (s:Int),.int .i64 (n:Int)] m (K:=⟨K⟩):=by
 subst hnd
 exact up_ic hP hm hr hmr hrn hn3 hn hn1 hd0 hd hs k
theorem get_pre {pre w tail:List Nat} {off i j:Nat} (hp:pre.length=off) (hi:i<w.length) (hj:j=off+i):(pre++(w++tail)).getD j 0=w.getD i 0:=by
 subst hp; subst hj
 induction pre with
 | nil=>simp only [List.nil_append,List.length_nil,Nat.zero_add,List.getD_eq_getElem?_getD]; rw [List.getElem?_append_left hi]
 | cons a pre ih=>simpa [Nat.add_right_comm] using ih
theorem len_pre {pre w tail:List Nat} {off i j:Nat} (hp:pre.length=off) (hi:i<w.length) (hj:j=off+i):j<(pre++(w++tail)).length:=by simp; omega
theorem dOf_top (l:List Nat) (n:Nat) (h:l.length=n+1):dOf 18446744073709551616 l=dOf 18446744073709551616 (l.take n)+18446744073709551616^n*l.getD n 0:=by
 have e:l.take n++[l.getD n 0]=l:=by
  rw [← take_snoc (by omega)]; exact List.take_of_length_le (by omega)
 conv=>lhs; rw [← e]
 rw [dOf_snoc,List.length_take,Nat.min_eq_left (by omega)]
theorem dOf_low {l:List Nat} {n:Nat} (h:∀ d ∈ l,d<18446744073709551616):dOf 18446744073709551616 (l.take n)<18446744073709551616^n:=by
 have h1:=dOf_lt 18446744073709551616 (l.take n) (fun d hd=>h d (List.mem_of_mem_take hd))
 refine Nat.lt_of_lt_of_le h1 (Nat.pow_le_pow_right (by decide) ?_)
 rw [List.length_take]; omega
theorem take_take_getD {l:List Nat} {n k:Nat} (h:n<k):(l.take k).getD n 0=l.getD n 0:=by
 simp only [List.getD_eq_getElem?_getD]; rw [List.getElem?_take_of_lt h]
theorem dOf_top2 (l:List Nat) (n:Nat) (h:l.length=n+2):dOf 18446744073709551616 l=(l.getD (n+1) 0*18446744073709551616+l.getD n 0)*18446744073709551616^n+dOf 18446744073709551616 (l.take n):=by
 rw [dOf_top l (n+1) h,dOf_top (l.take (n+1)) n (by rw [List.length_take]; omega),List.take_take,Nat.min_eq_left (by omega),take_take_getD (by omega),Nat.pow_succ,Nat.add_mul,Nat.mul_assoc (l.getD (n+1) 0),Nat.mul_comm (l.getD (n+1) 0),Nat.mul_comm (18446744073709551616^n) 18446744073709551616,Nat.mul_comm (l.getD n 0)]
 omega
theorem dOf_top3 (l:List Nat) (n:Nat) (h:l.length=n+3):dOf 18446744073709551616 l=((l.getD (n+2) 0*18446744073709551616+l.getD (n+1) 0)*18446744073709551616+l.getD n 0)*18446744073709551616^n+dOf 18446744073709551616 (l.take n):=by
 rw [dOf_top l (n+2) h,dOf_top2 (l.take (n+2)) n (by rw [List.length_take]; omega),List.take_take,Nat.min_eq_left (by omega),take_take_getD (by omega),take_take_getD (by omega)]
 rw [Nat.add_mul (l.getD (n+2) 0*18446744073709551616),Nat.add_mul _ (l.getD n 0),Nat.add_mul _ (l.getD n 0),Nat.add_mul (l.getD (n+2) 0*18446744073709551616*18446744073709551616)]
 have e:18446744073709551616^(n+2)*l.getD (n+2) 0=l.getD (n+2) 0*18446744073709551616*18446744073709551616*18446744073709551616^n:=by
  rw [Nat.pow_add,Nat.mul_comm,Nat.mul_comm (18446744073709551616^n),Nat.mul_assoc (l.getD (n+2) 0) 18446744073709551616 18446744073709551616,← Nat.mul_assoc]
 rw [e]
 omega
theorem le_of_mul_lt {a b p x y:Nat} (h:a*p+x<b*p+y) (hy:y<p):a≤b:=by
 rcases Nat.lt_or_ge b a with h1|h1
 · have:(b+1)*p≤a*p:=Nat.mul_le_mul_right _ h1
   rw [Nat.add_mul] at this; omega
 · exact h1
theorem long_step {B lo p x hi qs V w d U:Nat} (h:U=lo+p*x+p*B*(hi+qs*V)) (h1:w+d*V=x+B*hi):U=lo+p*(w+(d+B*qs)*V):=by
 rw [h]
 have e:=congrArg (p*·) h1
 simp only [Nat.mul_add,← Nat.mul_assoc] at e
 simp only [Nat.mul_add,Nat.add_mul,← Nat.mul_assoc]
 have e3:p*B*hi=p*B*hi:=rfl
 omega
theorem long_init {B A Bv V U hm s m n:Nat} {lo:Nat} (hB:0<B) (hU:U=A*s) (hV:V=Bv*s) (hA:A<B^(n+1+m)) (hb:B^(n+1)≤Bv) (hs:0<s) (e:U=lo+B^m*hm):hm<V:=by
 have h1:B^(n+1)*s≤V:=by rw [hV]; exact Nat.mul_le_mul_right _ hb
 have h2:B^m*(B^(n+1)*s)≤B^m*V:=Nat.mul_le_mul_left _ h1
 have h3:U<B^(n+1+m)*s:=by rw [hU]; exact Nat.mul_lt_mul_of_pos_right hA hs
 have h4:B^m*(B^(n+1)*s)=B^(n+1+m)*s:=by rw [← Nat.mul_assoc,← Nat.pow_add,Nat.add_comm m]
 have h5:B^m*hm<B^m*V:=by omega
 exact Nat.lt_of_mul_lt_mul_left h5
theorem long_end {A Bv V U hi qs s:Nat} (hU:U=A*s) (hV:V=Bv*s) (hs:0<s) (h:U=hi+qs*V) (hh:hi<V):qs=A / Bv∧hi / s=A % Bv:=by
 have h1:U / V=qs:=by rw [h,Nat.mul_comm,Nat.add_mul_div_left _ _ (by omega),Nat.div_eq_of_lt hh,Nat.zero_add]
 have h2:U % V=hi:=by rw [h,Nat.mul_comm,Nat.add_mul_mod_self_left,Nat.mod_eq_of_lt hh]
 rw [hU,hV,Nat.mul_div_mul_right _ _ hs] at h1
 rw [hU,hV,Nat.mul_mod_mul_right] at h2
 exact ⟨h1.symm,by rw [← h2,Nat.mul_div_cancel _ hs]⟩
theorem pv_lt {B x h V:Nat} (h1:x<B) (h2:h<V):x+B*h<B*V:=by
 have h3:B*(h+1)≤B*V:=Nat.mul_le_mul_left _ h2
 rw [Nat.mul_add] at h3; omega
theorem ge_B {B x y:Nat} (h:0<x):B≤x*B+y:=by
 have:=Nat.mul_le_mul_right B h
 rw [Nat.succ_mul,Nat.zero_mul] at this; omega
theorem dOf_zero {l:List Nat} (h:∀ d ∈ l,d=0):dOf 18446744073709551616 l=0:=by
 induction l with
 | nil=>rfl
 | cons a l ih=>simp only [dOf]; rw [h a (by simp),ih (fun d hd=>h d (by simp [hd]))]
theorem away_pos {w V d P Bn b:Nat} (h:w+V*d=P+Bn*b) (hb:b≤1) (hne:b ≠ 0) (hw:w<Bn):b=1∧∃ d',d=d'+1:=by
 have:b=1:=by omega
 subst this
 refine ⟨rfl,?_⟩
 cases d with
 | zero=>rw [Nat.mul_zero] at h; omega
 | succ d=>exact ⟨d,rfl⟩
theorem long_spec (hP:PrgOk P) (a b:List Nat) (ha:∀ d ∈ a,d<18446744073709551616) (hb:∀ d ∈ b,d<18446744073709551616) (hb2:2≤b.length) (hab:b.length≤a.length) (hal:a.length+1≤1099511627776) (htop:b.getD (b.length-1) 0 ≠ 0):CSpec P 149 [.imm a.length (List.map (fun d:Nat=>AV.int .u64 (d:Int)) (a)),.imm b.length (List.map (fun d:Nat=>AV.int .u64 (d:Int)) (b))] (.tup [(.agg [.opq (.nat (dOf 18446744073709551616 a / dOf 18446744073709551616 b)),.pad]),(.agg [.opq (.nat (dOf 18446744073709551616 a % dOf 18446744073709551616 b)),.pad])]):=by
 have HE:=Sd_ok hP
 refine CSpec_go (E:=⟨T0,Sd⟩) (fn149 hP) HE hP.mix ?_
 obtain ⟨n,hn⟩:∃ n,b.length=n+2:=⟨b.length-2,by omega⟩
 have hn1:n+1<b.length:=by omega
 have hn2:n+1<n+2:=by omega
 have hn3:n+1≤b.length:=by omega
 have hn4:n+1≤n+2:=by omega
 have hwn:=wi_nat (n+1) (by omega)
 have htd:=hb _ (getD_mem hn1)
 rw [hn,show n+2-1=n+1 by omega] at htop
 obtain ⟨s,hs⟩:∃ s,64-blen (b.getD (n+1) 0)=s:=⟨_,rfl⟩
 have hb0:¬ blen (b.getD (n+1) 0)≤0:=by rw [Nat.le_zero,blen_zero_iff]; exact htop
 have hb64:blen (b.getD (n+1) 0)≤64:=(blen_le_iff _ 64).2 htd
 have hs63:s≤63:=by omega
 rw [hn]
 simp only [go_sem,hn1,hn2,hn3,hn4,hwn,gU' hn1,htd,hs]
 obtain ⟨m,hm,hm1⟩:∃ m,a.length=n+1+m∧0<m:=⟨a.length-(n+1),by omega,by omega⟩
 have hla:=wi_add1 a.length (by omega)
 have hbn:0<b.length:=by omega
 refine up_ic' hP (L:=[67,42,18,1,0]) (r:=18) (nx0:=16) (N:=30) (by repeat (first|exact GenM.nil|refine GenM.upd ?_ rfl (by first|rfl|exact objOnly_U))) rfl rfl rfl (by omega) hn (by omega) (by omega) (by intro e; rw [e] at hbn; simp at hbn) hb hs63 ?_
 intro v hv1 hv2 hv3
 simp only [go_sem,hla]
 have hal1:a.length+1≤1099511627776:=hal
 refine up_ic' hP (L:=[67,42,18,1,0]) (r:=42) (nx0:=40) (N:=60) (by repeat (first|exact GenM.nil|refine GenM.upd ?_ rfl (by first|rfl|exact objOnly_U))) rfl rfl rfl hal rfl (Nat.le_succ _) (Nat.le_refl _) (by intro e; rw [e] at hm; simp at hm; omega) ha hs63 ?_
 intro u hu1 hu2 hu3
 have hcv:cup b s (n+2)=0:=by
  unfold cup; rw [if_neg (by omega),show n+2-1=n+1 by omega]
  refine Nat.div_eq_of_lt ?_
  have:=blen_lt (b.getD (n+1) 0)
  rwa [show blen (b.getD (n+1) 0)=64-s by omega] at this
 have hcu:cup a s (a.length+1)=0:=by
  unfold cup; rw [if_neg (by omega),Nat.add_sub_cancel,getD_ge (Nat.le_refl _),Nat.zero_div]
 rw [hcv,Nat.mul_zero,Nat.add_zero] at hv3
 rw [hcu,Nat.mul_zero,Nat.add_zero] at hu3
 have hwm:IntKind.i64.wrap (((a.length+1:Nat):Int)-((n+2:Nat):Int))=(m:Int):=by rw [IntKind.wrap_i64]; omega
 have hwp:=wi_pred' m (by omega)
 have hml:m≤1099511627776:=by omega
 have hbge:18446744073709551616^(n+1)≤dOf 18446744073709551616 b:=by
  rw [dOf_top b (n+1) hn]
  have:18446744073709551616^(n+1)*1≤18446744073709551616^(n+1)*b.getD (n+1) 0:=Nat.mul_le_mul_left _ (by omega)
  omega
 have hvt:0<v.getD (n+1) 0:=by
  rcases Nat.eq_zero_or_pos (v.getD (n+1) 0) with h|h
  · have h1:=dOf_top v (n+1) hv1
    rw [h,Nat.mul_zero,Nat.add_zero,hv3] at h1
    have h2:=dOf_low (n:=n+1) hv2
    have h3:dOf 18446744073709551616 b*1≤dOf 18446744073709551616 b*2^s:=Nat.mul_le_mul_left _ (Nat.two_pow_pos s)
    omega
  · exact h
 have hv0:0<dOf 18446744073709551616 v:=by
  rw [hv3]; exact Nat.mul_pos (Nat.lt_of_lt_of_le (Nat.pow_pos (by decide)) hbge) (Nat.two_pow_pos s)
 have hum:(u.take m).length=m:=by rw [List.length_take]; omega
 have hus:dOf 18446744073709551616 u=dOf 18446744073709551616 (u.take m)+18446744073709551616^m*dOf 18446744073709551616 (u.drop m):=by
  conv=>lhs; rw [← List.take_append_drop m u]
  rw [dOf_append,hum]
 have hA:dOf 18446744073709551616 a<18446744073709551616^(n+1+m):=by rw [← hm]; exact dOf_lt 18446744073709551616 a ha
 have hinit:=long_init (B:=18446744073709551616) (by decide) hu3 hv3 hA hbge (Nat.two_pow_pos s) hus
 clear hcv hcu hA
 simp only [go_sem,hwm,hwp,hml]
 refine trX_loop HE hP.mix [67,42,18,1,0] (fun q:Nat × List Nat × List Nat × List Nat=>⟨upd (upd (upd (upd (upd (upd (upd (upd (fun _=>.junk) 4 (.ref 0 0)) 5 (.ref 1 0)) 6 (.int .i64 ((n+2:Nat):Int))) 7 (.int .i64 (s:Int))) 8 (.sl 18 0 (n+2) 1)) 9 (.sl 42 0 (a.length+1) 1)) 11 (.sl 67 0 m 1)) 12 (.int .i64 ((q.1:Int)-1)),upd (upd (upd (upd (upd (fun _=>.unused) 0 (.live [.int .u64 0,.nils])) 1 (.live [.int .u64 0,.nils])) 18 (.live (List.map (fun d:Nat=>AV.int .u64 (d:Int)) (v)))) 42 (.live (List.map (fun d:Nat=>AV.int .u64 (d:Int)) (u.take q.1++(q.2.1++q.2.2.1))))) 67 (.live (List.map (fun d:Nat=>AV.int .u64 (d:Int)) (List.replicate q.1 0++q.2.2.2))),100⟩)
  (fun q=>q.1≤m∧q.2.1.length=n+2∧(∀ d ∈ q.2.1,d<18446744073709551616)∧(∀ d ∈ q.2.2.1,d=0)∧q.2.2.1.length+q.1=m∧q.2.2.2.length+q.1=m∧(∀ d ∈ q.2.2.2,d<18446744073709551616)∧dOf 18446744073709551616 q.2.1<dOf 18446744073709551616 v∧dOf 18446744073709551616 u=dOf 18446744073709551616 (u.take q.1)+18446744073709551616^q.1*(dOf 18446744073709551616 q.2.1+dOf 18446744073709551616 q.2.2.2*dOf 18446744073709551616 v)) (fun q=>q.1) (m,u.drop m,[],[]) 80
  Has.z (Kept.of rfl KT.z (by
   have e1:u.take m++(u.drop m++[])=u:=by rw [List.append_nil,List.take_append_drop]
   have e2:List.replicate m 0++([]:List Nat)=List.replicate m 0:=List.append_nil _
   simp only []; rw [e1,e2]; exact KM.z)) ⟨by simp,by simp; omega,fun d hd=>hu2 d (List.mem_of_mem_drop hd),by simp,by simp,by simp,by simp,hinit,by simp only [dOf,Nat.zero_mul,Nat.add_zero]; exact hus⟩ 100 (by kernel_rfl) ?_
 rintro ⟨k',hi,tail,qs⟩ ⟨q1,q2,q3,q4,q5,q6,q7,q8,q9⟩
 simp only [] at q1 q2 q3 q4 q5 q6 q7 q8 q9
 cases k' with
 | zero =>
   have h0:((0:Int)≤((0:Nat):Int)-1)=False:=by simp
   have e1:qs.take m=qs:=List.take_of_length_le (by omega)
   have e2:(hi++tail).take (a.length+1)=hi++tail:=List.take_of_length_le (by rw [List.length_append]; omega)
   have e3:∀ d ∈ hi++tail,d<18446744073709551616:=fun d hd=>by
    rcases List.mem_append.1 hd with hd|hd
    · exact q3 d hd
    · rw [q4 d hd]; decide
   obtain ⟨f1,f2⟩:=long_end hu3 hv3 (Nat.two_pow_pos s) (by simpa [dOf] using q9) q8
   simp only [go_sem,h0,e1,e2]
   refine ⟨⟨⟨by omega,q7,by omega⟩,by omega⟩,⟨⟨by omega,e3,by omega,hs63⟩,by omega⟩,?_⟩
   rw [dOf_append,dOf_zero q4,Nat.mul_zero,Nat.add_zero,f1,f2]
   exact .refl _
 | succ j =>
   have hju:j<u.length:=by omega
   have hpl:(u.take j).length=j:=by rw [List.length_take]; omega
   obtain ⟨w,hw⟩:∃ w,u.getD j 0::hi=w:=⟨_,rfl⟩
   have hZ:u.take (j+1)++(hi++tail)=u.take j++(w++tail):=by rw [take_snoc hju,← hw]; simp
   have hwl:w.length=n+2+1:=by rw [← hw]; simp [q2]
   have hwd:∀ d ∈ w,d<18446744073709551616:=fun d hd=>by
    rw [← hw] at hd
    rcases List.mem_cons.1 hd with rfl|hd
    · exact hu2 _ (getD_mem hju)
    · exact q3 d hd
   have hwP:dOf 18446744073709551616 w=u.getD j 0+18446744073709551616*dOf 18446744073709551616 hi:=by rw [← hw]; rfl
   have c1:IntKind.i64.wrap ((j:Int)+((n+2:Nat):Int))=((j+(n+2):Nat):Int):=wi_add _ _ (by omega)
   have c2:=wi_add1 (j+(n+2)) (by omega)
   have c3:=wi_nat (n+1) (by omega)
   have c4:IntKind.i64.wrap (((n+2:Nat):Int)-2)=((n:Nat):Int):=by rw [IntKind.wrap_i64]; omega
   have c5:(((j+(n+2)+1:Nat):Int)-(j:Int)).toNat=n+2+1:=by omega
   have g2:=get_pre (tail:=tail) hpl (show n+2<w.length by omega) rfl
   have g1:=get_pre (tail:=tail) hpl (show n+1<w.length by omega) rfl
   have g0:=get_pre (tail:=tail) hpl (show n<w.length by omega) rfl
   have l2:=len_pre (tail:=tail) hpl (show n+2<w.length by omega) rfl
   have l1:=len_pre (tail:=tail) hpl (show n+1<w.length by omega) rfl
   have l0:=len_pre (tail:=tail) hpl (show n<w.length by omega) rfl
   have v1:n+1<v.length:=by omega
   have v0:n<v.length:=by omega
   have x1:j+(n+2)+1≤a.length+1:=by omega
   rw [hZ]
   simp only [go_sem,c1,c2,c3,c4,c5,g2,g1,g0,gU l2,gU l1,gU l0,gU v1,gU v0,x1]
   have hP2:=dOf_top2 hi n q2
   have hV2:=dOf_top2 v n hv1
   have hP3:=dOf_top3 w n hwl
   have lowV:=dOf_low (n:=n) hv2
   have lowP:=dOf_low (n:=n) hwd
   have lowH:=dOf_low (n:=n) q3
   have ew2:w.getD (n+2) 0=hi.getD (n+1) 0:=by rw [← hw]; rfl
   have ew1:w.getD (n+1) 0=hi.getD n 0:=by rw [← hw]; rfl
   have hle:w.getD (n+2) 0*18446744073709551616+w.getD (n+1) 0≤v.getD (n+1) 0*18446744073709551616+v.getD n 0:=by
    rw [ew2,ew1]
    rw [hP2,hV2] at q8
    exact le_of_mul_lt q8 lowV
   have hPV:dOf 18446744073709551616 w<18446744073709551616*dOf 18446744073709551616 v:=by
    rw [hwP]; exact pv_lt (hu2 _ (getD_mem hju)) q8
   have hvB:=ge_B (B:=18446744073709551616) (y:=v.getD n 0) hvt
   obtain ⟨d1,d2,d3⟩:=gdig_good hV2 lowV hP3 lowP hvB (by decide) hPV (gdig_eq (w.getD (n+2) 0) (w.getD (n+1) 0) (w.getD n 0) (v.getD (n+1) 0) (v.getD n 0))
   have hgc:guessC (w.getD (n+2) 0) (w.getD (n+1) 0) (w.getD n 0) (v.getD (n+1) 0) (v.getD n 0) :=
    ⟨hwd _ (getD_mem (by omega)),hwd _ (getD_mem (by omega)),hwd _ (getD_mem (by omega)),hv2 _ (getD_mem (by omega)),hv2 _ (getD_mem (by omega)),hle,hvt⟩
   refine ⟨⟨.inr (by omega),by omega⟩,by omega,by rw [hpl]; omega,by omega,by rw [hpl]; omega,by omega,by rw [hpl]; omega,by omega,by omega,by omega,by omega,hgc,?_⟩
   clear hgc g2 g1 g0 l2 l1 l0 hP2 hV2 hP3 lowV lowP lowH ew2 ew1 hle hPV hvB
   generalize gdig (w.getD (n+2) 0) (w.getD (n+1) 0) (w.getD n 0) (v.getD (n+1) 0) (v.getD n 0)=d at *
   have hVn:dOf 18446744073709551616 v<18446744073709551616^(n+2+1):=by
    have h1:=dOf_lt 18446744073709551616 v hv2
    rw [hv1] at h1
    exact Nat.lt_of_lt_of_le h1 (Nat.pow_le_pow_right (by decide) (by omega))
   have hrep:∀ x,(List.replicate (j+1) 0++qs).set j x=List.replicate j 0++(x::qs):=fun x=>by
    rw [List.replicate_succ',List.append_assoc]; exact set_app (List.length_replicate)
   have hjl:j<j+1+qs.length:=by omega
   have hjq:j<(List.replicate (j+1) 0++qs).length:=by simp; omega
   have hjm:j<m:=by omega
   have hwj:=wi_pred' j (by omega)
   have fin:∀ (w2:List Nat) (d':Nat),w2.length=n+2+1→(∀ d ∈ w2,d<18446744073709551616)→d'<18446744073709551616→dOf 18446744073709551616 w2<dOf 18446744073709551616 v→dOf 18446744073709551616 w2+d'*dOf 18446744073709551616 v=dOf 18446744073709551616 w→∀ St',Kept [67,42,18,1,0] St' ⟨upd (upd (upd (upd (upd (upd (upd (upd (fun _=>.junk) 4 (.ref 0 0)) 5 (.ref 1 0)) 6 (.int .i64 ((n+2:Nat):Int))) 7 (.int .i64 (s:Int))) 8 (.sl 18 0 (n+2) 1)) 9 (.sl 42 0 (a.length+1) 1)) 11 (.sl 67 0 m 1)) 12 (.int .i64 ((j:Int)-1)),upd (upd (upd (upd (upd (fun _=>.unused) 0 (.live [.int .u64 0,.nils])) 1 (.live [.int .u64 0,.nils])) 18 (.live (List.map (fun d:Nat=>AV.int .u64 (d:Int)) (v)))) 42 (.live (List.map (fun d:Nat=>AV.int .u64 (d:Int)) (u.take j++(w2++tail))))) 67 (.live (List.map (fun d:Nat=>AV.int .u64 (d:Int)) (List.replicate j 0++(d'::qs)))),100⟩ →
    ∃ q:Nat × List Nat × List Nat × List Nat,Kept [67,42,18,1,0] St' ⟨upd (upd (upd (upd (upd (upd (upd (upd (fun _=>.junk) 4 (.ref 0 0)) 5 (.ref 1 0)) 6 (.int .i64 ((n+2:Nat):Int))) 7 (.int .i64 (s:Int))) 8 (.sl 18 0 (n+2) 1)) 9 (.sl 42 0 (a.length+1) 1)) 11 (.sl 67 0 m 1)) 12 (.int .i64 ((q.1:Int)-1)),upd (upd (upd (upd (upd (fun _=>.unused) 0 (.live [.int .u64 0,.nils])) 1 (.live [.int .u64 0,.nils])) 18 (.live (List.map (fun d:Nat=>AV.int .u64 (d:Int)) (v)))) 42 (.live (List.map (fun d:Nat=>AV.int .u64 (d:Int)) (u.take q.1++(q.2.1++q.2.2.1))))) 67 (.live (List.map (fun d:Nat=>AV.int .u64 (d:Int)) (List.replicate q.1 0++q.2.2.2))),100⟩∧(q.1≤m∧q.2.1.length=n+2∧(∀ d ∈ q.2.1,d<18446744073709551616)∧(∀ d ∈ q.2.2.1,d=0)∧q.2.2.1.length+q.1=m∧q.2.2.2.length+q.1=m∧(∀ d ∈ q.2.2.2,d<18446744073709551616)∧dOf 18446744073709551616 q.2.1<dOf 18446744073709551616 v∧dOf 18446744073709551616 u=dOf 18446744073709551616 (u.take q.1)+18446744073709551616^q.1*(dOf 18446744073709551616 q.2.1+dOf 18446744073709551616 q.2.2.2*dOf 18446744073709551616 v))∧q.1<j+1:=by
    intro w2 d' k1 k2 k3 k4 k5 St' hk
    have z1:=dOf_top w2 (n+2) k1
    have z2:w2.getD (n+2) 0=0:=by
     rcases Nat.eq_zero_or_pos (w2.getD (n+2) 0) with h|h
     · exact h
     · have h1:18446744073709551616^(n+2)*1≤18446744073709551616^(n+2)*w2.getD (n+2) 0:=Nat.mul_le_mul_left _ h
       have h2:=dOf_lt 18446744073709551616 v hv2
       rw [hv1] at h2; omega
    rw [z2,Nat.mul_zero,Nat.add_zero] at z1
    have z3:w2=w2.take (n+2)++[0]:=by
     conv=>lhs; rw [← List.take_of_length_le (Nat.le_of_eq k1),take_snoc (by omega),z2]
    refine ⟨(j,w2.take (n+2),0::tail,d'::qs),?_,⟨by simp only []; omega,by simp only [List.length_take]; omega,fun d hd=>k2 d (List.mem_of_mem_take hd),?_,by simp only [List.length_cons]; omega,by simp only [List.length_cons]; omega,?_,by simp only []; rw [← z1]; exact k4,?_⟩,by simp only []; omega⟩
    · have e:w2++tail=w2.take (n+2)++(0::tail):=by
       conv=>lhs; rw [z3]
       rw [List.append_assoc]; rfl
      rw [e] at hk; exact hk
    · intro d hd
      rcases List.mem_cons.1 hd with rfl|hd
      · rfl
      · exact q4 d hd
    · intro d hd
      rcases List.mem_cons.1 hd with rfl|hd
      · exact k3
      · exact q7 d hd
    · simp only []
      rw [dOf_take_succ 18446744073709551616 u j hju,Nat.pow_succ] at q9
      rw [hwP] at k5
      rw [← z1]
      have:=long_step q9 k5
      simp only [dOf]; exact this
   refine away_ic hP (L:=[67,42,18,1,0]) (by repeat (first|exact GenM.nil|refine GenM.upd ?_ rfl (by first|rfl|exact objOnly_U))) rfl rfl rfl rfl rfl hpl hwl hv1 (by omega) hwd hv2 d1 ?_
   intro nx w1 b1 r1 r2 r3 r4
   have hw1n:dOf 18446744073709551616 w1<18446744073709551616^(n+2+1):=by have:=dOf_lt 18446744073709551616 w1 r2; rwa [r1] at this
   simp only [go_sem]
   refine if_split (fun hc=>?_) (fun hc=>?_)
   · have hc:b1 ≠ 0:=by simpa using hc
     obtain ⟨hb1,d',rfl⟩:=away_pos r4 r3 hc hw1n
     have hu:=u_nat d' (by omega)
     simp only [go_sem,hu]
     refine back_ic hP (L:=[67,42,18,1,0]) (by repeat (first|exact GenM.nil|refine GenM.upd ?_ rfl (by first|rfl|exact objOnly_U))) rfl rfl rfl rfl rfl hpl r1 hv1 (by omega) r2 hv2 ?_
     intro nx2 w2 c2' t1 t2 t3 t4
     have hw2n:dOf 18446744073709551616 w2<18446744073709551616^(n+2+1):=by have:=dOf_lt 18446744073709551616 w2 t2; rwa [t1] at this
     obtain ⟨d'',hd'',s8,s9⟩:=away_much r4 hb1 hw1n d2 t3 t4 hVn hw2n
     obtain rfl:d'=d'':=by omega
     simp only [go_sem,hrep,hjl,hjm,hwj,gU hjq]
     refine fin w2 d' t1 t2 (by omega) s8 s9 _ ?_
     exact Kept.of rfl KT.z KM.z
   · have hc:b1=0:=by simpa using hc
     obtain ⟨s8,s9⟩:=away_none r4 hc d3
     simp only [go_sem,hrep,hjl,hjm,hwj,gU hjq]
     refine fin w1 d r1 r2 d1 s8 s9 _ ?_
     exact Kept.of rfl KT.z KM.z
def longC (n m:Nat) (a b:List Nat):Prop:=n=a.length∧m=b.length∧(∀ d ∈ a,d<18446744073709551616)∧(∀ d ∈ b,d<18446744073709551616)∧2≤b.length∧b.length≤a.length∧a.length+1≤1099511627776∧b.getD (b.length-1) 0 ≠ 0
noncomputable def longS:List AV→Option (Prop × AV)
 | [.imm n xs,.imm m ys]=>some ((xs=(List.map (fun d:Nat=>AV.int .u64 (d:Int)) (xs.map ud))∧ys=(List.map (fun d:Nat=>AV.int .u64 (d:Int)) (ys.map ud)))∧longC n m (xs.map ud) (ys.map ud),.tup [(.agg [.opq (.nat (dOf 18446744073709551616 (xs.map ud) / dOf 18446744073709551616 (ys.map ud))),.pad]),(.agg [.opq (.nat (dOf 18446744073709551616 (xs.map ud) % dOf 18446744073709551616 (ys.map ud))),.pad])])
 | _=>none
theorem longS_ok (hP:PrgOk P) (args p r) (h:longS args=some (p,r)) (hp:p):CSpec P 149 args r:=by
 unfold longS at h
 split at h
 · simp only [Option.some.injEq,Prod.mk.injEq] at h
   obtain ⟨rfl,rfl⟩:=h
   exact (by rename_i n xs m ys; obtain ⟨⟨a1,a2⟩,b1,b2,b3,b4,b5,b6,b7,b8⟩:=hp; have:=long_spec hP _ _ b3 b4 b5 b6 b7 b8; rw [← a1,← a2,← b1,← b2] at this; exact this)
 · simp at h
attribute [go_sem] longS
noncomputable def Se:Nat→List AV→Option (Prop × AV):=addS Sd 149 longS
theorem Se_ok (hP:PrgOk P):EnvOk P ⟨T0,Se⟩:=((Sd_ok hP).add (longS_ok hP))
theorem Se_at (f a):Se f a=(addS Sd 149 longS) f a:=rfl
attribute [go_sem] Se_at
theorem Div_zero (hP:PrgOk P) (a:Nat):CSpec P 105 [(.agg [.opq (.nat (a)),.pad]),(.agg [.opq (.nat (0)),.pad])] (.tup [(.agg [.opq (.nat (0)),.pad]),(.agg [.opq (.nat (0)),.pad]),.int .i64 11]):=by
 have HE:=Se_ok hP
 have hb:blen 0≤68719476736:=by decide
 have hb2:blen 0=0:=by decide
 have e0:natC 0=[.int .u64 0,.nils]:=natC_small (by decide)
 have e:CvL [.agg [.int .u64 0,.nils],.agg [.int .u64 0,.nils],.int .i64 11] [(.agg [.opq (.nat (0)),.pad]),(.agg [.opq (.nat (0)),.pad]),.int .i64 11]:=by
  have:=CvL.natOut 0 (CvL.natOut 0 (CvL.refl [.int .i64 11]))
  rwa [e0] at this
 refine CSpec_go (E:=⟨T0,Se⟩) (fn105 hP) HE hP.mix ?_
 simp only [go_sem,hb,hb2]
 exact CvL.conv (CvL.tup e .nil)
theorem Div_less (hP:PrgOk P) (a b:Nat) (ha:blen a≤68719476736) (hb:blen b≤68719476736) (h:a<b):CSpec P 105 [(.agg [.opq (.nat (a)),.pad]),(.agg [.opq (.nat (b)),.pad])] (.tup [(.agg [.opq (.nat (0)),.pad]),(.agg [.opq (.nat (a)),.pad]),.int .i64 0]):=by
 have HE:=Se_ok hP
 have hb2:(blen b == 0)=false:=by
  have:blen b ≠ 0:=by rw [Ne,blen_zero_iff]; omega
  simpa using this
 have hc:decide (cmpI a b<0)=true:=by rw [cmpI_lt h]; rfl
 have e0:natC 0=[.int .u64 0,.nils]:=natC_small (by decide)
 have e:CvL [.agg [.int .u64 0,.nils],(.agg [.opq (.nat (a)),.pad]),.int .i64 0] [(.agg [.opq (.nat (0)),.pad]),(.agg [.opq (.nat (a)),.pad]),.int .i64 0]:=by
  have:=CvL.natOut 0 (CvL.refl [(.agg [.opq (.nat (a)),.pad]),.int .i64 0])
  rwa [e0] at this
 refine CSpec_go (E:=⟨T0,Se⟩) (fn105 hP) HE hP.mix ?_
 simp only [go_sem,ha,hb,hb2,hc]
 exact CvL.conv (CvL.tup e .nil)
theorem cmp_ge {a b:Nat} (h:b≤a):decide (cmpI a b<0)=false:=by
 rcases Nat.lt_or_ge b a with h'|h'
 · rw [cmpI_gt h']; rfl
 · rw [Nat.le_antisymm h h',cmpI_eq]; rfl
theorem divmod_of {W A y c:Nat} (h:W*y+c=A) (hc:c<y):W=A / y∧c=A % y:=by
 have h1:A / y=W:=by rw [← h,Nat.mul_comm,Nat.mul_add_div (by omega),Nat.div_eq_of_lt hc,Nat.add_zero]
 have h2:A % y=c:=by rw [← h,Nat.mul_comm,Nat.mul_add_mod,Nat.mod_eq_of_lt hc]
 exact ⟨h1.symm,h2.symm⟩
theorem Div_pos (hP:PrgOk P) (a b:Nat) (ha:blen a≤68719476736) (hb:blen b≤68719476736) (h0:0<b) (h:b≤a):CSpec P 105 [(.agg [.opq (.nat (a)),.pad]),(.agg [.opq (.nat (b)),.pad])] (.tup [(.agg [.opq (.nat (a / b)),.pad]),(.agg [.opq (.nat (a % b)),.pad]),.int .i64 0]):=by
 have HE:=Se_ok hP
 have hb2:(blen b == 0)=false:=by
  have:blen b ≠ 0:=by rw [Ne,blen_zero_iff]; omega
  simpa using this
 have hc:=cmp_ge h
 refine CSpec.cv ?_ (CvL.natIn a (CvL.natIn b .nil))
 by_cases hb1:b<18446744073709551616
 · by_cases ha1:a<18446744073709551616
   · rw [natC_small ha1,natC_small hb1]
     have hq:=wu_div a b ha1
     have hr:=u_mod a b
     have hqb:a / b<18446744073709551616:=Nat.lt_of_le_of_lt (Nat.div_le_self _ _) ha1
     have hrb:a % b<18446744073709551616:=Nat.lt_of_le_of_lt (Nat.mod_le _ _) ha1
     have e:CvL [.agg [.int .u64 ((a / b:Nat):Int),.nils],.agg [.int .u64 ((a % b:Nat):Int),.nils],.int .i64 0] [(.agg [.opq (.nat (a / b)),.pad]),(.agg [.opq (.nat (a % b)),.pad]),.int .i64 0]:=by
      have:=CvL.natOut (a / b) (CvL.natOut (a % b) (CvL.refl [.int .i64 0]))
      rwa [natC_small hqb,natC_small hrb] at this
     refine CSpec_go (E:=⟨T0,Se⟩) (fn105 hP) HE hP.mix ?_
     simp only [go_sem,ha,hb,ha1,hb1,hb2,hc,hq,hr]
     exact ⟨by omega,by omega,CvL.conv (CvL.tup e .nil)⟩
   · rw [natC_great ha1,natC_small hb1]
     have hxd:∀ d ∈ digs 18446744073709551616 a,d<18446744073709551616:=digs_lt 18446744073709551616 a (by decide)
     have hx:=dOf_digs 18446744073709551616 a (by decide)
     have hlx:=digs_len_blen a
     have hl:=digs_length_gt 18446744073709551616 a 1 (by decide) (by omega)
     have hl2:2≤(digs 18446744073709551616 a).length:=by omega
     have hl3:((digs 18446744073709551616 a).length ≠ 0)=True:=eq_true (by omega)
     refine CSpec_go (E:=⟨T0,Se⟩) (fn105 hP) HE hP.mix ?_
     simp only [go_sem,ha,hb,hb1,hb2,hc,hl2,hl3]
     generalize digs 18446744073709551616 a=x at *
     refine ⟨⟨fun _=>by omega,by omega⟩,?_⟩
     refine short_ic hP (L:=[24,3,2,1,0]) (tail:=[]) (w:=x) (by repeat (first|exact GenM.nil|refine GenM.upd ?_ rfl (by first|rfl|exact objOnly_U|(simp only [go_sem,objOnly]; done)))) rfl (by rw [List.append_nil]; rfl) rfl (by omega) hxd hb1 h0 ?_
     intro nx w' c w1 w2 w3 w4
     have hwt:w'.take x.length=w':=List.take_of_length_le (by omega)
     have hz3:(∀ d ∈ w',d<18446744073709551616)=True:=eq_true w2
     have hsl:x.length<4611686018427387904:=by omega
     rw [List.append_nil]
     simp only [go_sem,hwt,hz3,w1,hsl]
     have hdm:=divmod_of w4 w3
     rw [hx] at hdm
     have e:CvL [(.agg [.opq (.nat (dOf 18446744073709551616 w')),.pad]),.agg [.int .u64 ((c:Nat):Int),.nils],.int .i64 0] [(.agg [.opq (.nat (a / b)),.pad]),(.agg [.opq (.nat (a % b)),.pad]),.int .i64 0]:=by
      have:=CvL.natOut c (CvL.refl [.int .i64 0])
      rw [natC_small (show c<18446744073709551616 by omega)] at this
      rw [← hdm.2,hdm.1]
      exact CvL.agg (.refl _) this
     exact CvL.conv (CvL.tup e .nil)
 · have ha1:¬ a<18446744073709551616:=by omega
   rw [natC_great ha1,natC_great hb1]
   have hxd:∀ d ∈ digs 18446744073709551616 a,d<18446744073709551616:=digs_lt 18446744073709551616 a (by decide)
   have hyd:∀ d ∈ digs 18446744073709551616 b,d<18446744073709551616:=digs_lt 18446744073709551616 b (by decide)
   have hx:=dOf_digs 18446744073709551616 a (by decide)
   have hy:=dOf_digs 18446744073709551616 b (by decide)
   have hlx:=digs_len_blen a
   have hl:=digs_length_gt 18446744073709551616 a 1 (by decide) (by omega)
   have hm:=digs_length_gt 18446744073709551616 b 1 (by decide) (by omega)
   have hl2:2≤(digs 18446744073709551616 a).length:=by omega
   have hl3:((digs 18446744073709551616 a).length ≠ 0)=True:=eq_true (by omega)
   have hm2:2≤(digs 18446744073709551616 b).length:=by omega
   have hm3:((digs 18446744073709551616 b).length ≠ 0)=True:=eq_true (by omega)
   have hle:(digs 18446744073709551616 b).length≤(digs 18446744073709551616 a).length:=by
    rcases Nat.lt_or_ge (digs 18446744073709551616 a).length (digs 18446744073709551616 b).length with h'|h'
    · have:=digs_len_lt 18446744073709551616 a b (by decide) h'; omega
    · exact h'
   have htop:=canon_last (digs_canon 18446744073709551616 b (by decide)) (by omega)
   refine CSpec_go (E:=⟨T0,Se⟩) (fn105 hP) HE hP.mix ?_
   simp only [go_sem,ha,hb,hb2,hc,hl2,hl3,hm2,hm3]
   refine ⟨⟨rfl,rfl,hxd,hyd,hm2,hle,by omega,htop⟩,?_⟩
   exact .refl _
theorem Div_spec (hP:PrgOk P) (a b:Nat) (ha:blen a≤68719476736) (hb:blen b≤68719476736) (h0:0<b):CSpec P 105 [(.agg [.opq (.nat (a)),.pad]),(.agg [.opq (.nat (b)),.pad])] (.tup [(.agg [.opq (.nat (a / b)),.pad]),(.agg [.opq (.nat (a % b)),.pad]),.int .i64 0]):=by
 rcases Nat.lt_or_ge a b with h|h
 · rw [Nat.div_eq_of_lt h,Nat.mod_eq_of_lt h]; exact Div_less hP a b ha hb h
 · exact Div_pos hP a b ha hb h0 h
def DivS:List AV→Option (Prop × AV):=on2 fun a b=>(blen a≤68719476736∧blen b≤68719476736,if b=0 then .tup [(.agg [.opq (.nat (0)),.pad]),(.agg [.opq (.nat (0)),.pad]),.int .i64 11] else .tup [(.agg [.opq (.nat (a / b)),.pad]),(.agg [.opq (.nat (a % b)),.pad]),.int .i64 0])
theorem DivS_ok (hP:PrgOk P) (args p r):DivS args=some (p,r)→p→CSpec P 105 args r:=on2_ok (fun a b h=>by
 by_cases hb:b=0
 · subst hb; simp only [if_pos]; exact Div_zero hP a
 · simp only [if_neg hb]; exact Div_spec hP a b h.1 h.2 (by omega)) args p r
attribute [go_sem] DivS
end Go.Proofs.YtmahhmdeocnlgaaGreatDoor.AM
/- Loops whose objects change their numbers. -/
namespace Go.Proofs.YtmahhmdeocnlgaaGreatDoor.AM
set_option linter.all false
set_option autoImplicit true
set_option relaxedAutoImplicit true
open Go Go.Proofs
set_option maxRecDepth 100000
set_option linter.unusedSimpArgs false
section
variable {P:Program} {E:Env} {s:St} {Q:Exit→Nat→St→Prop} {nx:Nat} {tr:TriT} {ic:ICallT}
def loopV {α:Type} (LL:α→List Nat) (F:α→St) (I:α→Prop) (μ:α→Nat) (n:Nat) (Q:Exit→Nat→St→Prop):Exit→Nat→St→Prop
 | .normal,_,s=>∃ x,Kept (LL x) s (F x)∧I x∧μ x<n
 | e,nx,s=>Q e nx s
theorem Tri_loopV {α:Type} {c:Code} (LL:α→List Nat) (F:α→St) (I:α→Prop) (μ:α→Nat) (x0:α) (hL:∀ x r,s.m r ≠ .unused→(LL x).contains r=true) (h0:Kept (LL x0) s (F x0)) (i0:I x0)
 (hr:∀ x,I x→Tri P c (loopV LL F I μ (μ x) Q) (F x)):Tri P (.loop c) Q s:=by
 intro X φ a w R
 have hφ:∀ r,s.m r = .unused→φ r=none:=fun r h=>R.mem.unused h
 let p:Act→World→Nat→Prop:=fun a' w' k=>∃ x φ1,I x∧μ x=k∧Rel X φ1 (F x) a' w'∧Stp X φ s.m w φ1 (F x).m w'
 obtain ⟨φ0,r0,st0⟩:=kept_rel R h0 (.refl _ _ _ _) (hL x0) hφ
 refine wp_loop (fun a' w'=>∃ k,p a' w' k) (fun a' w'=>leastOf (p a' w')) ⟨_,x0,φ0,i0,rfl,r0,st0⟩ fun a' w' hI=>?_
 obtain ⟨⟨x,φ1,i1,hk,r1,st1⟩,_⟩:=leastOf_spec hI
 refine Code.wp_mono ?_ (hr x i1 X φ1 a' w' r1)
 rintro e a2 w2 ⟨nx,s2,φ2,q,r2,st2⟩
 cases e with
 | normal =>
   obtain ⟨x3,k3,i3,hlt⟩:=q
   obtain ⟨φ3,r3,st3⟩:=kept_rel r2 k3 (st1.trans st2) (hL x3) hφ
   have hp:p a2 w2 (μ x3):=⟨x3,φ3,i3,rfl,r3,st3⟩
   refine ⟨⟨_,hp⟩,?_⟩
   have:=(leastOf_spec ⟨_,hp⟩).2 _ hp
   omega
 | _=>exact ⟨nx,s2,φ2,q,r2,st1.trans st2⟩
theorem q_loopV_normal {α:Type} (LL:α→List Nat) (F:α→St) (I:α→Prop) (μ:α→Nat) (n):qX .normal nx s (Q:=⟨loopV LL F I μ n Q⟩)=∃ x,Kept (LL x) s (F x)∧I x∧μ x<n:=rfl
theorem q_loopV_exit {α:Type} (LL:α→List Nat) (F:α→St) (I:α→Prop) (μ:α→Nat) (n i):qX (.exit i) nx s (Q:=⟨loopV LL F I μ n Q⟩)=qX (.exit i) nx s (Q:=⟨Q⟩):=rfl
theorem q_loopV_ret {α:Type} (LL:α→List Nat) (F:α→St) (I:α→Prop) (μ:α→Nat) (n):qX .ret nx s (Q:=⟨loopV LL F I μ n Q⟩)=qX .ret nx s (Q:=⟨Q⟩):=rfl
theorem trX_loopV {α:Type} {c:Code} (HE:EnvOk P E) (hmix:P.follows .mixedOrders=true) (LL:α→List Nat) (F:α→St) (I:α→Prop) (μ:α→Nat) (x0:α) (nx0:α→Nat) (hL:∀ x r,s.m r ≠ .unused→(LL x).contains r=true) (h0:Kept (LL x0) s (F x0)) (i0:I x0) (N:Nat) (hN:regsOk N c=true)
 (hr:∀ x,I x→vcX (Tri P) (ICall P) E N c (nx0 x) (F x) (Q:=⟨loopV LL F I μ (μ x) Q⟩)):trX (Tri P) (.loop c) s (Q:=⟨Q⟩) :=
 Tri_loopV LL F I μ x0 hL h0 i0 fun x ix=>vc_sound HE hmix N c _ (nx0 x) _ hN (hr x ix)
def CvM (m m':Nat→AObj):Prop:=∀ r,m' r=m r∨∃ cs cs',m r = .live cs∧m' r = .live cs'∧CvL cs cs'∧cs'.length=cs.length∧cs'.all AV.ck=true
theorem CvM.refl (m):CvM m m:=fun _=>.inl rfl
theorem CvM.upd {m m':Nat→AObj} (h:CvM m m') {r:Nat} {cs cs':List AV} (hc:CvL cs cs') (hl:cs'.length=cs.length) (hk:cs'.all AV.ck=true):CvM (AM.upd m r (.live cs)) (AM.upd m' r (.live cs')):=fun q=>by
 unfold AM.upd; split
 · exact .inr ⟨cs,cs',rfl,rfl,hc,hl,hk⟩
 · exact h q
theorem CvM.same {m m':Nat→AObj} (h:CvM m m') (r:Nat) (o:AObj):CvM (AM.upd m r o) (AM.upd m' r o):=fun q=>by
 unfold AM.upd; split
 · exact .inl rfl
 · exact h q
theorem CvM.wr {m m':Nat→AObj} (h:CvM m m') (X φ):Wr X φ m'=Wr X φ m:=by
 funext b
 simp only [Wr,eq_iff_iff]
 refine or_congr Iff.rfl ⟨?_,?_⟩
 · rintro ⟨r,cs,h1,h2⟩
   rcases h r with h3|⟨c1,c2,h3,_⟩
   · exact ⟨r,cs,h1,by rw [← h3]; exact h2⟩
   · exact ⟨r,c1,h1,h3⟩
 · rintro ⟨r,cs,h1,h2⟩
   rcases h r with h3|⟨c1,c2,_,h3,_⟩
   · exact ⟨r,cs,h1,by rw [h3]; exact h2⟩
   · exact ⟨r,c2,h1,h3⟩
theorem CvM.rel {m m':Nat→AObj} (h:CvM m m') {X φ t n a w} (R:Rel X φ ⟨t,m,n⟩ a w):Rel X φ ⟨t,m',n⟩ a w:=by
 have hW:=h.wr X φ
 refine ⟨fun i hi=>?_,R.df,R.n,⟨fun r=>?_,R.mem.inj,R.mem.ext,R.mem.xlt⟩⟩
 · rw [hW]; exact R.tm i hi
 · have:=R.mem.obj r
   simp only [] at this ⊢
   rw [hW]
   rcases h r with h3|⟨cs,cs',h1,h2,h3,h4,h5⟩
   · rw [h3]; exact this
   · rw [h1] at this; rw [h2]
     obtain ⟨b,hb,c,e,k1,k2,k3,k4⟩:=this
     exact ⟨b,hb,c,e,k1,by rw [h4]; exact k2,by rw [h4]; exact h3 _ _ _ _ k3,h5⟩
theorem Tri_cv {c:Code} {t:Nat→AV} {m m':Nat→AObj} {n:Nat} (h:CvM m m') (k:Tri P c Q ⟨t,m',n⟩):Tri P c Q ⟨t,m,n⟩:=by
 intro X φ a w R
 refine Code.wp_mono ?_ (k X φ a w (h.rel R))
 rintro e a2 w2 ⟨nx,s2,φ2,q,r2,st2⟩
 have hW:=h.wr X φ
 refine ⟨nx,s2,φ2,q,r2,?_⟩
 obtain ⟨e1,f1⟩:=st2
 simp only [] at e1
 rw [hW] at e1
 exact ⟨e1,f1⟩
theorem Tri_vcX {c:Code} (HE:EnvOk P E) (hmix:P.follows .mixedOrders=true) (N nx:Nat) (hN:regsOk N c=true) (h:vcX (Tri P) (ICall P) E N c nx s (Q:=⟨Q⟩)):Tri P c Q s:=vc_sound HE hmix N c _ nx _ hN h
theorem trX_loopT {α:Type} {c:Code} (L:List Nat) (F:α→St) (I:α→Prop) (μ:α→Nat) (x0:α) (hL:∀ r,s.m r ≠ .unused→L.contains r=true) (h0:Kept L s (F x0)) (i0:I x0)
 (hr:∀ x,I x→Tri P c (loopR L F I μ (μ x) Q) (F x)):trX (Tri P) (.loop c) s (Q:=⟨Q⟩):=Tri_loopR L F I μ x0 hL h0 i0 hr
end
attribute [go_sem] q_loopV_normal q_loopV_exit q_loopV_ret
end Go.Proofs.YtmahhmdeocnlgaaGreatDoor.AM
/- Package nat: the greatest divisor. -/
namespace Go.Proofs.YtmahhmdeocnlgaaGreatDoor.AM
set_option linter.all false
set_option autoImplicit true
set_option relaxedAutoImplicit true
open Go Go.Proofs
set_option maxRecDepth 100000
set_option maxHeartbeats 8000000
set_option linter.unusedSimpArgs false
variable {P:Program}
noncomputable def Sf:Nat→List AV→Option (Prop × AV):=addS (addS Se 105 DivS) 158 SubS
theorem Sf_ok (hP:PrgOk P):EnvOk P ⟨T0,Sf⟩:=(((Se_ok hP).add (DivS_ok hP)).add (SubS_ok hP))
theorem Sf_at (f a):Sf f a=(addS (addS Se 105 DivS) 158 SubS) f a:=rfl
attribute [go_sem] Sf_at
theorem gcd_step (a b:Nat):Nat.gcd a b=Nat.gcd b (a % b):=by rw [Nat.gcd_comm a b,Nat.gcd_rec b a,Nat.gcd_comm]
theorem natC_ck (a:Nat):(natC a).all AV.ck=true:=by
 by_cases h:a<18446744073709551616
 · rw [natC_small h]; rfl
 · rw [natC_great h]; rfl
theorem natC_len (a:Nat):(natC a).length=2:=by
 by_cases h:a<18446744073709551616
 · rw [natC_small h]; rfl
 · rw [natC_great h]; rfl
theorem natC_only (a:Nat) {f}:onlyL f (natC a)=true:=by
 by_cases h:a<18446744073709551616
 · rw [natC_small h]; rfl
 · rw [natC_great h]; simp only [onlyL,AV.only,Bool.true_and,Bool.and_true]; exact only_U
theorem CvL.un (a:Nat):CvL [.opq (.nat a),.pad] (natC a):=by have:=CvL.unnat a []; simpa using this
def cel:Bool→Nat→List AV
 | true,x=>natC x
 | false,x=>[.opq (.nat x),.pad]
theorem CvL.cel (f:Bool) (a:Nat):CvL (cel f a) (natC a):=by
 cases f
 · exact CvL.un a
 · exact CvL.refl _
theorem CvL.lec (f:Bool) (a:Nat):CvL (AM.cel f a) [.opq (.nat a),.pad]:=by
 cases f
 · exact CvL.refl _
 · have:=CvL.nat a [] rfl; simpa [AM.cel] using this
theorem cel_len (f:Bool) (a:Nat):(cel f a).length=2:=by
 cases f
 · rfl
 · exact natC_len a
theorem Gcd_spec (hP:PrgOk P) (a b:Nat) (ha:blen a≤68719476736) (hb:blen b≤68719476736):CSpec P 106 [(.agg [.opq (.nat (a)),.pad]),(.agg [.opq (.nat (b)),.pad])] (.agg [.opq (.nat (Nat.gcd a b)),.pad]):=by
 have HE:=Sf_ok hP
 refine CSpec_go (E:=⟨T0,Sf⟩) (fn106 hP) HE hP.mix ?_
 simp only [go_sem]
 refine trX_loopT [2,1,0] (fun q:Nat × Nat × Bool=>⟨upd (upd (upd (fun _=>.junk) 2 (.ref 0 0)) 3 (.ref 1 0)) 4 (.ref 2 0),upd (upd (upd (fun _=>.unused) 0 (.live (cel q.2.2 q.1))) 1 (.live [.opq (.nat q.2.1),.pad])) 2 (.live [.int .u64 0,.nils]),43⟩)
  (fun q=>blen q.1≤68719476736∧blen q.2.1≤68719476736∧Nat.gcd q.1 q.2.1=Nat.gcd a b) (fun q=>q.2.1) (a,b,false)
  Has.z (Kept.of rfl KT.z KM.z) ⟨ha,hb,rfl⟩ ?_
 rintro ⟨x,y,f⟩ ⟨h1,h2,h3⟩
 simp only [] at h1 h2 h3
 by_cases hy:y=0
 · subst hy
   refine Tri_cv (m':=upd (upd (upd (fun _=>.unused) 0 (.live [.opq (.nat x),.pad])) 1 (.live [.opq (.nat 0),.pad])) 2 (.live [.int .u64 0,.nils])) ((((CvM.refl _).upd (CvL.lec f x) (cel_len f x).symm rfl).same _ _).same _ _) ?_
   refine Tri_vcX HE hP.mix 43 10 (by kernel_rfl) ?_
   have hb0:blen 0=0:=by decide
   have hb1:blen 0≤68719476736:=by decide
   simp only [go_sem,hb0,hb1]
   rw [Nat.gcd_zero_right] at h3
   rw [h3]; exact .refl _
 · have hyp:0<y:=by omega
   have hbp:0<blen y:=by
    have:blen y ≠ 0:=by rw [Ne,blen_zero_iff]; exact hy
    omega
   have hyz:(y=0)=False:=eq_false hy
   refine Tri_cv (m':=upd (upd (upd (fun _=>.unused) 0 (.live (natC x))) 1 (.live (natC y))) 2 (.live [.int .u64 0,.nils])) (((CvM.refl _).upd (CvL.cel f x) ((natC_len x).trans (cel_len f x).symm) (natC_ck x)).upd (CvL.un y) (natC_len y) (natC_ck y) |>.same _ _) ?_
   refine Tri_vcX HE hP.mix 43 10 (by kernel_rfl) ?_
   by_cases hxs:x<18446744073709551616
   · by_cases hys:y<18446744073709551616
     · rw [natC_small hxs,natC_small hys]
       simp only [go_sem,h2,hys,hbp]
       refine trX_loop HE hP.mix [2,1,0] (fun q:Nat × Nat=>⟨upd (upd (upd (fun _=>.junk) 4 (.ref 2 0)) 5 (.int .u64 (q.1:Int))) 6 (.int .u64 (q.2:Int)),upd (upd (upd (fun _=>.unused) 0 (.live [.int .u64 (x:Int),.nils])) 1 (.live [.int .u64 (y:Int),.nils])) 2 (.live [.int .u64 0,.nils]),43⟩)
        (fun q=>q.1<18446744073709551616∧q.2<18446744073709551616∧Nat.gcd q.1 q.2=Nat.gcd a b) (fun q=>q.2) (x,y) 10
        Has.z (Kept.of rfl KT.z KM.z) ⟨hxs,hys,h3⟩ 43 (by kernel_rfl) ?_
       rintro ⟨u,v⟩ ⟨k1,k2,k3⟩
       simp only [] at k1 k2 k3
       by_cases hv:0<v
       · have hm:=u_mod u v
         have hml:=Nat.mod_lt u hv
         simp only [go_sem,hv,hm]
         exact ⟨by omega,(v,u % v),Kept.of rfl KT.z KM.z,⟨k2,by simp only []; omega,by simp only []; rw [← gcd_step]; exact k3⟩,by simp only []; omega⟩
       · have hv0:v=0:=by omega
         subst hv0
         simp only [go_sem,hv]
         rw [Nat.gcd_zero_right] at k3
         rw [← k3]
         exact Conv.nat1 k1
     · have hm2:=digs_length_gt 18446744073709551616 y 1 (by decide) (by omega)
       have hm2:2≤(digs 18446744073709551616 y).length:=by omega
       have hm3:((digs 18446744073709551616 y).length ≠ 0)=True:=eq_true (by omega)
       rw [natC_small hxs,natC_great hys]
       simp only [go_sem,h1,h2,hm2,hm3,hxs,hbp,hyz]
       rw [← natC_great hys]
       have hml:=Nat.mod_lt x hyp
       have hcl:objOnly [2,1,0] (.live (natC y))=true:=by simp only [objOnly]; exact natC_only y
       refine ⟨(y,x % y,true),Kept.of rfl KT.z (KM.p (by repeat (first|exact KMp.nil|refine KMp.upd rfl (by first|rfl|exact hcl) ?_))),⟨h2,blen_le_of (Nat.le_of_lt hml) h2,by simp only []; rw [← gcd_step]; exact h3⟩,by simp only []; exact hml⟩
   · have hl2:=digs_length_gt 18446744073709551616 x 1 (by decide) (by omega)
     have hl2:2≤(digs 18446744073709551616 x).length:=by omega
     have hl3:((digs 18446744073709551616 x).length ≠ 0)=True:=eq_true (by omega)
     by_cases hys:y<18446744073709551616
     · rw [natC_great hxs,natC_small hys]
       simp only [go_sem,h1,h2,hl2,hl3,hys,hbp,hyz]
       rw [← natC_small hys]
       have hml:=Nat.mod_lt x hyp
       have hcl:objOnly [2,1,0] (.live (natC y))=true:=by simp only [objOnly]; exact natC_only y
       refine ⟨(y,x % y,true),Kept.of rfl KT.z (KM.p (by repeat (first|exact KMp.nil|refine KMp.upd rfl (by first|rfl|exact hcl) ?_))),⟨h2,blen_le_of (Nat.le_of_lt hml) h2,by simp only []; rw [← gcd_step]; exact h3⟩,by simp only []; exact hml⟩
     · have hm2:=digs_length_gt 18446744073709551616 y 1 (by decide) (by omega)
       have hm2:2≤(digs 18446744073709551616 y).length:=by omega
       have hm3:((digs 18446744073709551616 y).length ≠ 0)=True:=eq_true (by omega)
       rw [natC_great hxs,natC_great hys]
       simp only [go_sem,h1,h2,hl2,hl3,hm2,hm3,hbp,hyz]
       rw [← natC_great hys]
       have hml:=Nat.mod_lt x hyp
       have hcl:objOnly [2,1,0] (.live (natC y))=true:=by simp only [objOnly]; exact natC_only y
       refine ⟨(y,x % y,true),Kept.of rfl KT.z (KM.p (by repeat (first|exact KMp.nil|refine KMp.upd rfl (by first|rfl|exact hcl) ?_))),⟨h2,blen_le_of (Nat.le_of_lt hml) h2,by simp only []; rw [← gcd_step]; exact h3⟩,by simp only []; exact hml⟩
def GcdS:List AV→Option (Prop × AV):=on2 fun a b=>(blen a≤68719476736∧blen b≤68719476736,(.agg [.opq (.nat (Nat.gcd a b)),.pad]))
theorem GcdS_ok (hP:PrgOk P) (args p r):GcdS args=some (p,r)→p→CSpec P 106 args r:=on2_ok (fun a b h=>by exact Gcd_spec hP a b h.1 h.2) args p r
attribute [go_sem] GcdS
end Go.Proofs.YtmahhmdeocnlgaaGreatDoor.AM
