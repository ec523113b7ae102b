/- Ranks: package vec. -/
import Derived.Test.YtapddfjimhohcaaB5
import Derived.Test.YtapddfjimhohcaaB3
namespace Go.Proofs.Ytapddfjimhohcaa.AM
set_option linter.all false
set_option autoImplicit true
set_option relaxedAutoImplicit true
open Go Go.Proofs
set_option maxRecDepth 100000
set_option maxHeartbeats 8000000
set_option linter.unusedSimpArgs false
variable {P:Program}
attribute [go_sem] vDirS
noncomputable def Yt2:Nat→List AV→Option (Prop × AV):=addS Xt1 54 vDirS
theorem Yt2_all (hP:PrgOk P) (T) (hT:TyOk P T):EnvOk P ⟨T,Yt2⟩:=((Xt1_all hP T hT).add (vDirS_ok hP))
theorem Yt2_at (f a):Yt2 f a=(addS Xt1 54 vDirS) f a:=rfl
attribute [go_sem] Yt2_at
def cV (a:V3):List AV:=[.opq (.frac (a.1)),.pad,.pad,.pad,.pad,.opq (.frac (a.2.1)),.pad,.pad,.pad,.pad,.opq (.frac (a.2.2)),.pad,.pad,.pad,.pad]
theorem fz_cV (a:V3):∀ x ∈ cV a,∀ m j,fzC m j x∧fzV m j x=x:=by
 intro x hx m j
 simp only [cV,List.mem_cons,List.not_mem_nil,or_false] at hx
 rcases hx with rfl|rfl|rfl|rfl|rfl|rfl|rfl|rfl|rfl|rfl|rfl|rfl|rfl|rfl|rfl<;>cases j<;>exact ⟨trivial,rfl⟩
instance:Wd cV 15:=⟨fun _=>rfl,by decide,fun _=>rfl,fun _=>rfl,fun _ _=>rfl,fun m j z=>(fz_flat (fz_cV z)).1 m j,fun m j z=>(fz_flat (fz_cV z)).2 m j⟩
theorem cV_drop (a:V3) {p:Nat} (hp:p<3):∃ t:List AV,List.drop (p*5) ([.opq (.frac (a.1)),.pad,.pad,.pad,.pad,.opq (.frac (a.2.1)),.pad,.pad,.pad,.pad,.opq (.frac (a.2.2)),.pad,.pad,.pad,.pad]:List AV) = .opq (.frac (pick p a)) :: .pad :: .pad :: .pad :: .pad::t∧AV.head (List.drop (p*5) ([.opq (.frac a.2.1),.pad,.pad,.pad,.pad,.opq (.frac a.2.2),.pad,.pad,.pad,.pad]:List AV))=true:=by
 rcases (show p=0∨p=1∨p=2 by omega) with rfl|rfl|rfl
 · exact ⟨_,rfl,rfl⟩
 · exact ⟨_,rfl,rfl⟩
 · exact ⟨_,rfl,rfl⟩
theorem red1_1 (r p a):qsub (qmul (pick p r) a.1) (qmul (pick p a) r.1)=(red1 r p a).1:=by rw [qsub_eq,qmul_eq,qmul_eq]; rfl
theorem red1_2 (r p a):qsub (qmul (pick p r) a.2.1) (qmul (pick p a) r.2.1)=(red1 r p a).2.1:=by rw [qsub_eq,qmul_eq,qmul_eq]; rfl
theorem red1_3 (r p a):qsub (qmul (pick p r) a.2.2) (qmul (pick p a) r.2.2)=(red1 r p a).2.2:=by rw [qsub_eq,qmul_eq,qmul_eq]; rfl
theorem fV_mono {a:V3} {n m:Nat} (h:fV a n) (hm:n≤m):fV a m:=⟨Nat.le_trans h.1 hm,Nat.le_trans h.2.1 hm,Nat.le_trans h.2.2 hm⟩
theorem fl_pick {a:V3} {n:Nat} (h:fV a n) (p:Nat):fl (pick p a)≤n:=by
 unfold pick; split
 · exact h.1
 · split
   · exact h.2.1
   · exact h.2.2
theorem red1_fV {r a:V3} {n m:Nat} (p:Nat) (hr:fV r n) (ha:fV a m):fV (red1 r p a) (n+m+(m+n)+1):=by
 have k1:=fl_pick hr p
 have k2:=fl_pick ha p
 unfold red1 vsb vsc
 exact ⟨fl_sub (fl_mul k1 ha.1) (fl_mul k2 hr.1),fl_sub (fl_mul k1 ha.2.1) (fl_mul k2 hr.2.1),fl_sub (fl_mul k1 ha.2.2) (fl_mul k2 hr.2.2)⟩
theorem dir_fV {a:V3} {n:Nat} (h:fV a n):fV (dirA a) (n+(1+n+n+n)):=by
 have hm:blen (mV a)≤1+n+n+n:=lcmD_blen (lcmD_blen (lcmD_blen (show blen 1≤1 by decide) (fl_den h.1)) (fl_den h.2.1)) (fl_den h.2.2)
 have k:∀ {x:Rat},fl x≤n→fl ((dV a x:Int):Rat)≤n+(1+n+n+n):=fun {x} hx=>by
  refine fl_int (Nat.le_trans (primZ_wl _ _) ?_) (by omega)
  unfold nV
  refine wl_mul (fl_num hx) ?_
  exact blen_le_of (Nat.div_le_self _ _) hm
 exact ⟨k h.1,k h.2.1,k h.2.2⟩
def okR:List (V3 × Nat)→Prop
 | []=>True
 | [(r,p)]=>fV r 262145∧p<3
 | [(r,p),(s,q)]=>fV r 262145∧p<3∧fV s 2621457∧q<3
 | _=>False
def FR (l:List V3):Nat × Nat × Nat × List (V3 × Nat)→St
 | (q,k,i,rows)=>match rows with
   | []=>⟨upd (upd (upd (upd (upd (upd (fun _=>.junk) 0 (.imm l.length (cl cV l))) 3 .nils) 4 .nils) 10 (.imm l.length (cl cV l))) 11 (.int .i64 (l.length:Int))) 12 (.int .i64 (i:Int)),fun _=>.unused,68⟩
   | [(r,p)]=>⟨upd (upd (upd (upd (upd (upd (fun _=>.junk) 0 (.imm l.length (cl cV l))) 3 (.sl q 0 1 15)) 4 (.sl k 0 1 1)) 10 (.imm l.length (cl cV l))) 11 (.int .i64 (l.length:Int))) 12 (.int .i64 (i:Int)),upd (upd (fun _=>.unused) q (.live [.opq (.frac (r.1)),.pad,.pad,.pad,.pad,.opq (.frac (r.2.1)),.pad,.pad,.pad,.pad,.opq (.frac (r.2.2)),.pad,.pad,.pad,.pad])) k (.live [.int .i64 (p:Int)]),68⟩
   | [(r,p),(s,p')]=>⟨upd (upd (upd (upd (upd (upd (fun _=>.junk) 0 (.imm l.length (cl cV l))) 3 (.sl q 0 2 15)) 4 (.sl k 0 2 1)) 10 (.imm l.length (cl cV l))) 11 (.int .i64 (l.length:Int))) 12 (.int .i64 (i:Int)),upd (upd (fun _=>.unused) q (.live ([.opq (.frac (r.1)),.pad,.pad,.pad,.pad,.opq (.frac (r.2.1)),.pad,.pad,.pad,.pad,.opq (.frac (r.2.2)),.pad,.pad,.pad,.pad]++[.opq (.frac (s.1)),.pad,.pad,.pad,.pad,.opq (.frac (s.2.1)),.pad,.pad,.pad,.pad,.opq (.frac (s.2.2)),.pad,.pad,.pad,.pad]))) k (.live [.int .i64 (p:Int),.int .i64 (p':Int)]),68⟩
   | _=>⟨fun _=>.junk,fun _=>.unused,68⟩
theorem stepR_none {l:List V3} {rows:List (V3 × Nat)} {a:V3} (h:nzP (redA rows a)=none):stepR dirA (a::l) rows=stepR dirA l rows:=by
 conv=>lhs; unfold stepR
 rw [h]
theorem stepR_some {l:List V3} {rows:List (V3 × Nat)} {a:V3} {p:Nat} (h:nzP (redA rows a)=some p) (hr:rows.length<2):stepR dirA (a::l) rows=stepR dirA l (rows++[(dirA (redA rows a),p)]):=by
 conv=>lhs; unfold stepR
 rw [h]
 exact if_neg (by omega)
theorem stepR_three {l:List V3} {rows:List (V3 × Nat)} {a:V3} {p:Nat} (h:nzP (redA rows a)=some p) (hr:rows.length=2):stepR dirA (a::l) rows=3:=by
 conv=>lhs; unfold stepR
 rw [h]
 exact if_pos (by omega)
theorem ad_k (a k:Nat):a+k+1=a+(k+1):=rfl
theorem FR_0 (l q k i):FR l (q,k,i,[])=⟨upd (upd (upd (upd (upd (upd (fun _=>.junk) 0 (.imm l.length (cl cV l))) 3 .nils) 4 .nils) 10 (.imm l.length (cl cV l))) 11 (.int .i64 (l.length:Int))) 12 (.int .i64 (i:Int)),fun _=>.unused,68⟩:=rfl
theorem FR_1 (l q k i r p):FR l (q,k,i,[(r,p)])=⟨upd (upd (upd (upd (upd (upd (fun _=>.junk) 0 (.imm l.length (cl cV l))) 3 (.sl q 0 1 15)) 4 (.sl k 0 1 1)) 10 (.imm l.length (cl cV l))) 11 (.int .i64 (l.length:Int))) 12 (.int .i64 (i:Int)),upd (upd (fun _=>.unused) q (.live [.opq (.frac (r.1)),.pad,.pad,.pad,.pad,.opq (.frac (r.2.1)),.pad,.pad,.pad,.pad,.opq (.frac (r.2.2)),.pad,.pad,.pad,.pad])) k (.live [.int .i64 (p:Int)]),68⟩:=rfl
theorem FR_2 (l q k i r p s p'):FR l (q,k,i,[(r,p),(s,p')])=⟨upd (upd (upd (upd (upd (upd (fun _=>.junk) 0 (.imm l.length (cl cV l))) 3 (.sl q 0 2 15)) 4 (.sl k 0 2 1)) 10 (.imm l.length (cl cV l))) 11 (.int .i64 (l.length:Int))) 12 (.int .i64 (i:Int)),upd (upd (fun _=>.unused) q (.live ([.opq (.frac (r.1)),.pad,.pad,.pad,.pad,.opq (.frac (r.2.1)),.pad,.pad,.pad,.pad,.opq (.frac (r.2.2)),.pad,.pad,.pad,.pad]++[.opq (.frac (s.1)),.pad,.pad,.pad,.pad,.opq (.frac (s.2.1)),.pad,.pad,.pad,.pad,.opq (.frac (s.2.2)),.pad,.pad,.pad,.pad]))) k (.live [.int .i64 (p:Int),.int .i64 (p':Int)]),68⟩:=rfl
theorem okR_1 {b:V3} {p:Nat} (h:fV b 65536) (hp:p<3):okR [(dirA b,p)]:=⟨fV_mono (dir_fV h) (by decide),hp⟩
theorem okR_2 {r b:V3} {p q:Nat} (hr:fV r 262145) (hp:p<3) (h:fV b 655363) (hq:q<3):okR [(r,p),(dirA b,q)]:=⟨hr,hp,fV_mono (dir_fV h) (by decide),hq⟩
theorem nz_0 {b:V3} (h:¬ b.1=0):nzP b=some 0:=by unfold nzP; rw [if_pos h]
theorem nz_1 {b:V3} (h:b.1=0) (h':¬ b.2.1=0):nzP b=some 1:=by unfold nzP; rw [if_neg (fun k=>k h),if_pos h']
theorem nz_2 {b:V3} (h:b.1=0) (h':b.2.1=0) (h2:¬ b.2.2=0):nzP b=some 2:=by unfold nzP; rw [if_neg (fun k=>k h),if_neg (fun k=>k h'),if_pos h2]
theorem nz_3 {b:V3} (h:b.1=0) (h':b.2.1=0) (h2:b.2.2=0):nzP b=none:=by unfold nzP; rw [if_neg (fun k=>k h),if_neg (fun k=>k h'),if_neg (fun k=>k h2)]
theorem vRank_spec (hP:PrgOk P) (l:List V3) (hl:l.length≤1000000) (hb:∀ a ∈ l,fV a 65536):CSpec P 40 [.imm l.length (cl cV l)] (.int .i64 (rkN l:Nat)):=by
 have HE:=Yt2_all hP TF hP.tF
 have hgo:groundL [.imm l.length (cl cV l)]=true:=by simp only [groundL,onlyL,AV.only,cl_only,Bool.and_true]
 refine CSpec_vc (E:=⟨TF,Yt2⟩) (fn40 hP) HE hP.mix rfl hgo rfl (Nat.le_of_ble_eq_true rfl) ?_
 have hro:∀ f,(AV.imm l.length (cl cV l)).only f=true:=fun f=>by simp only [AV.only,cl_only]
 have hget:∀ i (h:i<l.length),∃ a,l.drop i=a::l.drop (i+1)∧fV a 65536∧(cl cV l).drop (i*15)=[.opq (.frac (a.1)),.pad,.pad,.pad,.pad,.opq (.frac (a.2.1)),.pad,.pad,.pad,.pad,.opq (.frac (a.2.2)),.pad,.pad,.pad,.pad]++cl cV (l.drop (i+1)):=fun i h=>by
  refine ⟨l[i],List.drop_eq_getElem_cons h,hb _ (List.getElem_mem h),?_⟩
  rw [cl_drop,List.drop_eq_getElem_cons h,cl_cons]; rfl
 have hlen:∀ i,(cl cV (l.drop (i+1))).length=(l.length-(i+1))*15:=fun i=>by rw [cl_len,List.length_drop]
 have hh:∀ i,AV.head (cl cV (l.drop (i+1)))=true:=fun i=>cl_head
 simp only [go_sem]
 refine trX_loopV HE hP.mix (fun x=>match x.2.2.2 with|[]=>[]|_=>[x.2.1,x.1]) (FR l) (fun x=>x.1<x.2.1∧x.2.2.1≤l.length∧okR x.2.2.2∧stepR dirA (l.drop x.2.2.1) x.2.2.2=rkN l) (fun x=>l.length-x.2.2.1) (0,1,0,[]) (fun x=>x.2.1+1) (fun _ _ h=>absurd rfl h) ?_ ⟨by decide,Nat.zero_le _,trivial,rfl⟩ 68 (by kernel_rfl) ?_
 · exact Kept.of rfl (by repeat (first|exact KT.nil|refine KT.upd rfl (by first|rfl|exact hro _) ?_)) (KM.p .nil)
 rintro ⟨q,k,i,rows⟩ ⟨hqk,hi,hrows,hst⟩
 simp only [] at hqk hi hrows hst
 match rows,hrows,hst with
 | [],hrows0,hst =>
   simp only [FR]
   by_cases h:i<l.length
   · obtain ⟨a,ha,hba,hd⟩:=hget i h
     have hl0:=hlen i
     have hh0:=hh i
     have h15:i*15≤l.length*15:=by omega
     rw [ha] at hst
     have hwi:=wi_add1 i (by omega)
     have n1:(1:Int).toNat=1:=rfl
     have n2:(2:Int).toNat=2:=rfl
     have le1:((0:Int)≤1)=True:=eq_true (by decide)
     have le2:((0:Int)≤2)=True:=eq_true (by decide)
     have w1:IntKind.i64.wrap (0+1)=1:=rfl
     have w2:IntKind.i64.wrap (1+1)=2:=rfl
     have w3:IntKind.i64.wrap (2+1)=3:=rfl
     simp only [go_sem,h,hd,hl0,hh0,h15,cl_len]
     refine trX_once HE hP.mix 68 (k+40) (by kernel_rfl) ?_
     simp only [go_sem]
     refine trX_once HE hP.mix 68 (k+100) (by kernel_rfl) ?_
     have eb:redA [] a=a:=rfl
     obtain ⟨a1,a2,a3⟩:=fV_mono hba (show _≤68719476736 by decide)
     have hb1:=fV_mono hba (show _≤268435456 by decide)
     have s1:=fl_num a1
     have s2:=fl_num a2
     have s3:=fl_num a3
     by_cases c1:(a).1=0
     · have c1':=decide_eq_true c1
       simp only [go_sem,cmpQ_z,c1',w1,s1]
       refine goX_once HE hP.mix 68 (k+200) (by kernel_rfl) ?_
       by_cases c2:(a).2.1=0
       · have c2':=decide_eq_true c2
         simp only [go_sem,cmpQ_z,c2',n1,le1,w2,s2]
         refine goX_once HE hP.mix 68 (k+300) (by kernel_rfl) ?_
         by_cases c3:(a).2.2=0
         · have c3':=decide_eq_true c3
           simp only [go_sem,cmpQ_z,c3',n2,le2,w3,s3]
           refine goX_once HE hP.mix 68 (k+400) (by kernel_rfl) ?_
           have hz:=nz_3 c1 c2 c3
           simp only [go_sem,hwi]
           refine ⟨(q,k,i+1,[]),?_,⟨hqk,h,hrows0,(stepR_none (rows:=[]) (a:=a) (by rw [eb]; exact hz)).symm.trans hst⟩,by show l.length-(i+1)<l.length-i; omega⟩
           rw [FR_0]
           exact Kept.of rfl (by repeat (first|exact KT.nil|refine KT.upd rfl (by first|rfl|exact hro _|simp [AV.only]) ?_)) (KM.p KMp.nil)
         · have c3':=decide_eq_false c3
           have hz:=nz_2 c1 c2 c3
           simp only [go_sem,cmpQ_z,c3',n2,le2,w3,s3,hb1,hwi,ad_k]
           refine ⟨(k+313,k+317,i+1,[(dirA a,2)]),?_,⟨by show k+313<k+317; omega,h,okR_1 hba (by decide),by have e:=(stepR_some (rows:=[]) (a:=a) (p:=2) (by rw [eb]; exact hz) (by simp)).symm.trans hst; rw [eb] at e; exact e⟩,by show l.length-(i+1)<l.length-i; omega⟩
           rw [FR_1]
           exact Kept.of rfl (by repeat (first|exact KT.nil|refine KT.upd rfl (by first|rfl|exact hro _|simp [AV.only]) ?_)) (by refine KM.p (KMp.upd ?_ ?_ (KMp.upd ?_ ?_ KMp.nil))<;>first|rfl|simp [upd])
       · have c2':=decide_eq_false c2
         have hz:=nz_1 c1 c2
         simp only [go_sem,cmpQ_z,c2',n1,le1,w2,s2,hb1,hwi,ad_k]
         refine ⟨(k+213,k+217,i+1,[(dirA a,1)]),?_,⟨by show k+213<k+217; omega,h,okR_1 hba (by decide),by have e:=(stepR_some (rows:=[]) (a:=a) (p:=1) (by rw [eb]; exact hz) (by simp)).symm.trans hst; rw [eb] at e; exact e⟩,by show l.length-(i+1)<l.length-i; omega⟩
         rw [FR_1]
         exact Kept.of rfl (by repeat (first|exact KT.nil|refine KT.upd rfl (by first|rfl|exact hro _|simp [AV.only]) ?_)) (by refine KM.p (KMp.upd ?_ ?_ (KMp.upd ?_ ?_ KMp.nil))<;>first|rfl|simp [upd])
     · have c1':=decide_eq_false c1
       have hz:=nz_0 c1
       simp only [go_sem,cmpQ_z,c1',w1,s1,hb1,hwi,ad_k]
       refine ⟨(k+113,k+117,i+1,[(dirA a,0)]),?_,⟨by show k+113<k+117; omega,h,okR_1 hba (by decide),by have e:=(stepR_some (rows:=[]) (a:=a) (p:=0) (by rw [eb]; exact hz) (by simp)).symm.trans hst; rw [eb] at e; exact e⟩,by show l.length-(i+1)<l.length-i; omega⟩
       rw [FR_1]
       exact Kept.of rfl (by repeat (first|exact KT.nil|refine KT.upd rfl (by first|rfl|exact hro _|simp [AV.only]) ?_)) (by refine KM.p (KMp.upd ?_ ?_ (KMp.upd ?_ ?_ KMp.nil))<;>first|rfl|simp [upd])
   · have hi':l.drop i=[]:=List.drop_of_length_le (by omega)
     rw [hi'] at hst
     simp only [go_sem,h]
     rw [← hst]; exact .refl _
 | [(r,p)],hrows0,hst =>
   simp only [FR]
   have hrows1:=hrows0
   obtain ⟨hr,hp⟩:=hrows1
   have ne1:∀ j,(q == k+(j+1))=false:=fun j=>by simp; omega
   have ne2:∀ j,(k+(j+1) == q)=false:=fun j=>by simp; omega
   have ne3:(q == k)=false:=by simp; omega
   have ne5:∀ j,(q=k+j)=False:=fun j=>eq_false (by omega)
   have ne4:(k == q)=false:=by simp; omega
   by_cases h:i<l.length
   · obtain ⟨a,ha,hba,hd⟩:=hget i h
     have hl0:=hlen i
     have hh0:=hh i
     have h15:i*15≤l.length*15:=by omega
     rw [ha] at hst
     have hwi:=wi_add1 i (by omega)
     have n1:(1:Int).toNat=1:=rfl
     have n2:(2:Int).toNat=2:=rfl
     have le1:((0:Int)≤1)=True:=eq_true (by decide)
     have le2:((0:Int)≤2)=True:=eq_true (by decide)
     have w1:IntKind.i64.wrap (0+1)=1:=rfl
     have w2:IntKind.i64.wrap (1+1)=2:=rfl
     have w3:IntKind.i64.wrap (2+1)=3:=rfl
     obtain ⟨t1,dr1,dh1⟩:=cV_drop r hp
     obtain ⟨t2,dr2,dh2⟩:=cV_drop a hp
     simp only [go_sem,h,hd,hl0,hh0,h15,cl_len,ne1,ne2,ne3,ne4,ad_k]
     refine trX_once HE hP.mix 68 (k+40) (by kernel_rfl) ?_
     have hp5:p*5≤10:=by omega
     have hpr:=Nat.le_trans (fl_pick hr p) (show _≤FB by decide)
     have hpa:=Nat.le_trans (fl_pick hba p) (show _≤FB by decide)
     obtain ⟨A1,A2,A3⟩:=fV_mono hba (show _≤FB by decide)
     obtain ⟨R1,R2,R3⟩:=fV_mono hr (show _≤FB by decide)
     have m1:∀ {x},fl x≤65536→fl (qmul (pick p r) x)≤FB:=fun hx=>Nat.le_trans (fl_qmul (fl_pick hr p) hx) (by decide)
     have m2:∀ {x},fl x≤262145→fl (qmul (pick p a) x)≤FB:=fun hx=>Nat.le_trans (fl_qmul (fl_pick hba p) hx) (by decide)
     simp only [go_sem,dr1,dh1,dr2,dh2,hp,hp5,hpr,hpa,A1,A2,A3,R1,R2,R3,m1 hba.1,m1 hba.2.1,m1 hba.2.2,m2 hr.1,m2 hr.2.1,m2 hr.2.2,red1_1,red1_2,red1_3,w1,ne1,ne2,ne3,ne4,ad_k]
     refine goX_once HE hP.mix 68 (k+70) (by kernel_rfl) ?_
     have hbb:=fV_mono (red1_fV p hr hba) (show _≤655363 by decide)
     have eb:redA [(r,p)] a=red1 r p a:=rfl
     generalize red1 r p a=b at hbb eb ⊢
     simp only [go_sem,ne1,ne2,ne3,ne4,ad_k]
     refine trX_once HE hP.mix 68 (k+100) (by kernel_rfl) ?_
     obtain ⟨a1,a2,a3⟩:=fV_mono hbb (show _≤68719476736 by decide)
     have hb1:=fV_mono hbb (show _≤268435456 by decide)
     have s1:=fl_num a1
     have s2:=fl_num a2
     have s3:=fl_num a3
     by_cases c1:(b).1=0
     · have c1':=decide_eq_true c1
       simp only [go_sem,cmpQ_z,c1',w1,s1,ne1,ne2,ne3,ne4,ad_k]
       refine goX_once HE hP.mix 68 (k+200) (by kernel_rfl) ?_
       by_cases c2:(b).2.1=0
       · have c2':=decide_eq_true c2
         simp only [go_sem,cmpQ_z,c2',n1,le1,w2,s2,ne1,ne2,ne3,ne4,ad_k]
         refine goX_once HE hP.mix 68 (k+300) (by kernel_rfl) ?_
         by_cases c3:(b).2.2=0
         · have c3':=decide_eq_true c3
           simp only [go_sem,cmpQ_z,c3',n2,le2,w3,s3,ne1,ne2,ne3,ne4,ad_k]
           refine goX_once HE hP.mix 68 (k+400) (by kernel_rfl) ?_
           have hz:=nz_3 c1 c2 c3
           simp only [go_sem,hwi,ne1,ne2,ne3,ne4,ad_k]
           refine ⟨(q,k,i+1,[(r,p)]),?_,⟨hqk,h,hrows0,(stepR_none (rows:=[(r,p)]) (a:=a) (by rw [eb]; exact hz)).symm.trans hst⟩,by show l.length-(i+1)<l.length-i; omega⟩
           rw [FR_1]
           exact Kept.of rfl (by repeat (first|exact KT.nil|refine KT.upd rfl (by first|rfl|exact hro _|simp [AV.only]) ?_)) (by refine KM.p (KMp.upd ?_ ?_ (KMp.upd ?_ ?_ KMp.nil))<;>first|rfl|simp [upd,ne5,Nat.ne_of_lt hqk,Nat.ne_of_gt hqk])
         · have c3':=decide_eq_false c3
           have hz:=nz_2 c1 c2 c3
           simp only [go_sem,cmpQ_z,c3',n2,le2,w3,s3,hb1,hwi,ad_k,ne1,ne2,ne3,ne4,ad_k]
           first|refine ⟨by simp [ne5],by simp [ne5],?_⟩|refine ⟨by simp [ne5],?_⟩
           refine ⟨(k+313,k+317,i+1,[(r,p),(dirA b,2)]),?_,⟨by show k+313<k+317; omega,h,okR_2 hr hp hbb (by decide),by have e:=(stepR_some (rows:=[(r,p)]) (a:=a) (p:=2) (by rw [eb]; exact hz) (by simp)).symm.trans hst; rw [eb] at e; exact e⟩,by show l.length-(i+1)<l.length-i; omega⟩
           rw [FR_2]
           exact Kept.of rfl (by repeat (first|exact KT.nil|refine KT.upd rfl (by first|rfl|exact hro _|simp [AV.only]) ?_)) (by refine KM.p (KMp.upd ?_ ?_ (KMp.upd ?_ ?_ KMp.nil))<;>first|rfl|simp [upd])
       · have c2':=decide_eq_false c2
         have hz:=nz_1 c1 c2
         simp only [go_sem,cmpQ_z,c2',n1,le1,w2,s2,hb1,hwi,ad_k,ne1,ne2,ne3,ne4,ad_k]
         first|refine ⟨by simp [ne5],by simp [ne5],?_⟩|refine ⟨by simp [ne5],?_⟩
         refine ⟨(k+213,k+217,i+1,[(r,p),(dirA b,1)]),?_,⟨by show k+213<k+217; omega,h,okR_2 hr hp hbb (by decide),by have e:=(stepR_some (rows:=[(r,p)]) (a:=a) (p:=1) (by rw [eb]; exact hz) (by simp)).symm.trans hst; rw [eb] at e; exact e⟩,by show l.length-(i+1)<l.length-i; omega⟩
         rw [FR_2]
         exact Kept.of rfl (by repeat (first|exact KT.nil|refine KT.upd rfl (by first|rfl|exact hro _|simp [AV.only]) ?_)) (by refine KM.p (KMp.upd ?_ ?_ (KMp.upd ?_ ?_ KMp.nil))<;>first|rfl|simp [upd])
     · have c1':=decide_eq_false c1
       have hz:=nz_0 c1
       simp only [go_sem,cmpQ_z,c1',w1,s1,hb1,hwi,ad_k,ne1,ne2,ne3,ne4,ad_k]
       first|refine ⟨by simp [ne5],by simp [ne5],?_⟩|refine ⟨by simp [ne5],?_⟩
       refine ⟨(k+113,k+117,i+1,[(r,p),(dirA b,0)]),?_,⟨by show k+113<k+117; omega,h,okR_2 hr hp hbb (by decide),by have e:=(stepR_some (rows:=[(r,p)]) (a:=a) (p:=0) (by rw [eb]; exact hz) (by simp)).symm.trans hst; rw [eb] at e; exact e⟩,by show l.length-(i+1)<l.length-i; omega⟩
       rw [FR_2]
       exact Kept.of rfl (by repeat (first|exact KT.nil|refine KT.upd rfl (by first|rfl|exact hro _|simp [AV.only]) ?_)) (by refine KM.p (KMp.upd ?_ ?_ (KMp.upd ?_ ?_ KMp.nil))<;>first|rfl|simp [upd])
   · have hi':l.drop i=[]:=List.drop_of_length_le (by omega)
     rw [hi'] at hst
     simp only [go_sem,h,ne1,ne2,ne3,ne4,ad_k]
     rw [← hst]; exact .refl _
 | [(r,p),(s,p')],hrows0,hst =>
   simp only [FR]
   have hrows1:=hrows0
   obtain ⟨hr,hp,hs,hp'⟩:=hrows1
   have ne1:∀ j,(q == k+(j+1))=false:=fun j=>by simp; omega
   have ne2:∀ j,(k+(j+1) == q)=false:=fun j=>by simp; omega
   have ne3:(q == k)=false:=by simp; omega
   have ne5:∀ j,(q=k+j)=False:=fun j=>eq_false (by omega)
   have ne4:(k == q)=false:=by simp; omega
   by_cases h:i<l.length
   · obtain ⟨a,ha,hba,hd⟩:=hget i h
     have hl0:=hlen i
     have hh0:=hh i
     have h15:i*15≤l.length*15:=by omega
     rw [ha] at hst
     have hwi:=wi_add1 i (by omega)
     have n1:(1:Int).toNat=1:=rfl
     have n2:(2:Int).toNat=2:=rfl
     have le1:((0:Int)≤1)=True:=eq_true (by decide)
     have le2:((0:Int)≤2)=True:=eq_true (by decide)
     have w1:IntKind.i64.wrap (0+1)=1:=rfl
     have w2:IntKind.i64.wrap (1+1)=2:=rfl
     have w3:IntKind.i64.wrap (2+1)=3:=rfl
     obtain ⟨t1,dr1,dh1⟩:=cV_drop r hp
     obtain ⟨t2,dr2,dh2⟩:=cV_drop a hp
     simp only [go_sem,h,hd,hl0,hh0,h15,cl_len,ne1,ne2,ne3,ne4,ad_k]
     refine trX_once HE hP.mix 68 (k+40) (by kernel_rfl) ?_
     have hp5:p*5≤10:=by omega
     have hpr:=Nat.le_trans (fl_pick hr p) (show _≤FB by decide)
     have hpa:=Nat.le_trans (fl_pick hba p) (show _≤FB by decide)
     obtain ⟨A1,A2,A3⟩:=fV_mono hba (show _≤FB by decide)
     obtain ⟨R1,R2,R3⟩:=fV_mono hr (show _≤FB by decide)
     have m1:∀ {x},fl x≤65536→fl (qmul (pick p r) x)≤FB:=fun hx=>Nat.le_trans (fl_qmul (fl_pick hr p) hx) (by decide)
     have m2:∀ {x},fl x≤262145→fl (qmul (pick p a) x)≤FB:=fun hx=>Nat.le_trans (fl_qmul (fl_pick hba p) hx) (by decide)
     simp only [go_sem,dr1,dh1,dr2,dh2,hp,hp5,hpr,hpa,A1,A2,A3,R1,R2,R3,m1 hba.1,m1 hba.2.1,m1 hba.2.2,m2 hr.1,m2 hr.2.1,m2 hr.2.2,red1_1,red1_2,red1_3,w1,ne1,ne2,ne3,ne4,ad_k]
     refine goX_once HE hP.mix 68 (k+70) (by kernel_rfl) ?_
     have hbc:=fV_mono (red1_fV p hr hba) (show _≤655363 by decide)
     have ec:redA [(r,p),(s,p')] a=red1 s p' (red1 r p a):=rfl
     generalize red1 r p a=c at hbc ec ⊢
     obtain ⟨t3,dr3,dh3⟩:=cV_drop s hp'
     obtain ⟨t4,dr4,dh4⟩:=cV_drop c hp'
     have hp5':p'*5≤10:=by omega
     have hps:=Nat.le_trans (fl_pick hs p') (show _≤FB by decide)
     have hpc:=Nat.le_trans (fl_pick hbc p') (show _≤FB by decide)
     obtain ⟨C1,C2,C3⟩:=fV_mono hbc (show _≤FB by decide)
     obtain ⟨S1,S2,S3⟩:=fV_mono hs (show _≤FB by decide)
     have m3:∀ {x},fl x≤655363→fl (qmul (pick p' s) x)≤FB:=fun hx=>Nat.le_trans (fl_qmul (fl_pick hs p') hx) (by decide)
     have m4:∀ {x},fl x≤2621457→fl (qmul (pick p' c) x)≤FB:=fun hx=>Nat.le_trans (fl_qmul (fl_pick hbc p') hx) (by decide)
     simp only [go_sem,n1,le1,dr3,dh3,dr4,dh4,hp',hp5',hps,hpc,C1,C2,C3,S1,S2,S3,m3 hbc.1,m3 hbc.2.1,m3 hbc.2.2,m4 hs.1,m4 hs.2.1,m4 hs.2.2,red1_1,red1_2,red1_3,w2,ne1,ne2,ne3,ne4,ad_k]
     refine goX_once HE hP.mix 68 (k+90) (by kernel_rfl) ?_
     have hbb:=fV_mono (red1_fV p' hs hbc) (show _≤6553643 by decide)
     have eb:redA [(r,p),(s,p')] a=red1 s p' c:=ec
     generalize red1 s p' c=b at hbb eb ⊢
     simp only [go_sem,ne1,ne2,ne3,ne4,ad_k]
     refine trX_once HE hP.mix 68 (k+100) (by kernel_rfl) ?_
     obtain ⟨a1,a2,a3⟩:=fV_mono hbb (show _≤68719476736 by decide)
     have hb1:=fV_mono hbb (show _≤268435456 by decide)
     have s1:=fl_num a1
     have s2:=fl_num a2
     have s3:=fl_num a3
     by_cases c1:(b).1=0
     · have c1':=decide_eq_true c1
       simp only [go_sem,cmpQ_z,c1',w1,s1,ne1,ne2,ne3,ne4,ad_k]
       refine goX_once HE hP.mix 68 (k+200) (by kernel_rfl) ?_
       by_cases c2:(b).2.1=0
       · have c2':=decide_eq_true c2
         simp only [go_sem,cmpQ_z,c2',n1,le1,w2,s2,ne1,ne2,ne3,ne4,ad_k]
         refine goX_once HE hP.mix 68 (k+300) (by kernel_rfl) ?_
         by_cases c3:(b).2.2=0
         · have c3':=decide_eq_true c3
           simp only [go_sem,cmpQ_z,c3',n2,le2,w3,s3,ne1,ne2,ne3,ne4,ad_k]
           refine goX_once HE hP.mix 68 (k+400) (by kernel_rfl) ?_
           have hz:=nz_3 c1 c2 c3
           simp only [go_sem,hwi,ne1,ne2,ne3,ne4,ad_k]
           refine ⟨(q,k,i+1,[(r,p),(s,p')]),?_,⟨hqk,h,hrows0,(stepR_none (rows:=[(r,p),(s,p')]) (a:=a) (by rw [eb]; exact hz)).symm.trans hst⟩,by show l.length-(i+1)<l.length-i; omega⟩
           rw [FR_2]
           exact Kept.of rfl (by repeat (first|exact KT.nil|refine KT.upd rfl (by first|rfl|exact hro _|simp [AV.only]) ?_)) (by refine KM.p (KMp.upd ?_ ?_ (KMp.upd ?_ ?_ KMp.nil))<;>first|rfl|simp [upd,ne5,Nat.ne_of_lt hqk,Nat.ne_of_gt hqk])
         · have c3':=decide_eq_false c3
           have hz:=nz_2 c1 c2 c3
           simp only [go_sem,cmpQ_z,c3',n2,le2,w3,s3,hb1,hwi,ad_k,ne1,ne2,ne3,ne4,ad_k]
           refine ⟨by simp [ne5],?_⟩
           rw [← hst,stepR_three (rows:=[(r,p),(s,p')]) (a:=a) (p:=2) (by rw [eb]; exact hz) rfl]; first|exact Conv.refl _|exact ⟨by simp [ne5],Conv.refl _⟩
       · have c2':=decide_eq_false c2
         have hz:=nz_1 c1 c2
         simp only [go_sem,cmpQ_z,c2',n1,le1,w2,s2,hb1,hwi,ad_k,ne1,ne2,ne3,ne4,ad_k]
         refine ⟨by simp [ne5],?_⟩
         rw [← hst,stepR_three (rows:=[(r,p),(s,p')]) (a:=a) (p:=1) (by rw [eb]; exact hz) rfl]; first|exact Conv.refl _|exact ⟨by simp [ne5],Conv.refl _⟩
     · have c1':=decide_eq_false c1
       have hz:=nz_0 c1
       simp only [go_sem,cmpQ_z,c1',w1,s1,hb1,hwi,ad_k,ne1,ne2,ne3,ne4,ad_k]
       refine ⟨by simp [ne5],?_⟩
       rw [← hst,stepR_three (rows:=[(r,p),(s,p')]) (a:=a) (p:=0) (by rw [eb]; exact hz) rfl]; first|exact Conv.refl _|exact ⟨by simp [ne5],Conv.refl _⟩
   · have hi':l.drop i=[]:=List.drop_of_length_le (by omega)
     rw [hi'] at hst
     simp only [go_sem,h,ne1,ne2,ne3,ne4,ad_k]
     rw [← hst]; exact .refl _
 | _::_::_::_,hrows,_=>exact absurd hrows id
def cW (a:V3):List AV:=[.opq (.rfrac (a.1)),.pad,.pad,.opq (.rfrac (a.2.1)),.pad,.pad,.opq (.rfrac (a.2.2)),.pad,.pad]
theorem fz_cW (a:V3):∀ x ∈ cW a,∀ m j,fzC m j x∧fzV m j x=x:=by
 intro x hx m j
 simp only [cW,List.mem_cons,List.not_mem_nil,or_false] at hx
 rcases hx with rfl|rfl|rfl|rfl|rfl|rfl|rfl|rfl|rfl<;>cases j<;>exact ⟨trivial,rfl⟩
instance:Wd cW 9:=⟨fun _=>rfl,by decide,fun _=>rfl,fun _=>rfl,fun _ _=>rfl,fun m j z=>(fz_flat (fz_cW z)).1 m j,fun m j z=>(fz_flat (fz_cW z)).2 m j⟩
theorem vcq_vcr (a b:V3):vcq a b=vcr a b:=by unfold vcq vcr; simp only [qsub_eq,qmul_eq]
theorem qdt_vdt (a b:V3):qdt a b=vdt a b:=by unfold qdt vdt; simp only [qadd_eq,qmul_eq]
end Go.Proofs.Ytapddfjimhohcaa.AM
/- Arguments that are rows of strings: how long they are. -/
namespace Go.Proofs.Ytapddfjimhohcaa.AM
set_option linter.all false
set_option autoImplicit true
set_option relaxedAutoImplicit true
open Go Go.Proofs
section
variable {H:Type} {enc:TypeId × Value→H} {P:Program} {w:World}
end
end Go.Proofs.Ytapddfjimhohcaa.AM
/- The laws of vectors: their helpers. -/
namespace Go.Proofs.Ytapddfjimhohcaa.AM
set_option linter.all false
set_option autoImplicit true
set_option relaxedAutoImplicit true
open Go Go.Proofs
set_option maxRecDepth 100000
set_option maxHeartbeats 8000000
set_option linter.unusedSimpArgs false
variable {P:Program}
def unV:List AV→Option (List V3)
 | []=>some []
 | .opq (.frac x) :: .pad :: .pad :: .pad :: .pad :: .opq (.frac y) :: .pad :: .pad :: .pad :: .pad :: .opq (.frac z) :: .pad :: .pad :: .pad :: .pad::t=>(unV t).map fun l=>(x,y,z)::l
 | _=>none
theorem unV_nil:unV []=some []:=rfl
theorem unV_cons (x y z t):unV (.opq (.frac x) :: .pad :: .pad :: .pad :: .pad :: .opq (.frac y) :: .pad :: .pad :: .pad :: .pad :: .opq (.frac z) :: .pad :: .pad :: .pad :: .pad::t)=(unV t).map fun l=>(x,y,z)::l:=Eq.trans rfl rfl
theorem unV_inv:∀ (cs:List AV) (l:List V3),unV cs=some l→cs=cl cV l:=by
 intro cs
 induction cs using unV.induct with
 | case1=>intro l h; simp only [unV_nil,Option.some.injEq] at h; subst h; rfl
 | case2 x y z t ih =>
   intro l h
   rw [unV_cons,Option.map_eq_some_iff] at h
   obtain ⟨k,h1,rfl⟩:=h
   rw [ih k h1,cl_cons]; rfl
 | case3 t h1 h2 =>
   intro l h
   unfold unV at h
   split at h
   · exact absurd rfl h1
   · exact absurd rfl (h2 _ _ _ _)
   · simp at h
def fVs:List V3→Prop
 | []=>True
 | a::l=>fV a 65536∧fVs l
theorem fVs_all:∀ {l:List V3},fVs l→∀ a ∈ l,fV a 65536
 | _::_,h,_,ha=>by
   rcases List.mem_cons.1 ha with rfl|ha
   · exact h.1
   · exact fVs_all h.2 _ ha
theorem fVs_nil:fVs []=True:=rfl
theorem fVs_cons (a l):fVs (a::l)=(fV a 65536∧fVs l):=rfl
noncomputable def rankS (un:List AV→Option (List V3)):List AV→Option (Prop × AV)
 | [.imm n cs]=>(un cs).map fun l=>(n=l.length∧l.length≤1000000∧fVs l,.int .i64 (rkN l:Nat))
 | [.nils]=>some (True,.int .i64 (rkN []:Nat))
 | _=>none
theorem rankS_nil (un):rankS un [.nils]=some (True,.int .i64 (rkN []:Nat)):=rfl
theorem rankS_eq (un n cs):rankS un [.imm n cs]=(un cs).map fun l=>(n=l.length∧l.length≤1000000∧fVs l,.int .i64 (rkN l:Nat)):=rfl
theorem rankS_ok {f:Nat} {un:List AV→Option (List V3)} {c:V3→List AV} (hun:∀ cs l,un cs=some l→cs=cl c l) (h:∀ l:List V3,l.length≤1000000→(∀ a ∈ l,fV a 65536)→CSpec P f [.imm l.length (cl c l)] (.int .i64 (rkN l:Nat))) (args p r) (he:rankS un args=some (p,r)) (hp:p):CSpec P f args r:=by
 unfold rankS at he
 split at he
 · simp only [Option.map_eq_some_iff,Prod.mk.injEq] at he
   obtain ⟨l,h1,rfl,rfl⟩:=he
   rw [hun _ _ h1,hp.1]
   exact h l hp.2.1 (fVs_all hp.2.2)
 · simp only [Option.some.injEq,Prod.mk.injEq] at he
   obtain ⟨rfl,rfl⟩:=he
   exact (h [] (by decide) (fun a ha=>by simp at ha)).cv (CvL.nilR .nil)
 · simp at he
noncomputable def vRankS:List AV→Option (Prop × AV):=rankS unV
theorem vRankS_ok (hP:PrgOk P) (args p r):vRankS args=some (p,r)→p→CSpec P 40 args r:=rankS_ok unV_inv (vRank_spec hP) args p r
attribute [go_sem] vRankS unV_nil unV_cons fVs_nil fVs_cons rankS_eq rankS_nil
noncomputable def Zt0:Nat→List AV→Option (Prop × AV):=addS Yt2 40 vRankS
theorem Zt0_all (hP:PrgOk P) (T) (hT:TyOk P T):EnvOk P ⟨T,Zt0⟩:=((Yt2_all hP T hT).add (vRankS_ok hP))
theorem Zt0_at (f a):Zt0 f a=(addS Yt2 40 vRankS) f a:=rfl
attribute [go_sem] Zt0_at
noncomputable def Zt1:Nat→List AV→Option (Prop × AV):=Zt0
theorem Zt1_all (hP:PrgOk P) (T) (hT:TyOk P T):EnvOk P ⟨T,Zt1⟩:=(Zt0_all hP T hT)
attribute [go_sem] Zt1
theorem eqAgg3 (t1 t2 t3:Nat × Nat) (sz b:Nat) (z1 z2 z3 a1 a2 a3 b1 b2 b3:ByteArray):eqAgg ⟨.struct [t1,t2,t3],sz,b,[.str z1,.str z2,.str z3]⟩ .eql [.str a1,.str a2,.str a3] [.str b1,.str b2,.str b3]=some (True,.bool ((a1.toList == b1.toList) && ((a2.toList == b2.toList) && ((a3.toList == b3.toList) && true)))):=by
 rw [eqAgg_eql _ _ _ _ _ _ rfl rfl]
 have:([AV.str a1,.str a2,.str a3].length=[AV.str z1,.str z2,.str z3].length)=True:=eq_true rfl
 simp only [eqStrs_cons,eqStrs_nil,Option.map_some,this]
theorem eqAgg3n (t1 t2 t3:Nat × Nat) (sz b:Nat) (z1 z2 z3 a1 a2 a3 b1 b2 b3:ByteArray):eqAgg ⟨.struct [t1,t2,t3],sz,b,[.str z1,.str z2,.str z3]⟩ .neq [.str a1,.str a2,.str a3] [.str b1,.str b2,.str b3]=some (True,.bool (!((a1.toList == b1.toList) && ((a2.toList == b2.toList) && ((a3.toList == b3.toList) && true))))):=by
 rw [eqAgg_neq _ _ _ _ _ _ rfl rfl]
 have:([AV.str a1,.str a2,.str a3].length=[AV.str z1,.str z2,.str z3].length)=True:=eq_true rfl
 simp only [eqStrs_cons,eqStrs_nil,Option.map_some,this]
attribute [go_sem] eqAgg3 eqAgg3n
noncomputable def Zt2:Nat→List AV→Option (Prop × AV):=Zt1
theorem Zt2_all (hP:PrgOk P) (T) (hT:TyOk P T):EnvOk P ⟨T,Zt2⟩:=(Zt1_all hP T hT)
attribute [go_sem] Zt2
theorem rkN_is {l:List V3} {n:Nat} (h:Rk l n):rkN l=n:=(rkN_ok l).uniq h
noncomputable def Zt3:Nat→List AV→Option (Prop × AV):=Zt2
theorem Zt3_all (hP:PrgOk P) (T) (hT:TyOk P T):EnvOk P ⟨T,Zt3⟩:=(Zt2_all hP T hT)
attribute [go_sem] Zt3
noncomputable def Zt4:Nat→List AV→Option (Prop × AV):=Zt3
theorem Zt4_all (hP:PrgOk P) (T) (hT:TyOk P T):EnvOk P ⟨T,Zt4⟩:=(Zt3_all hP T hT)
attribute [go_sem] Zt4
end Go.Proofs.Ytapddfjimhohcaa.AM
/- Vectors: how long what is reckoned becomes. -/
namespace Go.Proofs.Ytapddfjimhohcaa.AM
set_option linter.all false
set_option autoImplicit true
set_option relaxedAutoImplicit true
open Go Go.Proofs
set_option maxRecDepth 100000
structure BV (a:V3):Prop where
 r:fV a 65536
 d:fV a 8388608
 t:fV a 67108864
 x:fV a 268435456
 f:fV a FB
theorem qdt_fl {a b:V3} {n m:Nat} (ha:fV a n) (hb:fV b m):fl (qdt a b)≤n+m+(n+m)+1+(n+m)+1:=fl_qadd (fl_qadd (fl_qmul ha.1 hb.1) (fl_qmul ha.2.1 hb.2.1)) (fl_qmul ha.2.2 hb.2.2)
end Go.Proofs.Ytapddfjimhohcaa.AM
/- Package plane: what is read off a plane. -/
namespace Go.Proofs.Ytapddfjimhohcaa.AM
set_option linter.all false
set_option autoImplicit true
set_option relaxedAutoImplicit true
open Go Go.Proofs
set_option maxRecDepth 100000
set_option maxHeartbeats 8000000
set_option linter.unusedSimpArgs false
variable {P:Program}
noncomputable def vsbq (q p:V3):V3:=(qsub q.1 p.1,qsub q.2.1 p.2.1,qsub q.2.2 p.2.2)
theorem vcq_fV {a b:V3} {n m:Nat} (ha:fV a n) (hb:fV b m):fV (vcq a b) (n+m+(n+m)+1) :=
 ⟨fl_qsub (fl_qmul ha.2.1 hb.2.2) (fl_qmul ha.2.2 hb.2.1),fl_qsub (fl_qmul ha.2.2 hb.1) (fl_qmul ha.1 hb.2.2),fl_qsub (fl_qmul ha.1 hb.2.1) (fl_qmul ha.2.1 hb.1)⟩
theorem bw {x:V3} {n:Nat} (h:fV x n) (hn:n≤8388608):(fl x.1≤8388608∧fl x.2.1≤8388608∧fl x.2.2≤8388608)∧(fl x.1≤16777216∧fl x.2.1≤16777216∧fl x.2.2≤16777216)∧(fl x.1≤67108864∧fl x.2.1≤67108864∧fl x.2.2≤67108864)∧(fl x.1≤268435456∧fl x.2.1≤268435456∧fl x.2.2≤268435456)∧(fl x.1≤FB∧fl x.2.1≤FB∧fl x.2.2≤FB) :=
 ⟨fV_mono h hn,fV_mono h (by omega),fV_mono h (by omega),fV_mono h (by omega),fV_mono h (Nat.le_trans hn (by decide))⟩
theorem bt {x:V3} {n:Nat} (h:fV x n) (hn:n≤67108864):(fl x.1≤67108864∧fl x.2.1≤67108864∧fl x.2.2≤67108864)∧(fl x.1≤268435456∧fl x.2.1≤268435456∧fl x.2.2≤268435456)∧(fl x.1≤FB∧fl x.2.1≤FB∧fl x.2.2≤FB) :=
 ⟨fV_mono h hn,fV_mono h (by omega),fV_mono h (Nat.le_trans hn (by decide))⟩
theorem bx {x:V3} {n:Nat} (h:fV x n) (hn:n≤268435456):(fl x.1≤268435456∧fl x.2.1≤268435456∧fl x.2.2≤268435456)∧(fl x.1≤FB∧fl x.2.1≤FB∧fl x.2.2≤FB) :=
 ⟨fV_mono h hn,fV_mono h (Nat.le_trans hn (by decide))⟩
theorem bf {x:V3} {n:Nat} (h:fV x n) (hn:n≤FB):fl x.1≤FB∧fl x.2.1≤FB∧fl x.2.2≤FB:=fV_mono h hn
theorem b16 {x:V3} {n:Nat} (h:fV x n) (hn:n≤65536):fl x.1≤65536∧fl x.2.1≤65536∧fl x.2.2≤65536:=fV_mono h hn
noncomputable def vscq (k:Rat) (a:V3):V3:=(qmul k a.1,qmul k a.2.1,qmul k a.2.2)
theorem vsbq_c {a b v:V3} (h:vsbq a b=v):qsub a.1 b.1=v.1∧qsub a.2.1 b.2.1=v.2.1∧qsub a.2.2 b.2.2=v.2.2:=by subst h; exact ⟨rfl,rfl,rfl⟩
theorem vscq_c {k:Rat} {a v:V3} (h:vscq k a=v):qmul k a.1=v.1∧qmul k a.2.1=v.2.1∧qmul k a.2.2=v.2.2:=by subst h; exact ⟨rfl,rfl,rfl⟩
theorem vcq_c {a b v:V3} (h:vcq a b=v):(vcq (a.1,a.2.1,a.2.2) (b.1,b.2.1,b.2.2)=v)∧qsub (qmul a.2.1 b.2.2) (qmul a.2.2 b.2.1)=v.1∧qsub (qmul a.2.2 b.1) (qmul a.1 b.2.2)=v.2.1∧qsub (qmul a.1 b.2.1) (qmul a.2.1 b.1)=v.2.2:=by subst h; exact ⟨rfl,rfl,rfl,rfl⟩
theorem vsbq_fV {a b:V3} {n m:Nat} (ha:fV a n) (hb:fV b m):fV (vsbq a b) (n+m+1):=⟨fl_qsub ha.1 hb.1,fl_qsub ha.2.1 hb.2.1,fl_qsub ha.2.2 hb.2.2⟩
theorem vscq_fV {k:Rat} {a:V3} {n m:Nat} (hk:fl k≤n) (ha:fV a m):fV (vscq k a) (n+m):=⟨fl_qmul hk ha.1,fl_qmul hk ha.2.1,fl_qmul hk ha.2.2⟩
theorem vsbq_vsb (a b:V3):vsbq a b=vsb a b:=by unfold vsbq vsb; simp only [qsub_eq]
theorem vscq_vsc (k:Rat) (a:V3):vscq k a=vsc k a:=by unfold vscq vsc; simp only [qmul_eq]
structure Ln1 (p e:V3):Prop where
 nz:e ≠ v0
 one:nrm e=e
 dot:vdt p e=0
end Go.Proofs.Ytapddfjimhohcaa.AM
/- Lines: plain facts of what the laws say. -/
namespace Go.Proofs.Ytapddfjimhohcaa.AM
set_option linter.all false
set_option autoImplicit true
set_option relaxedAutoImplicit true
open Go Go.Proofs
set_option maxRecDepth 100000
end Go.Proofs.Ytapddfjimhohcaa.AM
/- Where a point lies to the hull of points: plain facts. -/
namespace Go.Proofs.Ytapddfjimhohcaa.AM
set_option linter.all false
set_option autoImplicit true
set_option relaxedAutoImplicit true
open Go Go.Proofs
set_option maxRecDepth 100000
set_option maxHeartbeats 4000000
def fstN:List V3→V3
 | []=>v0
 | n::t=>if n=v0 then fstN t else n
theorem fstN_in {l:List V3} (h:∃ n ∈ l,n ≠ v0):fstN l ∈ l∧fstN l ≠ v0:=by
 induction l with
 | nil=>obtain ⟨n,hn,_⟩:=h; simp at hn
 | cons a t ih =>
   unfold fstN
   by_cases c:a=v0
   · rw [if_pos c]
     obtain ⟨n,hn,h0⟩:=h
     rcases List.mem_cons.1 hn with rfl|hn
     · exact absurd c h0
     · have:=ih ⟨n,hn,h0⟩
       exact ⟨List.mem_cons_of_mem _ this.1,this.2⟩
   · rw [if_neg c]; exact ⟨List.mem_cons_self,c⟩
def nmL (l:List V3):V3:=fstN (l.flatMap fun a=>l.map fun b=>vcr (vsb a (l.headD v0)) (vsb b (l.headD v0)))
def crossN (d:Nat) (l:List V3) (a b c:V3):V3:=if d=1 then vsb b a else if d=2 then vcr (nmL l) (vsb b a) else vcr (vsb b a) (vsb c a)
def Cd (l:List V3) (n a:V3):Prop:=a ∈ l∧n ≠ v0∧(∀ q ∈ l,0≤vdt n (vsb q a))∧∃ b ∈ l,∃ c ∈ l,n=crossN (dm l) l a b c
open Classical in
noncomputable def tri (A B:Prop):Int:=if A then -1 else if B then 0 else 1
theorem tri_1 {A B:Prop} (h:A):tri A B = -1:=if_pos h
theorem tri_2 {A B:Prop} (h:¬ A) (h':B):tri A B=0:=by unfold tri; rw [if_neg h,if_pos h']
theorem tri_3 {A B:Prop} (h:¬ A) (h':¬ B):tri A B=1:=by unfold tri; rw [if_neg h,if_neg h']
noncomputable def wIn (p:V3) (l:List V3):Int :=
 if dm l<dm (p::l) then -1 else if dm l=0 then 1 else tri (∃ n a,Cd l n a∧vdt n (vsb p a)<0) (∃ n a,Cd l n a∧vdt n (vsb p a)=0)
def mx (x y z w:Rat) (a b c d:V3):V3:=vad (vad (vsc x a) (vsc y b)) (vad (vsc z c) (vsc w d))
section
variable {x y z w:Rat} {a b c d:V3}
def D2 (x y z w:V3):Rat:=vdet (vsb y x) (vsb z x) (vsb w x)
end
def Btw (a p b:V3):Prop:=wIn p [a,b] ≠ -1
def prt (x n:V3):Prop:=0≤vdt x n∧vdt x n≤vdt n n
def crN (a b c d:V3):V3:=vcr (vsb b a) (vsb d c)
def CrE (a b c d:V3):Prop:=Btw a c b∨Btw a d b∨Btw c a d∨Btw c b d∨(crN a b c d ≠ v0∧vdt (vsb c a) (crN a b c d)=0∧prt (vcr (vsb c a) (vsb d c)) (crN a b c d)∧prt (vcr (vsb c a) (vsb b a)) (crN a b c d))
def atL (l:List V3) (i:Nat):V3:=l.getD i v0
theorem atL_in {l:List V3} {i:Nat} (h:i<l.length):atL l i ∈ l:=by
 unfold atL; rw [List.getD_eq_getElem?_getD,List.getElem?_eq_getElem h]; exact List.getElem_mem h
theorem in_atL {l:List V3} {a:V3} (h:a ∈ l):∃ i,i<l.length∧atL l i=a:=by
 obtain ⟨i,hi,e⟩:=List.getElem_of_mem h
 refine ⟨i,hi,?_⟩
 unfold atL; rw [List.getD_eq_getElem?_getD,List.getElem?_eq_getElem hi]; exact e
noncomputable def cN (l:List V3) (i j k:Nat):V3:=crossN (dm l) l (atL l i) (atL l j) (atL l k)
def Gd (sk:Nat→Nat→Nat→Bool) (l:List V3) (i j k:Nat):Prop:=sk i j k=false∧cN l i j k ≠ v0∧∀ q ∈ l,0≤vdt (cN l i j k) (vsb q (atL l i))
def bef (i j k i' j' k':Nat):Prop:=i'<i∨(i'=i∧(j'<j∨(j'=j∧k'<k)))
def Jw (sk:Nat→Nat→Nat→Bool) (p:V3) (l:List V3) (i j k:Nat) (w:Int):Prop :=
 (w=0∨w=1)∧(∀ i' j' k',j'<l.length→k'<l.length→bef i j k i' j' k'→Gd sk l i' j' k'→0≤vdt (cN l i' j' k') (vsb p (atL l i'))) ∧
 (w=0 ↔ ∃ i' j' k',j'<l.length∧k'<l.length∧bef i j k i' j' k'∧Gd sk l i' j' k'∧vdt (cN l i' j' k') (vsb p (atL l i'))=0)
variable {sk:Nat→Nat→Nat→Bool} {p:V3} {l:List V3} {i j k:Nat} {w:Int}
theorem Jw_0:Jw sk p l 0 0 0 1:=⟨.inr rfl,fun i' j' k' _ _ h=>by unfold bef at h; omega,⟨fun h=>absurd h (by decide),fun ⟨i',j',k',_,_,h,_⟩=>by unfold bef at h; omega⟩⟩
theorem bef_next (i j k i' j' k':Nat):bef i j (k+1) i' j' k' ↔ bef i j k i' j' k'∨(i'=i∧j'=j∧k'=k):=by unfold bef; omega
theorem Jw_skip (hj:Jw sk p l i j k w) (h:¬ Gd sk l i j k):Jw sk p l i j (k+1) w:=by
 obtain ⟨h1,h2,h3⟩:=hj
 refine ⟨h1,fun i' j' k' a b c g=>?_,h3.trans ⟨fun ⟨i',j',k',a,b,c,g⟩=>⟨i',j',k',a,b,(bef_next ..).2 (.inl c),g⟩,fun ⟨i',j',k',a,b,c,g⟩=>?_⟩⟩
 · rcases (bef_next ..).1 c with c|⟨rfl,rfl,rfl⟩
   · exact h2 i' j' k' a b c g
   · exact absurd g h
 · rcases (bef_next ..).1 c with c|⟨rfl,rfl,rfl⟩
   · exact ⟨i',j',k',a,b,c,g⟩
   · exact absurd g.1 h
theorem Jw_pos (hj:Jw sk p l i j k w) (h:0<vdt (cN l i j k) (vsb p (atL l i))):Jw sk p l i j (k+1) w:=by
 obtain ⟨h1,h2,h3⟩:=hj
 refine ⟨h1,fun i' j' k' a b c g=>?_,h3.trans ⟨fun ⟨i',j',k',a,b,c,g⟩=>⟨i',j',k',a,b,(bef_next ..).2 (.inl c),g⟩,fun ⟨i',j',k',a,b,c,g⟩=>?_⟩⟩
 · rcases (bef_next ..).1 c with c|⟨rfl,rfl,rfl⟩
   · exact h2 i' j' k' a b c g
   · grind
 · rcases (bef_next ..).1 c with c|⟨rfl,rfl,rfl⟩
   · exact ⟨i',j',k',a,b,c,g⟩
   · have:=g.2; grind
theorem Jw_zero (hj:Jw sk p l i j k w) (hl:j<l.length) (hk:k<l.length) (hg:Gd sk l i j k) (h:vdt (cN l i j k) (vsb p (atL l i))=0):Jw sk p l i j (k+1) 0:=by
 obtain ⟨h1,h2,h3⟩:=hj
 refine ⟨.inl rfl,fun i' j' k' a b c g=>?_,⟨fun _=>⟨i,j,k,hl,hk,(bef_next ..).2 (.inr ⟨rfl,rfl,rfl⟩),hg,h⟩,fun _=>rfl⟩⟩
 rcases (bef_next ..).1 c with c|⟨rfl,rfl,rfl⟩
 · exact h2 i' j' k' a b c g
 · grind
theorem Jw_roll (hj:Jw sk p l i j l.length w):Jw sk p l i (j+1) 0 w:=by
 obtain ⟨h1,h2,h3⟩:=hj
 have e:∀ i' j' k',k'<l.length→(bef i (j+1) 0 i' j' k' ↔ bef i j l.length i' j' k'):=fun i' j' k' h=>by unfold bef; omega
 exact ⟨h1,fun i' j' k' a b c g=>h2 i' j' k' a b ((e _ _ _ b).1 c) g,h3.trans ⟨fun ⟨i',j',k',a,b,c,g⟩=>⟨i',j',k',a,b,(e _ _ _ b).2 c,g⟩,fun ⟨i',j',k',a,b,c,g⟩=>⟨i',j',k',a,b,(e _ _ _ b).1 c,g⟩⟩⟩
theorem Jw_rol2 (hj:Jw sk p l i l.length 0 w):Jw sk p l (i+1) 0 0 w:=by
 obtain ⟨h1,h2,h3⟩:=hj
 have e:∀ i' j' k',j'<l.length→(bef (i+1) 0 0 i' j' k' ↔ bef i l.length 0 i' j' k'):=fun i' j' k' h=>by unfold bef; omega
 exact ⟨h1,fun i' j' k' a b c g=>h2 i' j' k' a b ((e _ _ _ a).1 c) g,h3.trans ⟨fun ⟨i',j',k',a,b,c,g⟩=>⟨i',j',k',a,b,(e _ _ _ a).2 c,g⟩,fun ⟨i',j',k',a,b,c,g⟩=>⟨i',j',k',a,b,(e _ _ _ a).1 c,g⟩⟩⟩
def allB (sk:Nat→Nat→Nat→Bool) (l:List V3):Prop:=∀ n a,Cd l n a→∃ i j k,i<l.length∧j<l.length∧k<l.length∧Gd sk l i j k∧cN l i j k=n∧atL l i=a
theorem Gd_Cd (hi:i<l.length) (hj:j<l.length) (hk:k<l.length) (h:Gd sk l i j k):Cd l (cN l i j k) (atL l i):=⟨atL_in hi,h.2.1,h.2.2,_,atL_in hj,_,atL_in hk,rfl⟩
theorem Jw_end (ha:allB sk l) (h0:¬ dm l<dm (p::l)) (h1:dm l ≠ 0) (hj:Jw sk p l l.length 0 0 w):wIn p l=w:=by
 obtain ⟨g1,g2,g3⟩:=hj
 have hb:∀ {i' j' k':Nat},i'<l.length→bef l.length 0 0 i' j' k':=fun h=>.inl h
 have hn:¬ ∃ n a,Cd l n a∧vdt n (vsb p a)<0:=by
  rintro ⟨n,a,hc,hlt⟩
  obtain ⟨i,j,k,hi,hj,hk,hg,e1,e2⟩:=ha n a hc
  have:=g2 i j k hj hk (hb hi) hg
  rw [e1,e2] at this
  grind
 unfold wIn
 rw [if_neg h0,if_neg h1]
 rcases g1 with rfl|rfl
 · obtain ⟨i,j,k,hj,hk,hbe,hg,e⟩:=g3.1 rfl
   have hi:i<l.length:=by unfold bef at hbe; omega
   exact tri_2 hn ⟨_,_,Gd_Cd hi hj hk hg,e⟩
 · refine tri_3 hn ?_
   rintro ⟨n,a,hc,hz⟩
   obtain ⟨i,j,k,hi,hj,hk,hg,e1,e2⟩:=ha n a hc
   exact absurd (g3.2 ⟨i,j,k,hj,hk,hb hi,hg,by rw [e1,e2]; exact hz⟩) (by decide)
theorem Jw_out (h0:¬ dm l<dm (p::l)) (h1:dm l ≠ 0) (hi:i<l.length) (hj:j<l.length) (hk:k<l.length) (hg:Gd sk l i j k) (h:vdt (cN l i j k) (vsb p (atL l i))<0):wIn p l = -1:=by
 unfold wIn
 rw [if_neg h0,if_neg h1]
 exact tri_1 ⟨_,_,Gd_Cd hi hj hk hg,h⟩
def skP (d:Nat) (i j k:Nat):Bool:=decide (i=j) || (decide (d=3) && (decide (k=i) || decide (k=j)) || (decide (d<3) && decide (0<k)))
theorem vcr_z (a b:V3):vcr a (vsb b b)=v0∧vcr (vsb b b) a=v0:=by rw [vsb_self]; exact ⟨vcr_v0r a,vcr_v0l a⟩
theorem allB_p (h1:dm l ≠ 0):allB (skP (dm l)) l:=fun n a ⟨ha,hn,hq,b,hb,c,hc,e⟩=>by
 obtain ⟨i,hi,ei⟩:=in_atL ha
 obtain ⟨j,hj,ej⟩:=in_atL hb
 have hij:i ≠ j:=fun h=>hn (by
  have eab:a=b:=by rw [← ei,← ej,h]
  rw [e,eab]; unfold crossN
  split
  · exact vsb_self b
  · split
    · exact (vcr_z _ _).1
    · exact (vcr_z _ _).2)
 by_cases h3:dm l=3
 · obtain ⟨k,hk,ek⟩:=in_atL hc
   have ec:crossN (dm l) l a b c=vcr (vsb b a) (vsb c a):=by unfold crossN; rw [if_neg (by omega),if_neg (by omega)]
   have hki:k ≠ i:=fun h=>hn (by
    have:c=a:=by rw [← ek,← ei,h]
    rw [e,ec,this]; exact (vcr_z _ _).1)
   have hkj:k ≠ j:=fun h=>hn (by
    have:c=b:=by rw [← ek,← ej,h]
    rw [e,ec,this]; rw [v0_iff]; unfold vcr; simp only []; exact ⟨by grind,by grind,by grind⟩)
   have en:cN l i j k=n:=by unfold cN; rw [ei,ej,ek,e]
   exact ⟨i,j,k,hi,hj,hk,⟨by unfold skP; simp [hij,hki,hkj,h3],by rw [en]; exact hn,by rw [en,ei]; exact hq⟩,en,ei⟩
 · have hd:dm l<3:=by have:=dm_le l; omega
   have en:cN l i j 0=n:=by
    unfold cN; rw [ei,ej,e]; unfold crossN
    by_cases c1:dm l=1
    · rw [if_pos c1,if_pos c1]
    · have c2:dm l=2:=by omega
      rw [if_neg c1,if_neg c1,if_pos c2,if_pos c2]
   exact ⟨i,j,0,hi,hj,by omega,⟨by unfold skP; simp [hij,h3],by rw [en]; exact hn,by rw [en,ei]; exact hq⟩,en,ei⟩
end Go.Proofs.Ytapddfjimhohcaa.AM
/- Hulls of points that are given. -/
namespace Go.Proofs.Ytapddfjimhohcaa.AM
set_option linter.all false
set_option autoImplicit true
set_option relaxedAutoImplicit true
open Go Go.Proofs
set_option maxRecDepth 100000
set_option maxHeartbeats 4000000
def crossD (d:Nat) (n a b c:V3):V3:=if d=1 then vsb b a else if d=2 then vcr n (vsb b a) else vcr (vsb b a) (vsb c a)
def cds (d:Nat) (n:V3) (l:List V3):List (V3 × V3):=l.flatMap fun a=>l.flatMap fun b=>l.map fun c=>(crossD d n a b c,a)
def cdv (d:Nat) (n p:V3) (l:List V3):List Rat:=((cds d n l).filter fun x=>decide (x.1 ≠ v0) && l.all fun q=>decide (0≤vdt x.1 (vsb q x.2))).map fun x=>vdt x.1 (vsb p x.2)
def wCl (d e:Nat) (p:V3) (l:List V3):Int:=if d<e then -1 else if d=0 then 1 else if (cdv d (nmL l) p l).any (fun x=>decide (x<0)) then -1 else if (cdv d (nmL l) p l).any (fun x=>decide (x=0)) then 0 else 1
theorem cdv_mem {d:Nat} {p:V3} {l:List V3} {v:Rat} (hd:dm l=d):v ∈ cdv d (nmL l) p l ↔ ∃ n a,Cd l n a∧vdt n (vsb p a)=v:=by
 unfold cdv cds Cd
 simp only [List.mem_map,List.mem_filter,List.mem_flatMap,Bool.and_eq_true,decide_eq_true_eq,List.all_eq_true]
 constructor
 · rintro ⟨x,⟨⟨a,ha,b,hb,c,hc,rfl⟩,hn,hq⟩,e⟩
   exact ⟨_,a,⟨ha,hn,hq,b,hb,c,hc,by rw [hd]; rfl⟩,e⟩
 · rintro ⟨n,a,⟨ha,hn,hq,b,hb,c,hc,e⟩,rfl⟩
   exact ⟨(n,a),⟨⟨a,ha,b,hb,c,hc,by rw [e,hd]; rfl⟩,hn,hq⟩,rfl⟩
theorem wIn_C {d e:Nat} {p:V3} {l:List V3} (h:Rk (lessH l) d) (h':Rk (lessH (p::l)) e):wIn p l=wCl d e p l:=by
 have hd:dm l=d:=rkN_is h
 have he:dm (p::l)=e:=rkN_is h'
 unfold wIn wCl
 rw [hd,he]
 by_cases c1:d<e
 · rw [if_pos c1,if_pos c1]
 rw [if_neg c1,if_neg c1]
 by_cases c2:d=0
 · rw [if_pos c2,if_pos c2]
 rw [if_neg c2,if_neg c2]
 have e1:(∃ n a,Cd l n a∧vdt n (vsb p a)<0) ↔ (cdv d (nmL l) p l).any (fun x=>decide (x<0))=true:=by
  rw [List.any_eq_true]
  constructor
  · rintro ⟨n,a,hc,hlt⟩; exact ⟨_,(cdv_mem hd).2 ⟨n,a,hc,rfl⟩,decide_eq_true hlt⟩
  · rintro ⟨v,hv,hlt⟩
    obtain ⟨n,a,hc,rfl⟩:=(cdv_mem hd).1 hv
    exact ⟨n,a,hc,of_decide_eq_true hlt⟩
 have e2:(∃ n a,Cd l n a∧vdt n (vsb p a)=0) ↔ (cdv d (nmL l) p l).any (fun x=>decide (x=0))=true:=by
  rw [List.any_eq_true]
  constructor
  · rintro ⟨n,a,hc,hlt⟩; exact ⟨_,(cdv_mem hd).2 ⟨n,a,hc,rfl⟩,decide_eq_true hlt⟩
  · rintro ⟨v,hv,hlt⟩
    obtain ⟨n,a,hc,rfl⟩:=(cdv_mem hd).1 hv
    exact ⟨n,a,hc,of_decide_eq_true hlt⟩
 by_cases k1:(cdv d (nmL l) p l).any (fun x=>decide (x<0))=true
 · rw [if_pos k1,tri_1 (e1.2 k1)]
 rw [if_neg k1]
 by_cases k2:(cdv d (nmL l) p l).any (fun x=>decide (x=0))=true
 · rw [if_pos k2,tri_2 (fun h=>k1 (e1.1 h)) (e2.2 k2)]
 · rw [if_neg k2,tri_3 (fun h=>k1 (e1.1 h)) (fun h=>k2 (e2.1 h))]
end Go.Proofs.Ytapddfjimhohcaa.AM
/- The laws of lines: what small lines give. -/
namespace Go.Proofs.Ytapddfjimhohcaa.AM
set_option linter.all false
set_option autoImplicit true
set_option relaxedAutoImplicit true
open Go Go.Proofs
set_option maxRecDepth 100000
set_option maxHeartbeats 8000000
set_option linter.unusedSimpArgs false
variable {P:Program}
theorem sm {x:Rat} (h:fl x≤4096):fl x≤4096∧fl x≤8192∧fl x≤65536∧fl x≤262144∧fl x≤1048576∧fl x≤4194304∧fl x≤8388608∧fl x≤16777216∧fl x≤67108864∧fl x≤268435456∧fl x≤FB∧wl x.num≤68719476736:=by
 have k:∀ m,4096≤m→fl x≤m:=fun m hm=>Nat.le_trans h hm
 exact ⟨h,k _ (by decide),k _ (by decide),k _ (by decide),k _ (by decide),k _ (by decide),k _ (by decide),k _ (by decide),k _ (by decide),k _ (by decide),k _ (by decide),Nat.le_trans (fl_num h) (by decide)⟩
theorem smi {n:Int} (h1 : -9223372036854775808≤n) (h2:n≤9223372036854775807):(fl ((n:Int):Rat)≤8192∧fl ((n:Int):Rat)≤65536∧fl ((n:Int):Rat)≤262144∧fl ((n:Int):Rat)≤1048576∧fl ((n:Int):Rat)≤4194304∧fl ((n:Int):Rat)≤8388608∧fl ((n:Int):Rat)≤16777216∧fl ((n:Int):Rat)≤67108864∧fl ((n:Int):Rat)≤268435456∧fl ((n:Int):Rat)≤FB)∧((-9223372036854775808:Int)≤n∧n≤9223372036854775807):=by
 have s:=sm (Nat.le_trans (fl_i64 h1 h2) (by decide))
 exact ⟨⟨s.2.1,s.2.2.1,s.2.2.2.1,s.2.2.2.2.1,s.2.2.2.2.2.1,s.2.2.2.2.2.2.1,s.2.2.2.2.2.2.2.1,s.2.2.2.2.2.2.2.2.1,s.2.2.2.2.2.2.2.2.2.1,s.2.2.2.2.2.2.2.2.2.2.1⟩,h1,h2⟩
end Go.Proofs.Ytapddfjimhohcaa.AM
/- Loops a round at a time,that keep the number of the next object. -/
namespace Go.Proofs.Ytapddfjimhohcaa.AM
set_option linter.all false
set_option autoImplicit true
set_option relaxedAutoImplicit true
open Go Go.Proofs
set_option maxRecDepth 100000
section
variable {P:Program} {E:Env} {s:St} {Q:Exit→Nat→St→Prop} {nx:Nat} {c:Code}
def onceN (P:Program) (c:Code) (Q:Exit→Nat→St→Prop):Exit→Nat→St→Prop
 | .normal,_,s=>TriW P false c Q s
 | e,nx,s=>Q e nx s
theorem onceN_eq:onceN P c Q=onceQ P c Q:=by funext e nx s; cases e<;>rfl
def goN (P:Program) (c:Code) (_:Nat) (s:St) [Q:Bx (Exit→Nat→St→Prop)]:Prop:=TriW P false c Q.v s
theorem q_onceN_normal:qX .normal nx s (Q:=⟨onceN P c Q⟩)=goN P c nx s (Q:=⟨Q⟩):=rfl
theorem q_onceN_exit (i):qX (.exit i) nx s (Q:=⟨onceN P c Q⟩)=qX (.exit i) nx s (Q:=⟨Q⟩):=rfl
theorem q_onceN_ret:qX .ret nx s (Q:=⟨onceN P c Q⟩)=qX .ret nx s (Q:=⟨Q⟩):=rfl
theorem trN_once (HE:EnvOk P E) (hmix:P.follows .mixedOrders=true) (N:Nat) (nx0:Nat) (h:vcX (Tri P) (ICall P) E N c nx0 s (Q:=⟨onceN P c Q⟩)) (hN:regsOk N c=true:=by kernel_rfl):trX (Tri P) (.loop c) s (Q:=⟨Q⟩) :=
 trX_once HE hmix N nx0 hN (onceN_eq ▸ h)
theorem goN_once (HE:EnvOk P E) (hmix:P.follows .mixedOrders=true) (N:Nat) (h:vcX (Tri P) (ICall P) E N c nx s (Q:=⟨onceN P c Q⟩)) (hN:regsOk N c=true:=by kernel_rfl):goN P c nx s (Q:=⟨Q⟩) :=
 goX_once HE hmix N nx hN (onceN_eq ▸ h)
end
attribute [go_sem] q_onceN_normal q_onceN_exit q_onceN_ret
section
variable {X:Nat→Prop} {φ φ0:Nat→Option (Option Nat)} {m m0:Nat→AObj} {a:Act} {w w0:World}
variable {P:Program} {E:Env} {s:St} {Q:Exit→Nat→St→Prop} {nx:Nat} {c:Code}
def frzM (L:List Nat) (m:Nat→AObj):Nat→AObj:=fun r=>if L.contains r then (m r).freeze else m r
theorem frz_live {L:List Nat} {r:Nat} {cs:List AV} (h:frzM L m r = .live cs):m r = .live cs:=by
 unfold frzM at h
 split at h
 · cases hm:m r<;>rw [hm] at h<;>simp [AObj.freeze] at h
 · exact h
theorem frz_rel (L:List Nat) (R:Rel X φ s a w) (hst:Stp X φ0 m0 w0 φ s.m w):Rel X φ ⟨s.t,frzM L s.m,s.n⟩ a w∧Stp X φ0 m0 w0 φ (frzM L s.m) w:=by
 have hw:∀ b,Wr X φ (frzM L s.m) b→Wr X φ s.m b:=fun b hW=>by
  rcases hW with h|⟨r,cs,h,h'⟩
  · exact .inl h
  · exact .inr ⟨r,cs,h,frz_live h'⟩
 have E:Ext (Wr X φ s.m) φ w (Wr X φ (frzM L s.m)) φ w:=⟨fun _ _ h=>.inl h,fun _ _ _=>rfl,fun b _ hW=>hw b hW,fun _ _ c e fr _ _ h=>⟨c,e,fr,h,Nat.le_refl _⟩⟩
 have hobj:∀ r,ObjOk (Wr X φ (frzM L s.m)) φ w (φ r) (frzM L s.m r):=fun r=>by
  have ho:=R.mem.obj r
  have key:∀ cs b,ObjAt (Wr X φ s.m) φ w b cs→ObjAt (Wr X φ (frzM L s.m)) φ w b cs:=fun cs b ⟨c,e,k2,k3,k4,k5⟩=>⟨c,e,k2,k3,k4.mono E,k5⟩
  unfold frzM
  cases hm:s.m r with
  | unused=>rw [hm] at ho; split<;>exact ho
  | gone=>rw [hm] at ho; split<;>exact ho
  | live cs =>
    rw [hm] at ho
    obtain ⟨b,k1,k2⟩:=ho
    split<;>exact ⟨b,k1,key cs b k2⟩
  | ro cs =>
    rw [hm] at ho
    obtain ⟨b,k1,k2⟩:=ho
    split<;>exact ⟨b,k1,key cs b k2⟩
 refine ⟨⟨fun i hi=>?_,R.df,R.n,⟨hobj,R.mem.inj,R.mem.ext,R.mem.xlt⟩⟩,⟨⟨hst.ext.phi,hst.ext.old,fun b hb hW=>hst.ext.wr b hb (hw b hW),hst.ext.size⟩,hst.fr⟩⟩
 obtain ⟨v,h3,h4⟩:=R.tm i hi
 exact ⟨v,h3,h4.mono E⟩
theorem Tri_frz (L:List Nat) (h:Tri P c Q ⟨s.t,frzM L s.m,s.n⟩):Tri P c Q s:=by
 intro X φ a w R
 obtain ⟨r0,st0⟩:=frz_rel L R (.refl _ _ _ _)
 refine Code.wp_mono ?_ (h X φ a w r0)
 rintro e a2 w2 ⟨nx,s2,φ2,q,r2,st2⟩
 exact ⟨nx,s2,φ2,q,r2,st0.trans st2⟩
theorem trX_frz (L:List Nat) (h:trX (Tri P) c ⟨s.t,frzM L s.m,s.n⟩ (Q:=⟨Q⟩)):trX (Tri P) c s (Q:=⟨Q⟩):=Tri_frz L h
theorem Has.frz {L K:List Nat} (h:Has L m):Has L (frzM K m):=fun r hr=>h r fun e=>hr (by unfold frzM; rw [e]; split<;>rfl)
end
end Go.Proofs.Ytapddfjimhohcaa.AM
/- Points in lists: how many dimensions they span. -/
namespace Go.Proofs.Ytapddfjimhohcaa.AM
set_option linter.all false
set_option autoImplicit true
set_option relaxedAutoImplicit true
open Go Go.Proofs
set_option maxRecDepth 100000
set_option maxHeartbeats 16000000
set_option linter.unusedSimpArgs false
variable {P:Program}
def fVm (m:Nat):List V3→Prop
 | []=>True
 | a::l=>fV a m∧fVm m l
theorem fVm_nil (m):fVm m []=True:=rfl
theorem fVm_cons (m a l):fVm m (a::l)=(fV a m∧fVm m l):=rfl
theorem fVm_mem {m:Nat}:∀ {l:List V3},fVm m l→∀ a ∈ l,fV a m
 | _::_,h,_,ha=>by
   rcases List.mem_cons.1 ha with rfl|ha
   · exact h.1
   · exact fVm_mem h.2 _ ha
theorem unV_cl:∀ l:List V3,unV (cl cV l)=some l
 | []=>rfl
 | (x,y,z)::l=>(unV_cons x y z (cl cV l)).trans (by rw [unV_cl l]; rfl)
def rawLV:AV→Option (List V3)
 | .imm n cs=>(unV cs).bind fun l=>if n=l.length then some l else none
 | _=>none
theorem rawLV_eq (n cs):rawLV (.imm n cs)=(unV cs).bind fun l=>if n=l.length then some l else none:=rfl
theorem rawLV_cl (l:List V3):rawLV (.imm l.length (cl cV l))=some l:=by rw [rawLV_eq,unV_cl,Option.bind_some,if_pos rfl]
theorem rawLV_inv {x:AV} {l:List V3} (h:rawLV x=some l):x = .imm l.length (cl cV l):=by
 unfold rawLV at h
 split at h
 · obtain ⟨k,hk,h⟩:=Option.bind_eq_some_iff.1 h
   split at h
   · rename_i e; obtain rfl:=Option.some.inj h; rw [unV_inv _ _ hk,e]
   · simp at h
 · simp at h
attribute [go_sem] fVm_nil fVm_cons unV_cl rawLV_cl rawLV_eq
noncomputable def lessQ (l:List V3):List V3:=l.tail.map fun q=>vsbq q (l.headD v0)
theorem lessQ_H (l:List V3):lessQ l=lessH l:=by
 cases l with
 | nil=>rfl
 | cons a t=>simp only [lessQ,lessH,List.tail_cons,List.headD_cons,vsbq_vsb]
theorem sub_b {x y:V3} (hx:fV x 16384) (hy:fV y 16384):fl (qsub x.1 y.1)≤65536∧fl (qsub x.2.1 y.2.1)≤65536∧fl (qsub x.2.2 y.2.2)≤65536:=⟨Nat.le_trans (fl_qsub hx.1 hy.1) (by decide),Nat.le_trans (fl_qsub hx.2.1 hy.2.1) (by decide),Nat.le_trans (fl_qsub hx.2.2 hy.2.2) (by decide)⟩
theorem nw8:((1:Int).toNat=1∧(2:Int).toNat=2∧(3:Int).toNat=3∧(4:Int).toNat=4∧(5:Int).toNat=5)∧((0:Int)≤1∧(0:Int)≤2∧(0:Int)≤3∧(0:Int)≤4)∧IntKind.i64.wrap (0+1)=1∧IntKind.i64.wrap (1+1)=2∧IntKind.i64.wrap (2+1)=3∧IntKind.i64.wrap (3+1)=4∧IntKind.i64.wrap (4+1)=5:=⟨⟨rfl,rfl,rfl,rfl,rfl⟩,⟨by decide,by decide,by decide,by decide⟩,rfl,rfl,rfl,rfl,rfl⟩
theorem span_spec (hP:PrgOk P) (l:List V3) (h2:2≤l.length) (h5:l.length≤5) (hb:fVm 16384 l):CSpec P 24 [.imm l.length (cl cV l)] (.int .i64 (dm l:Nat)):=by
 have HE:=Zt4_all hP TF hP.tF
 have nw:=nw8
 unfold dm; rw [← lessQ_H]
 match l,h2,h5,hb with
 | [a,b],_,_,hb =>
   obtain ⟨ha,hb,_⟩:=hb
   show CSpec P 24 [.imm 2 [.opq (.frac (a.1)),.pad,.pad,.pad,.pad,.opq (.frac (a.2.1)),.pad,.pad,.pad,.pad,.opq (.frac (a.2.2)),.pad,.pad,.pad,.pad,.opq (.frac (b.1)),.pad,.pad,.pad,.pad,.opq (.frac (b.2.1)),.pad,.pad,.pad,.pad,.opq (.frac (b.2.2)),.pad,.pad,.pad,.pad]] (.int .i64 (rkN [(qsub b.1 a.1,qsub b.2.1 a.2.1,qsub b.2.2 a.2.2)]:Nat))
   have B:=(⟨bf ha (by decide),bf hb (by decide),sub_b hb ha⟩:_∧_∧_)
   refine CSpec_go (E:=⟨TF,Zt4⟩) (fn24 hP) HE hP.mix ?_
   simp only [go_sem,nw,B,Option.some.injEq,false_implies,implies_true]
   refine trN_once HE hP.mix 24 1000 ?_
   simp only [go_sem,nw,B,Option.some.injEq,false_implies,implies_true]
   refine goN_once HE hP.mix 24 ?_
   simp only [go_sem,nw,B,Option.some.injEq,false_implies,implies_true]
   exact fin_z
 | [a,b,c],_,_,hb =>
   obtain ⟨ha,hb,hc,_⟩:=hb
   show CSpec P 24 [.imm 3 (.opq (.frac (a.1)) :: .pad :: .pad :: .pad :: .pad :: .opq (.frac (a.2.1)) :: .pad :: .pad :: .pad :: .pad :: .opq (.frac (a.2.2)) :: .pad :: .pad :: .pad :: .pad :: .opq (.frac (b.1)) :: .pad :: .pad :: .pad :: .pad :: .opq (.frac (b.2.1)) :: .pad :: .pad :: .pad :: .pad :: .opq (.frac (b.2.2)) :: .pad :: .pad :: .pad :: .pad :: .opq (.frac (c.1)) :: .pad :: .pad :: .pad :: .pad :: .opq (.frac (c.2.1)) :: .pad :: .pad :: .pad :: .pad :: .opq (.frac (c.2.2)) :: .pad :: .pad :: .pad :: .pad::[])] (.int .i64 (rkN [(qsub b.1 a.1,qsub b.2.1 a.2.1,qsub b.2.2 a.2.2),(qsub c.1 a.1,qsub c.2.1 a.2.1,qsub c.2.2 a.2.2)]:Nat))
   have B:=(⟨bf ha (by decide),bf hb (by decide),bf hc (by decide),sub_b hb ha,sub_b hc ha⟩:_∧_∧_∧_∧_)
   refine CSpec_go (E:=⟨TF,Zt4⟩) (fn24 hP) HE hP.mix ?_
   simp only [go_sem,nw,B,Option.some.injEq,false_implies,implies_true]
   refine trN_once HE hP.mix 24 1000 ?_
   simp only [go_sem,nw,B,Option.some.injEq,false_implies,implies_true]
   refine goN_once HE hP.mix 24 ?_
   simp only [go_sem,nw,B,Option.some.injEq,false_implies,implies_true]
   refine goN_once HE hP.mix 24 ?_
   simp only [go_sem,nw,B,Option.some.injEq,false_implies,implies_true]
   exact fin_z
 | [a,b,c,d],_,_,hb =>
   obtain ⟨ha,hb,hc,hd,_⟩:=hb
   show CSpec P 24 [.imm 4 (.opq (.frac (a.1)) :: .pad :: .pad :: .pad :: .pad :: .opq (.frac (a.2.1)) :: .pad :: .pad :: .pad :: .pad :: .opq (.frac (a.2.2)) :: .pad :: .pad :: .pad :: .pad :: .opq (.frac (b.1)) :: .pad :: .pad :: .pad :: .pad :: .opq (.frac (b.2.1)) :: .pad :: .pad :: .pad :: .pad :: .opq (.frac (b.2.2)) :: .pad :: .pad :: .pad :: .pad :: .opq (.frac (c.1)) :: .pad :: .pad :: .pad :: .pad :: .opq (.frac (c.2.1)) :: .pad :: .pad :: .pad :: .pad :: .opq (.frac (c.2.2)) :: .pad :: .pad :: .pad :: .pad :: .opq (.frac (d.1)) :: .pad :: .pad :: .pad :: .pad :: .opq (.frac (d.2.1)) :: .pad :: .pad :: .pad :: .pad :: .opq (.frac (d.2.2)) :: .pad :: .pad :: .pad :: .pad::[])] (.int .i64 (rkN [(qsub b.1 a.1,qsub b.2.1 a.2.1,qsub b.2.2 a.2.2),(qsub c.1 a.1,qsub c.2.1 a.2.1,qsub c.2.2 a.2.2),(qsub d.1 a.1,qsub d.2.1 a.2.1,qsub d.2.2 a.2.2)]:Nat))
   have B:=(⟨bf ha (by decide),bf hb (by decide),bf hc (by decide),bf hd (by decide),sub_b hb ha,sub_b hc ha,sub_b hd ha⟩:_∧_∧_∧_∧_∧_∧_)
   refine CSpec_go (E:=⟨TF,Zt4⟩) (fn24 hP) HE hP.mix ?_
   simp only [go_sem,nw,B,Option.some.injEq,false_implies,implies_true]
   refine trN_once HE hP.mix 24 1000 ?_
   simp only [go_sem,nw,B,Option.some.injEq,false_implies,implies_true]
   refine goN_once HE hP.mix 24 ?_
   simp only [go_sem,nw,B,Option.some.injEq,false_implies,implies_true]
   refine goN_once HE hP.mix 24 ?_
   simp only [go_sem,nw,B,Option.some.injEq,false_implies,implies_true]
   refine goN_once HE hP.mix 24 ?_
   simp only [go_sem,nw,B,Option.some.injEq,false_implies,implies_true]
   exact fin_z
 | [a,b,c,d,e],_,_,hb =>
   obtain ⟨ha,hb,hc,hd,he,_⟩:=hb
   show CSpec P 24 [.imm 5 (.opq (.frac (a.1)) :: .pad :: .pad :: .pad :: .pad :: .opq (.frac (a.2.1)) :: .pad :: .pad :: .pad :: .pad :: .opq (.frac (a.2.2)) :: .pad :: .pad :: .pad :: .pad :: .opq (.frac (b.1)) :: .pad :: .pad :: .pad :: .pad :: .opq (.frac (b.2.1)) :: .pad :: .pad :: .pad :: .pad :: .opq (.frac (b.2.2)) :: .pad :: .pad :: .pad :: .pad :: .opq (.frac (c.1)) :: .pad :: .pad :: .pad :: .pad :: .opq (.frac (c.2.1)) :: .pad :: .pad :: .pad :: .pad :: .opq (.frac (c.2.2)) :: .pad :: .pad :: .pad :: .pad :: .opq (.frac (d.1)) :: .pad :: .pad :: .pad :: .pad :: .opq (.frac (d.2.1)) :: .pad :: .pad :: .pad :: .pad :: .opq (.frac (d.2.2)) :: .pad :: .pad :: .pad :: .pad :: .opq (.frac (e.1)) :: .pad :: .pad :: .pad :: .pad :: .opq (.frac (e.2.1)) :: .pad :: .pad :: .pad :: .pad :: .opq (.frac (e.2.2)) :: .pad :: .pad :: .pad :: .pad::[])] (.int .i64 (rkN [(qsub b.1 a.1,qsub b.2.1 a.2.1,qsub b.2.2 a.2.2),(qsub c.1 a.1,qsub c.2.1 a.2.1,qsub c.2.2 a.2.2),(qsub d.1 a.1,qsub d.2.1 a.2.1,qsub d.2.2 a.2.2),(qsub e.1 a.1,qsub e.2.1 a.2.1,qsub e.2.2 a.2.2)]:Nat))
   have B:=(⟨bf ha (by decide),bf hb (by decide),bf hc (by decide),bf hd (by decide),bf he (by decide),sub_b hb ha,sub_b hc ha,sub_b hd ha,sub_b he ha⟩:_∧_∧_∧_∧_∧_∧_∧_∧_)
   refine CSpec_go (E:=⟨TF,Zt4⟩) (fn24 hP) HE hP.mix ?_
   simp only [go_sem,nw,B,Option.some.injEq,false_implies,implies_true]
   refine trN_once HE hP.mix 24 1000 ?_
   simp only [go_sem,nw,B,Option.some.injEq,false_implies,implies_true]
   refine goN_once HE hP.mix 24 ?_
   simp only [go_sem,nw,B,Option.some.injEq,false_implies,implies_true]
   refine goN_once HE hP.mix 24 ?_
   simp only [go_sem,nw,B,Option.some.injEq,false_implies,implies_true]
   refine goN_once HE hP.mix 24 ?_
   simp only [go_sem,nw,B,Option.some.injEq,false_implies,implies_true]
   refine goN_once HE hP.mix 24 ?_
   simp only [go_sem,nw,B,Option.some.injEq,false_implies,implies_true]
   exact fin_z
 | _::_::_::_::_::_::_,_,h5,_=>simp at h5
 | [_],h2,_,_=>simp at h2
 | [],h2,_,_=>simp at h2
noncomputable def spanS:List AV→Option (Prop × AV)
 | [x]=>(rawLV x).map fun l=>((2≤l.length∧l.length≤5)∧fVm 16384 l,.int .i64 (dm l:Nat))
 | _=>none
theorem spanS_eq (x):spanS [x]=(rawLV x).map fun l=>((2≤l.length∧l.length≤5)∧fVm 16384 l,.int .i64 (dm l:Nat)):=rfl
theorem spanS_ok (hP:PrgOk P) (args p r) (he:spanS args=some (p,r)) (hp:p):CSpec P 24 args r:=by
 unfold spanS at he
 split at he
 · simp only [Option.map_eq_some_iff,Prod.mk.injEq] at he
   obtain ⟨l,h1,rfl,rfl⟩:=he
   rw [rawLV_inv h1]
   exact span_spec hP l hp.1.1 hp.1.2 hp.2
 · simp at he
attribute [go_sem] spanS_eq
noncomputable def Kt0:Nat→List AV→Option (Prop × AV):=addS Zt4 24 spanS
theorem Kt0_all (hP:PrgOk P) (T) (hT:TyOk P T):EnvOk P ⟨T,Kt0⟩:=((Zt4_all hP T hT).add (spanS_ok hP))
theorem Kt0_at (f a):Kt0 f a=(addS Zt4 24 spanS) f a:=rfl
attribute [go_sem] Kt0_at
noncomputable def Kt1:Nat→List AV→Option (Prop × AV):=Kt0
theorem Kt1_all (hP:PrgOk P) (T) (hT:TyOk P T):EnvOk P ⟨T,Kt1⟩:=(Kt0_all hP T hT)
attribute [go_sem] Kt1
theorem ks {x:Rat} {n:Nat} (h:fl x≤n) (hn:n≤FB):fl x≤FB∧wl x.num≤68719476736:=⟨Nat.le_trans h hn,Nat.le_trans (fl_num h) (Nat.le_trans hn (by decide))⟩
noncomputable def oQ (a b c d:V3):Rat:=qdt (vsbq b a) (vcq (vsbq c a) (vsbq d a))
theorem oQ_D2 (a b c d:V3):oQ a b c d=D2 a b c d:=by unfold oQ D2 vdet; rw [qdt_vdt,vcq_vcr,vsbq_vsb,vsbq_vsb,vsbq_vsb]
theorem pOri_spec (hP:PrgOk P) (a:V3) (b:V3) (c:V3) (d:V3) (hpre:fV a 16384∧fV b 16384∧fV c 16384∧fV d 16384):CSpec P 5 [(.agg [.opq (.frac (a.1)),.pad,.pad,.pad,.pad,.opq (.frac (a.2.1)),.pad,.pad,.pad,.pad,.opq (.frac (a.2.2)),.pad,.pad,.pad,.pad]),(.agg [.opq (.frac (b.1)),.pad,.pad,.pad,.pad,.opq (.frac (b.2.1)),.pad,.pad,.pad,.pad,.opq (.frac (b.2.2)),.pad,.pad,.pad,.pad]),(.agg [.opq (.frac (c.1)),.pad,.pad,.pad,.pad,.opq (.frac (c.2.1)),.pad,.pad,.pad,.pad,.opq (.frac (c.2.2)),.pad,.pad,.pad,.pad]),(.agg [.opq (.frac (d.1)),.pad,.pad,.pad,.pad,.opq (.frac (d.2.1)),.pad,.pad,.pad,.pad,.opq (.frac (d.2.2)),.pad,.pad,.pad,.pad])] (.int .i64 (cmpQ (D2 a b c d) 0)):=by
 have HE:=Kt1_all hP TF hP.tF
 obtain ⟨ha,hb,hc,hd⟩:=hpre
 obtain ⟨u,hu⟩:∃ zz,vsbq b a=zz:=⟨_,rfl⟩
 have fu:=vsbq_fV hb ha
 rw [hu] at fu
 obtain ⟨v,hv⟩:∃ zz,vsbq c a=zz:=⟨_,rfl⟩
 have fv:=vsbq_fV hc ha
 rw [hv] at fv
 obtain ⟨w,hw⟩:∃ zz,vsbq d a=zz:=⟨_,rfl⟩
 have fw:=vsbq_fV hd ha
 rw [hw] at fw
 obtain ⟨t,ht⟩:∃ zz,qdt u (vcq v w)=zz:=⟨_,rfl⟩
 have ft:=qdt_fl fu (vcq_fV fv fw)
 rw [ht] at ft
 have kt:qdt (u.1,u.2.1,u.2.2) (vcq (v.1,v.2.1,v.2.2) (w.1,w.2.1,w.2.2))=t:=ht
 have ho:D2 a b c d=t:=by rw [← oQ_D2]; unfold oQ; rw [hu,hv,hw,ht]
 have B:=(⟨bf ha (by decide),bf hb (by decide),bf hc (by decide),bf hd (by decide),bw fu (by decide),bw fv (by decide),bw fw (by decide),ks ft (by decide)⟩:_∧_∧_∧_∧_∧_∧_∧_)
 rw [ho]
 refine CSpec_go (E:=⟨TF,Kt1⟩) (fn5 hP) HE hP.mix ?_
 simp only [go_sem,B,vsbq_c hu,vsbq_c hv,vsbq_c hw,kt]
 exact fin_z
noncomputable def pOriS:List AV→Option (Prop × AV)
 | [x0,x1,x2,x3]=>(rawV x0).bind fun a=>(rawV x1).bind fun b=>(rawV x2).bind fun c=>(rawV x3).bind fun d=>some ((fV a 16384∧fV b 16384∧fV c 16384∧fV d 16384),.int .i64 (cmpQ (D2 a b c d) 0))
 | _=>none
theorem pOriS_eq (x0 x1 x2 x3):pOriS [x0,x1,x2,x3]=(rawV x0).bind fun a=>(rawV x1).bind fun b=>(rawV x2).bind fun c=>(rawV x3).bind fun d=>some ((fV a 16384∧fV b 16384∧fV c 16384∧fV d 16384),.int .i64 (cmpQ (D2 a b c d) 0)):=rfl
theorem pOriS_ok (hP:PrgOk P) (args p r) (he:pOriS args=some (p,r)) (hp:p):CSpec P 5 args r:=by
 unfold pOriS at he
 split at he
 · simp only [Option.bind_eq_some_iff,Option.some.injEq,Prod.mk.injEq] at he
   obtain ⟨a,hha,b,hhb,c,hhc,d,hhd,rfl,rfl⟩:=he
   rw [rawV_inv hha,rawV_inv hhb,rawV_inv hhc,rawV_inv hhd]
   exact pOri_spec hP a b c d hp
 · simp at he
attribute [go_sem] pOriS_eq
theorem pCol_spec (hP:PrgOk P) (a:V3) (b:V3) (c:V3) (hpre:fV a 16384∧fV b 16384∧fV c 16384):CSpec P 10 [(.agg [.opq (.frac (a.1)),.pad,.pad,.pad,.pad,.opq (.frac (a.2.1)),.pad,.pad,.pad,.pad,.opq (.frac (a.2.2)),.pad,.pad,.pad,.pad]),(.agg [.opq (.frac (b.1)),.pad,.pad,.pad,.pad,.opq (.frac (b.2.1)),.pad,.pad,.pad,.pad,.opq (.frac (b.2.2)),.pad,.pad,.pad,.pad]),(.agg [.opq (.frac (c.1)),.pad,.pad,.pad,.pad,.opq (.frac (c.2.1)),.pad,.pad,.pad,.pad,.opq (.frac (c.2.2)),.pad,.pad,.pad,.pad])] (.bool (decide (((dm [a,b,c]:Nat):Int)<2))):=by
 have HE:=Kt1_all hP TF hP.tF
 obtain ⟨ha,hb,hc⟩:=hpre
 have B:=(⟨ha,hb,hc⟩:_∧_∧_)
 unfold fV at B
 refine CSpec_go (E:=⟨TF,Kt1⟩) (fn10 hP) HE hP.mix ?_
 simp only [go_sem,B]
 exact fin_z
noncomputable def pColS:List AV→Option (Prop × AV)
 | [x0,x1,x2]=>(rawV x0).bind fun a=>(rawV x1).bind fun b=>(rawV x2).bind fun c=>some ((fV a 16384∧fV b 16384∧fV c 16384),.bool (decide (((dm [a,b,c]:Nat):Int)<2)))
 | _=>none
theorem pColS_eq (x0 x1 x2):pColS [x0,x1,x2]=(rawV x0).bind fun a=>(rawV x1).bind fun b=>(rawV x2).bind fun c=>some ((fV a 16384∧fV b 16384∧fV c 16384),.bool (decide (((dm [a,b,c]:Nat):Int)<2))):=rfl
theorem pColS_ok (hP:PrgOk P) (args p r) (he:pColS args=some (p,r)) (hp:p):CSpec P 10 args r:=by
 unfold pColS at he
 split at he
 · simp only [Option.bind_eq_some_iff,Option.some.injEq,Prod.mk.injEq] at he
   obtain ⟨a,hha,b,hhb,c,hhc,rfl,rfl⟩:=he
   rw [rawV_inv hha,rawV_inv hhb,rawV_inv hhc]
   exact pCol_spec hP a b c hp
 · simp at he
attribute [go_sem] pColS_eq
noncomputable def Kt2:Nat→List AV→Option (Prop × AV):=addS (addS Kt1 5 pOriS) 10 pColS
theorem Kt2_all (hP:PrgOk P) (T) (hT:TyOk P T):EnvOk P ⟨T,Kt2⟩:=(((Kt1_all hP T hT).add (pOriS_ok hP)).add (pColS_ok hP))
theorem Kt2_at (f a):Kt2 f a=(addS (addS Kt1 5 pOriS) 10 pColS) f a:=rfl
attribute [go_sem] Kt2_at
theorem pCop_spec (hP:PrgOk P) (a:V3) (b:V3) (c:V3) (d:V3) (hpre:fV a 16384∧fV b 16384∧fV c 16384∧fV d 16384):CSpec P 11 [(.agg [.opq (.frac (a.1)),.pad,.pad,.pad,.pad,.opq (.frac (a.2.1)),.pad,.pad,.pad,.pad,.opq (.frac (a.2.2)),.pad,.pad,.pad,.pad]),(.agg [.opq (.frac (b.1)),.pad,.pad,.pad,.pad,.opq (.frac (b.2.1)),.pad,.pad,.pad,.pad,.opq (.frac (b.2.2)),.pad,.pad,.pad,.pad]),(.agg [.opq (.frac (c.1)),.pad,.pad,.pad,.pad,.opq (.frac (c.2.1)),.pad,.pad,.pad,.pad,.opq (.frac (c.2.2)),.pad,.pad,.pad,.pad]),(.agg [.opq (.frac (d.1)),.pad,.pad,.pad,.pad,.opq (.frac (d.2.1)),.pad,.pad,.pad,.pad,.opq (.frac (d.2.2)),.pad,.pad,.pad,.pad])] (.bool (cmpQ (D2 a b c d) 0 == 0)):=by
 have HE:=Kt2_all hP TF hP.tF
 have B:=hpre
 unfold fV at B
 have e:D2 (a.1,a.2.1,a.2.2) (b.1,b.2.1,b.2.2) (c.1,c.2.1,c.2.2) (d.1,d.2.1,d.2.2)=D2 a b c d:=rfl
 refine CSpec_go (E:=⟨TF,Kt2⟩) (fn11 hP) HE hP.mix ?_
 simp only [go_sem,B,e]
 exact fin_z
noncomputable def pCopS:List AV→Option (Prop × AV)
 | [x0,x1,x2,x3]=>(rawV x0).bind fun a=>(rawV x1).bind fun b=>(rawV x2).bind fun c=>(rawV x3).bind fun d=>some ((fV a 16384∧fV b 16384∧fV c 16384∧fV d 16384),.bool (cmpQ (D2 a b c d) 0 == 0))
 | _=>none
theorem pCopS_eq (x0 x1 x2 x3):pCopS [x0,x1,x2,x3]=(rawV x0).bind fun a=>(rawV x1).bind fun b=>(rawV x2).bind fun c=>(rawV x3).bind fun d=>some ((fV a 16384∧fV b 16384∧fV c 16384∧fV d 16384),.bool (cmpQ (D2 a b c d) 0 == 0)):=rfl
theorem pCopS_ok (hP:PrgOk P) (args p r) (he:pCopS args=some (p,r)) (hp:p):CSpec P 11 args r:=by
 unfold pCopS at he
 split at he
 · simp only [Option.bind_eq_some_iff,Option.some.injEq,Prod.mk.injEq] at he
   obtain ⟨a,hha,b,hhb,c,hhc,d,hhd,rfl,rfl⟩:=he
   rw [rawV_inv hha,rawV_inv hhb,rawV_inv hhc,rawV_inv hhd]
   exact pCop_spec hP a b c d hp
 · simp at he
attribute [go_sem] pCopS_eq
noncomputable def flQ (n a:V3):V3:=vsbq (vscq (qdt n n) a) (vscq (qdt n a) n)
theorem flQ_E (n a:V3):flQ n a=flE n a:=by unfold flQ flE; rw [vsbq_vsb,vscq_vsc,vscq_vsc,qdt_vdt,qdt_vdt]
theorem flE_fV {n a:V3} (hn:fV n 4096) (ha:fV a 4096):fV (flE n a) 65536:=by
 rw [← flQ_E]
 exact fV_mono (vsbq_fV (vscq_fV (qdt_fl hn hn) ha) (vscq_fV (qdt_fl hn ha) hn)) (by decide)
theorem pFlt_spec (hP:PrgOk P) (n a:V3) (hpre:fV n 4096∧fV a 4096):CSpec P 30 [(.agg [.opq (.frac (a.1)),.pad,.pad,.pad,.pad,.opq (.frac (a.2.1)),.pad,.pad,.pad,.pad,.opq (.frac (a.2.2)),.pad,.pad,.pad,.pad]),.fref [.opq (.frac (n.1)),.pad,.pad,.pad,.pad,.opq (.frac (n.2.1)),.pad,.pad,.pad,.pad,.opq (.frac (n.2.2)),.pad,.pad,.pad,.pad]] (.agg [.opq (.frac ((flE n a).1)),.pad,.pad,.pad,.pad,.opq (.frac ((flE n a).2.1)),.pad,.pad,.pad,.pad,.opq (.frac ((flE n a).2.2)),.pad,.pad,.pad,.pad]):=by
 have HE:=Kt2_all hP TF hP.tF
 obtain ⟨hn,ha⟩:=hpre
 obtain ⟨t,ht⟩:∃ zz,qdt n n=zz:=⟨_,rfl⟩
 have ft:=qdt_fl hn hn
 rw [ht] at ft
 obtain ⟨s,hs⟩:∃ zz,qdt n a=zz:=⟨_,rfl⟩
 have fs:=qdt_fl hn ha
 rw [hs] at fs
 obtain ⟨u,hu⟩:∃ zz,vscq t a=zz:=⟨_,rfl⟩
 have fu:=vscq_fV ft ha
 rw [hu] at fu
 obtain ⟨v,hv⟩:∃ zz,vscq s n=zz:=⟨_,rfl⟩
 have fv:=vscq_fV fs hn
 rw [hv] at fv
 have kF:flE n a=vsbq u v:=by rw [← flQ_E]; unfold flQ; rw [ht,hs,hu,hv]
 have kt:qdt (n.1,n.2.1,n.2.2) (n.1,n.2.1,n.2.2)=t:=ht
 have kk:qdt (n.1,n.2.1,n.2.2) (a.1,a.2.1,a.2.2)=s:=hs
 have B:=(⟨bt hn (by decide),bt ha (by decide),bf fu (by decide),bf fv (by decide),ks ft (by decide),ks fs (by decide)⟩:_∧_∧_∧_∧_∧_)
 rw [kF]
 unfold vsbq
 refine CSpec_go (E:=⟨TF,Kt2⟩) (fn30 hP) HE hP.mix ?_
 simp only [go_sem,B,kt,kk,vscq_c hu,vscq_c hv]
 exact fin_z
noncomputable def pFltS:List AV→Option (Prop × AV)
 | [x,.fref y]=>(rawV x).bind fun a=>(cells3 y).bind fun n=>some (fV n 4096∧fV a 4096,(.agg [.opq (.frac ((flE n a).1)),.pad,.pad,.pad,.pad,.opq (.frac ((flE n a).2.1)),.pad,.pad,.pad,.pad,.opq (.frac ((flE n a).2.2)),.pad,.pad,.pad,.pad]))
 | _=>none
theorem pFltS_eq (x y):pFltS [x,.fref y]=(rawV x).bind fun a=>(cells3 y).bind fun n=>some (fV n 4096∧fV a 4096,(.agg [.opq (.frac ((flE n a).1)),.pad,.pad,.pad,.pad,.opq (.frac ((flE n a).2.1)),.pad,.pad,.pad,.pad,.opq (.frac ((flE n a).2.2)),.pad,.pad,.pad,.pad])):=rfl
theorem pFltS_ok (hP:PrgOk P) (args p r) (he:pFltS args=some (p,r)) (hp:p):CSpec P 30 args r:=by
 unfold pFltS at he
 split at he
 · simp only [Option.bind_eq_some_iff,Option.some.injEq,Prod.mk.injEq] at he
   obtain ⟨a,h1,n,h2,rfl,rfl⟩:=he
   rw [rawV_inv h1,cells3_inv h2]
   exact pFlt_spec hP n a hp
 · simp at he
theorem c3v (t:Rat):cmpQ t 0 = -1∨cmpQ t 0=0∨cmpQ t 0=1:=cmpQ_3 t
theorem pHlf_spec (hP:PrgOk P) (n f a:V3) (hpre:fV n 4096∧fV f 65536∧fV a 65536):CSpec P 32 [(.agg [.opq (.frac (a.1)),.pad,.pad,.pad,.pad,.opq (.frac (a.2.1)),.pad,.pad,.pad,.pad,.opq (.frac (a.2.2)),.pad,.pad,.pad,.pad]),.fref [.opq (.frac (n.1)),.pad,.pad,.pad,.pad,.opq (.frac (n.2.1)),.pad,.pad,.pad,.pad,.opq (.frac (n.2.2)),.pad,.pad,.pad,.pad],.fref [.opq (.frac (f.1)),.pad,.pad,.pad,.pad,.opq (.frac (f.2.1)),.pad,.pad,.pad,.pad,.opq (.frac (f.2.2)),.pad,.pad,.pad,.pad]] (.int .i64 (hfE n f a)):=by
 have HE:=Kt2_all hP TF hP.tF
 obtain ⟨hn,hf,ha⟩:=hpre
 obtain ⟨t,ht⟩:∃ zz,qdt n (vcq f a)=zz:=⟨_,rfl⟩
 have ft:=qdt_fl hn (vcq_fV hf ha)
 rw [ht] at ft
 obtain ⟨s,hs⟩:∃ zz,qdt f a=zz:=⟨_,rfl⟩
 have fs:=qdt_fl hf ha
 rw [hs] at fs
 have kt:qdt (n.1,n.2.1,n.2.2) (vcq (f.1,f.2.1,f.2.2) (a.1,a.2.1,a.2.2))=t:=ht
 have kk:qdt (f.1,f.2.1,f.2.2) (a.1,a.2.1,a.2.2)=s:=hs
 have kd:vdet n f a=t:=by unfold vdet; rw [← ht,qdt_vdt,vcq_vcr]
 have ke:vdt f a=s:=by rw [← hs,qdt_vdt]
 have B:=(⟨bw hn (by decide),bw hf (by decide),bw ha (by decide),ks ft (by decide),ks fs (by decide)⟩:_∧_∧_∧_∧_)
 unfold hfE
 rw [kd,ke]
 simp only [← cmpQ_iff_pos,← cmpQ_iff_0]
 rcases c3v t with e1|e1|e1<;>rcases c3v s with e2|e2|e2<;>rw [e1,e2]
 all_goals
  refine CSpec_go (E:=⟨TF,Kt2⟩) (fn32 hP) HE hP.mix ?_
  simp only [go_sem,B,kt,kk,e1,e2]
  exact fin_z
noncomputable def pHlfS:List AV→Option (Prop × AV)
 | [x,.fref y,.fref z]=>(rawV x).bind fun a=>(cells3 y).bind fun n=>(cells3 z).bind fun f=>some (fV n 4096∧fV f 65536∧fV a 65536,.int .i64 (hfE n f a))
 | _=>none
theorem pHlfS_eq (x y z):pHlfS [x,.fref y,.fref z]=(rawV x).bind fun a=>(cells3 y).bind fun n=>(cells3 z).bind fun f=>some (fV n 4096∧fV f 65536∧fV a 65536,.int .i64 (hfE n f a)):=rfl
theorem pHlfS_ok (hP:PrgOk P) (args p r) (he:pHlfS args=some (p,r)) (hp:p):CSpec P 32 args r:=by
 unfold pHlfS at he
 split at he
 · simp only [Option.bind_eq_some_iff,Option.some.injEq,Prod.mk.injEq] at he
   obtain ⟨a,h1,n,h2,f,h3,rfl,rfl⟩:=he
   rw [rawV_inv h1,cells3_inv h2,cells3_inv h3]
   exact pHlf_spec hP n f a hp
 · simp at he
attribute [go_sem] pFltS_eq pHlfS_eq
noncomputable def Kt3:Nat→List AV→Option (Prop × AV):=addS (addS (addS Kt2 11 pCopS) 30 pFltS) 32 pHlfS
theorem Kt3_all (hP:PrgOk P) (T) (hT:TyOk P T):EnvOk P ⟨T,Kt3⟩:=((((Kt2_all hP T hT).add (pCopS_ok hP)).add (pFltS_ok hP)).add (pHlfS_ok hP))
theorem Kt3_at (f a):Kt3 f a=(addS (addS (addS Kt2 11 pCopS) 30 pFltS) 32 pHlfS) f a:=rfl
attribute [go_sem] Kt3_at
theorem hf01 (n f a:V3):hfE n f a=0∨hfE n f a=1:=by unfold hfE; split<;>simp
theorem pAng_spec (hP:PrgOk P) (n:V3) (f:V3) (u:V3) (v:V3) (hpre:fV n 4096∧fV f 4096∧fV u 4096∧fV v 4096):CSpec P 13 [(.agg [.opq (.frac (n.1)),.pad,.pad,.pad,.pad,.opq (.frac (n.2.1)),.pad,.pad,.pad,.pad,.opq (.frac (n.2.2)),.pad,.pad,.pad,.pad]),(.agg [.opq (.frac (f.1)),.pad,.pad,.pad,.pad,.opq (.frac (f.2.1)),.pad,.pad,.pad,.pad,.opq (.frac (f.2.2)),.pad,.pad,.pad,.pad]),(.agg [.opq (.frac (u.1)),.pad,.pad,.pad,.pad,.opq (.frac (u.2.1)),.pad,.pad,.pad,.pad,.opq (.frac (u.2.2)),.pad,.pad,.pad,.pad]),(.agg [.opq (.frac (v.1)),.pad,.pad,.pad,.pad,.opq (.frac (v.2.1)),.pad,.pad,.pad,.pad,.opq (.frac (v.2.2)),.pad,.pad,.pad,.pad])] (.int .i64 (anE n f u v)):=by
 have HE:=Kt3_all hP TF hP.tF
 obtain ⟨hn,hf,hu,hv⟩:=hpre
 obtain ⟨F,hF⟩:∃ zz,flE n f=zz:=⟨_,rfl⟩
 have fF:=flE_fV hn hf
 rw [hF] at fF
 obtain ⟨U,hU⟩:∃ zz,flE n u=zz:=⟨_,rfl⟩
 have fU:=flE_fV hn hu
 rw [hU] at fU
 obtain ⟨W,hW⟩:∃ zz,flE n v=zz:=⟨_,rfl⟩
 have fW:=flE_fV hn hv
 rw [hW] at fW
 have k1:flE (n.1,n.2.1,n.2.2) (f.1,f.2.1,f.2.2)=F:=hF
 have k2:flE (n.1,n.2.1,n.2.2) (u.1,u.2.1,u.2.2)=U:=hU
 have k3:flE (n.1,n.2.1,n.2.2) (v.1,v.2.1,v.2.2)=W:=hW
 unfold anE anF
 rw [hF,hU,hW]
 obtain ⟨t,ht⟩:∃ zz,qdt n (vcq U W)=zz:=⟨_,rfl⟩
 have ft:=qdt_fl hn (vcq_fV fU fW)
 rw [ht] at ft
 have kt:qdt (n.1,n.2.1,n.2.2) (vcq (U.1,U.2.1,U.2.2) (W.1,W.2.1,W.2.2))=t:=ht
 have kd:vdet n U W=t:=by unfold vdet; rw [← ht,qdt_vdt,vcq_vcr]
 rw [kd]
 have z1:decide (((n.1,n.2.1,n.2.2):V3)=v0)=decide (n=v0):=rfl
 have z2:decide (((F.1,F.2.1,F.2.2):V3)=v0)=decide (F=v0):=rfl
 have z3:decide (((U.1,U.2.1,U.2.2):V3)=v0)=decide (U=v0):=rfl
 have z4:decide (((W.1,W.2.1,W.2.2):V3)=v0)=decide (W=v0):=rfl
 obtain ⟨x,hx⟩:∃ x,hfE n F U=x:=⟨_,rfl⟩
 obtain ⟨y,hy⟩:∃ y,hfE n F W=y:=⟨_,rfl⟩
 have g1:hfE (n.1,n.2.1,n.2.2) (F.1,F.2.1,F.2.2) (U.1,U.2.1,U.2.2)=x:=hx
 have g2:hfE (n.1,n.2.1,n.2.2) (F.1,F.2.1,F.2.2) (W.1,W.2.1,W.2.2)=y:=hy
 have B:=(⟨bw hn (by decide),bw fF (by decide),bw fU (by decide),bw fW (by decide),b16 fF (by decide),b16 fU (by decide),b16 fW (by decide),ks ft (by decide),hn.1,hn.2.1,hn.2.2,hf.1,hf.2.1,hf.2.2,hu.1,hu.2.1,hu.2.2,hv.1,hv.2.1,hv.2.2⟩:_∧_∧_∧_∧_∧_∧_∧_∧_∧_∧_∧_∧_∧_∧_∧_∧_∧_∧_∧_)
 have w:IntKind.i64.wrap (0-1) = -1∧IntKind.i64.wrap (1-0)=1∧IntKind.i64.wrap (0 - -1)=1∧IntKind.i64.wrap (0-0)=0:=⟨rfl,rfl,rfl,rfl⟩
 rw [hx,hy]
 refine CSpec_go (E:=⟨TF,Kt3⟩) (fn13 hP) HE hP.mix ?_
 by_cases h1:n=v0
 · rw [if_pos (.inl h1)]
   simp only [go_sem,B,k1,k2,k3,z1,z2,z3,z4,decide_eq_true h1]
   exact fin_z
 by_cases h2:F=v0
 · rw [if_pos (.inr (.inl h2))]
   simp only [go_sem,B,k1,k2,k3,z1,z2,z3,z4,decide_eq_false h1,decide_eq_true h2]
   exact fin_z
 by_cases h3:U=v0
 · rw [if_pos (.inr (.inr (.inl h3)))]
   simp only [go_sem,B,k1,k2,k3,z1,z2,z3,z4,decide_eq_false h1,decide_eq_false h2,decide_eq_true h3]
   exact fin_z
 by_cases h4:W=v0
 · rw [if_pos (.inr (.inr (.inr h4)))]
   simp only [go_sem,B,k1,k2,k3,z1,z2,z3,z4,decide_eq_false h1,decide_eq_false h2,decide_eq_false h3,decide_eq_true h4]
   exact fin_z
 rw [if_neg (by rintro (h|h|h|h)<;>contradiction)]
 simp only [go_sem,B,k1,k2,k3,z1,z2,z3,z4,decide_eq_false h1,decide_eq_false h2,decide_eq_false h3,decide_eq_false h4,g1,g2,kt]
 have hx':=hx ▸ hf01 n F U
 have hy':=hy ▸ hf01 n F W
 clear hx hy g1 g2
 rcases hx' with rfl|rfl<;>rcases hy' with rfl|rfl
 · rcases c3v t with e1|e1|e1<;>rw [e1]<;>simp only [go_sem,B,w,kt,e1]<;>exact fin_z
 · simp only [go_sem,B,w]
   exact fin_z
 · simp only [go_sem,B,w]
   exact fin_z
 · rcases c3v t with e1|e1|e1<;>rw [e1]<;>simp only [go_sem,B,w,kt,e1]<;>exact fin_z
noncomputable def pAngS:List AV→Option (Prop × AV)
 | [x0,x1,x2,x3]=>(rawV x0).bind fun n=>(rawV x1).bind fun f=>(rawV x2).bind fun u=>(rawV x3).bind fun v=>some ((fV n 4096∧fV f 4096∧fV u 4096∧fV v 4096),.int .i64 (anE n f u v))
 | _=>none
theorem pAngS_eq (x0 x1 x2 x3):pAngS [x0,x1,x2,x3]=(rawV x0).bind fun n=>(rawV x1).bind fun f=>(rawV x2).bind fun u=>(rawV x3).bind fun v=>some ((fV n 4096∧fV f 4096∧fV u 4096∧fV v 4096),.int .i64 (anE n f u v)):=rfl
theorem pAngS_ok (hP:PrgOk P) (args p r) (he:pAngS args=some (p,r)) (hp:p):CSpec P 13 args r:=by
 unfold pAngS at he
 split at he
 · simp only [Option.bind_eq_some_iff,Option.some.injEq,Prod.mk.injEq] at he
   obtain ⟨n,hhn,f,hhf,u,hhu,v,hhv,rfl,rfl⟩:=he
   rw [rawV_inv hhn,rawV_inv hhf,rawV_inv hhu,rawV_inv hhv]
   exact pAng_spec hP n f u v hp
 · simp at he
attribute [go_sem] pAngS_eq
noncomputable def Kt4:Nat→List AV→Option (Prop × AV):=addS Kt3 13 pAngS
theorem Kt4_all (hP:PrgOk P) (T) (hT:TyOk P T):EnvOk P ⟨T,Kt4⟩:=((Kt3_all hP T hT).add (pAngS_ok hP))
theorem Kt4_at (f a):Kt4 f a=(addS Kt3 13 pAngS) f a:=rfl
attribute [go_sem] Kt4_at
end Go.Proofs.Ytapddfjimhohcaa.AM
/- Borders: plain facts for the walks. -/
namespace Go.Proofs.Ytapddfjimhohcaa.AM
set_option linter.all false
set_option autoImplicit true
set_option relaxedAutoImplicit true
open Go Go.Proofs
set_option maxRecDepth 100000
set_option maxHeartbeats 4000000
set_option linter.unusedSimpArgs false
theorem cmpQ_le {a b:Rat}:cmpQ a b≤0 ↔ a≤b:=by
 rcases cmpQ_cases a b with ⟨h,e⟩|⟨h,e⟩|⟨h,e⟩<;>rw [e]<;>constructor<;>intro h'<;>first|(exfalso; revert h'; decide)|decide|grind
theorem cmpQ_ge {a:Rat}:0≤cmpQ a 0 ↔ 0≤a:=by
 rcases cmpQ_cases a 0 with ⟨h,e⟩|⟨h,e⟩|⟨h,e⟩<;>rw [e]<;>constructor<;>intro h'<;>first|(exfalso; revert h'; decide)|decide|grind
theorem fVm_at {m:Nat} {l:List V3} (h:fVm m l) {i:Nat} (hi:i<l.length):fV (atL l i) m:=fVm_mem h _ (atL_in hi)
theorem atL_drop {l:List V3} {i:Nat} (h:i<l.length):l.drop i=atL l i::l.drop (i+1):=by
 rw [List.drop_eq_getElem_cons h]; unfold atL; rw [List.getD_eq_getElem?_getD,List.getElem?_eq_getElem h]; rfl
theorem atL_take {l:List V3} {i:Nat} (h:i<l.length):l.take (i+1)=l.take i++[atL l i]:=by
 rw [List.take_add_one,List.getElem?_eq_getElem h]; unfold atL; rw [List.getD_eq_getElem?_getD,List.getElem?_eq_getElem h]; rfl
theorem getV {l:List V3} {i:Nat} (h:i<l.length):(cl cV l).drop (i*15)=[.opq (.frac ((atL l i).1)),.pad,.pad,.pad,.pad,.opq (.frac ((atL l i).2.1)),.pad,.pad,.pad,.pad,.opq (.frac ((atL l i).2.2)),.pad,.pad,.pad,.pad]++cl cV (l.drop (i+1))∧(cl cV (l.drop (i+1))).length=(l.length-(i+1))*15∧AV.head (cl cV (l.drop (i+1)))=true∧i*15≤l.length*15∧i<l.length:=by
 refine ⟨?_,by rw [cl_len,List.length_drop],cl_head,by omega,h⟩
 rw [cl_drop,atL_drop h,cl_cons]; rfl
theorem fstN_or (l:List V3):fstN l=v0∨fstN l ∈ l:=by
 by_cases h:∃ n ∈ l,n ≠ v0
 · exact .inr (fstN_in h).1
 · left
   induction l with
   | nil=>rfl
   | cons a t ih =>
     unfold fstN
     have ha:a=v0:=Classical.byContradiction fun e=>h ⟨a,List.mem_cons_self,e⟩
     rw [if_pos ha]
     exact ih fun ⟨n,hn,e⟩=>h ⟨n,List.mem_cons_of_mem _ hn,e⟩
theorem fV_v0 (n:Nat):fV v0 (n+1):=⟨fl_zero _,fl_zero _,fl_zero _⟩
theorem vsb_fV {a b:V3} {n m:Nat} (ha:fV a n) (hb:fV b m):fV (vsb a b) (n+m+1):=by rw [← vsbq_vsb]; exact vsbq_fV ha hb
theorem vcr_fV {a b:V3} {n m:Nat} (ha:fV a n) (hb:fV b m):fV (vcr a b) (n+m+(n+m)+1):=by rw [← vcq_vcr]; exact vcq_fV ha hb
theorem headD_fV {l:List V3} (h:fVm 16384 l):fV (l.headD v0) 16384:=by
 cases l with
 | nil=>exact fV_v0 16383
 | cons a t=>exact h.1
theorem nmL_fV {l:List V3} (h:fVm 16384 l):fV (nmL l) 131077:=by
 unfold nmL
 rcases fstN_or (l.flatMap fun a=>l.map fun b=>vcr (vsb a (l.headD v0)) (vsb b (l.headD v0))) with e|e
 · rw [e]; exact fV_v0 131076
 · rw [List.mem_flatMap] at e
   obtain ⟨a,ha,e⟩:=e
   obtain ⟨b,hb,e⟩:=List.mem_map.1 e
   rw [← e]
   exact fV_mono (vcr_fV (vsb_fV (fVm_mem h a ha) (headD_fV h)) (vsb_fV (fVm_mem h b hb) (headD_fV h))) (by decide)
theorem crossN_fV {d:Nat} {l:List V3} {a b c:V3} (h:fVm 16384 l) (ha:fV a 16384) (hb:fV b 16384) (hc:fV c 16384):fV (crossN d l a b c) 1048576:=by
 unfold crossN
 split
 · exact fV_mono (vsb_fV hb ha) (by decide)
 · split
   · exact fV_mono (vcr_fV (nmL_fV h) (vsb_fV hb ha)) (by decide)
   · exact fV_mono (vcr_fV (vsb_fV hb ha) (vsb_fV hc ha)) (by decide)
theorem cN_fV {l:List V3} {i j k:Nat} (h:fVm 16384 l) (hi:i<l.length) (hj:j<l.length) (hk:k<l.length):fV (cN l i j k) 1048576:=crossN_fV h (fVm_at h hi) (fVm_at h hj) (fVm_at h hk)
def cx (l:List V3) (a b:V3):V3:=vcr (vsb a (l.headD v0)) (vsb b (l.headD v0))
def nmR (l:List V3) (i j:Nat):V3:=fstN ((l.drop j).map (cx l (atL l i))++(l.drop (i+1)).flatMap fun a=>l.map (cx l a))
def nmO (l:List V3) (i:Nat):V3:=fstN ((l.drop i).flatMap fun a=>l.map (cx l a))
theorem nmO_R {l:List V3} {i:Nat} (h:i<l.length):nmO l i=nmR l i 0:=by
 unfold nmO nmR; rw [atL_drop h,List.flatMap_cons]; rfl
theorem nmR_z {l:List V3} {i j:Nat} (hj:j<l.length) (h:cx l (atL l i) (atL l j)=v0):nmR l i j=nmR l i (j+1):=by
 unfold nmR; rw [atL_drop hj,List.map_cons,List.cons_append]
 conv=>lhs; unfold fstN
 rw [if_pos h]
theorem nmR_n {l:List V3} {i j:Nat} (hj:j<l.length) (h:cx l (atL l i) (atL l j) ≠ v0):nmR l i j=cx l (atL l i) (atL l j):=by
 unfold nmR; rw [atL_drop hj,List.map_cons,List.cons_append]
 conv=>lhs; unfold fstN
 rw [if_neg h]
theorem nmR_end (l:List V3) (i:Nat):nmR l i l.length=nmO l (i+1):=by
 unfold nmR nmO; rw [List.drop_of_length_le (Nat.le_refl _)]; rfl
theorem nmO_end (l:List V3):nmO l l.length=v0:=by unfold nmO; rw [List.drop_of_length_le (Nat.le_refl _)]; rfl
end Go.Proofs.Ytapddfjimhohcaa.AM
/- Borders: ways across,and what they hold. -/
namespace Go.Proofs.Ytapddfjimhohcaa.AM
set_option linter.all false
set_option autoImplicit true
set_option relaxedAutoImplicit true
open Go Go.Proofs
set_option maxRecDepth 100000
set_option maxHeartbeats 16000000
set_option linter.unusedSimpArgs false
variable {P:Program}
theorem get0V {l:List V3} (h:0<l.length):(cl cV l).take 15=[.opq (.frac ((l.headD v0).1)),.pad,.pad,.pad,.pad,.opq (.frac ((l.headD v0).2.1)),.pad,.pad,.pad,.pad,.opq (.frac ((l.headD v0).2.2)),.pad,.pad,.pad,.pad]∧AV.head (List.drop 15 (cl cV l))=true∧AV.head (cl cV l)=true∧(15≤l.length*15)=True∧(0<l.length)=True:=by
 cases l with
 | nil=>simp at h
 | cons a t=>exact ⟨rfl,by rw [cl_cons]; exact cl_head,cl_head,eq_true (by simp [List.length_cons]; omega),eq_true h⟩
theorem KT.y {L:List Nat} {t t':Nat→AV} (h:KT L t t':=by repeat (first|exact KT.nil|refine KT.upd rfl (by first|rfl|simp [AV.only,onlyL,cl_only]) ?_)):KT L t t':=h
theorem KM.y {L:List Nat} {m m':Nat→AObj} (h:KMp L L m m':=by repeat (first|exact KMp.nil|refine KMp.upd rfl (by first|rfl|simp [objOnly,AV.only,onlyL,cl_only]) ?_)):KM L m m':=h
theorem pNrm_spec (hP:PrgOk P) (l:List V3) (hpre:(1≤l.length∧l.length≤5)∧fVm 16384 l):CSpec P 39 [(.imm (l).length (cl cV (l)))] ((.agg [.opq (.frac ((nmL l).1)),.pad,.pad,.pad,.pad,.opq (.frac ((nmL l).2.1)),.pad,.pad,.pad,.pad,.opq (.frac ((nmL l).2.2)),.pad,.pad,.pad,.pad])):=by
 have HE:=Kt4_all hP TF hP.tF
 obtain ⟨⟨h1,h5⟩,hb⟩:=hpre
 have hgo:groundL [.imm l.length (cl cV l)]=true:=by simp only [groundL,onlyL,AV.only,cl_only,Bool.and_true]
 have hro:∀ f,(AV.imm l.length (cl cV l)).only f=true:=fun f=>by simp only [AV.only,cl_only]
 have g0:=get0V (l:=l) (by omega)
 refine CSpec_vc (E:=⟨TF,Kt4⟩) (fn39 hP) HE hP.mix rfl hgo rfl (Nat.le_of_ble_eq_true rfl) ?_
 simp only [go_sem,cl_len]
 refine trX_loopV HE hP.mix (fun _:Nat=>[0]) (fun i=>⟨upd (upd (upd (upd (upd (fun _=>.junk) 0 (.imm l.length (cl cV l))) 2 (.ref 0 0)) 8 (.imm l.length (cl cV l))) 9 (.int .i64 (l.length:Int))) 10 (.int .i64 (i:Int)),upd (fun _=>.unused) 0 (.live [.opq (.frac (0)),.pad,.pad,.pad,.pad,.opq (.frac (0)),.pad,.pad,.pad,.pad,.opq (.frac (0)),.pad,.pad,.pad,.pad]),38⟩) (fun i=>i≤l.length∧nmO l i=nmL l) (fun i=>l.length-i) 0 (fun _=>100) (fun _=>Has.z) (Kept.of rfl KT.y KM.y) ⟨Nat.zero_le _,rfl⟩ 38 (by kernel_rfl) ?_
 rintro i ⟨hi,hs⟩
 by_cases h:i<l.length
 · have g:=getV h
   have wi:=wi_add1 i (by omega)
   rw [nmO_R h] at hs
   simp only [go_sem,g,cl_len]
   refine trX_loopV HE hP.mix (fun _:Nat=>[103,0]) (fun j=>⟨upd (upd (upd (upd (upd (upd (upd (upd (upd (fun _=>.junk) 0 (.imm l.length (cl cV l))) 2 (.ref 0 0)) 4 (.ref 103 0)) 8 (.imm l.length (cl cV l))) 9 (.int .i64 (l.length:Int))) 10 (.int .i64 (i:Int))) 14 (.imm l.length (cl cV l))) 15 (.int .i64 (l.length:Int))) 16 (.int .i64 (j:Int)),upd (upd (fun _=>.unused) 0 (.live [.opq (.frac (0)),.pad,.pad,.pad,.pad,.opq (.frac (0)),.pad,.pad,.pad,.pad,.opq (.frac (0)),.pad,.pad,.pad,.pad])) 103 (.live [.opq (.frac ((atL l i).1)),.pad,.pad,.pad,.pad,.opq (.frac ((atL l i).2.1)),.pad,.pad,.pad,.pad,.opq (.frac ((atL l i).2.2)),.pad,.pad,.pad,.pad]),38⟩) (fun j=>j≤l.length∧nmR l i j=nmL l) (fun j=>l.length-j) 0 (fun _=>200) (fun _=>Has.z) (Kept.of rfl KT.y KM.y) ⟨Nat.zero_le _,hs⟩ 38 (by kernel_rfl) ?_
   rintro j ⟨hj,hr⟩
   by_cases h':j<l.length
   · have g':=getV h'
     have wj:=wi_add1 j (by omega)
     have fh:=headD_fV hb
     have fa:=fVm_at hb h
     have fb:=fVm_at hb h'
     obtain ⟨u,hu⟩:∃ zz,vsbq (atL l i) (l.headD v0)=zz:=⟨_,rfl⟩
     have fu:=vsbq_fV fa fh
     rw [hu] at fu
     obtain ⟨w,hw⟩:∃ zz,vsbq (atL l j) (l.headD v0)=zz:=⟨_,rfl⟩
     have fw:=vsbq_fV fb fh
     rw [hw] at fw
     obtain ⟨x,hx⟩:∃ zz,vcq u w=zz:=⟨_,rfl⟩
     have fx:=vcq_fV fu fw
     rw [hx] at fx
     have hc:cx l (atL l i) (atL l j)=x:=by unfold cx; rw [← hx,← hu,← hw,vcq_vcr,vsbq_vsb,vsbq_vsb]
     have B:=(⟨bf fh (by decide),bf fa (by decide),bf fb (by decide),bx fu (by decide),bx fw (by decide),bf fx (by decide),vsbq_c hu,vsbq_c hw,vcq_c hx⟩:_∧_∧_∧_∧_∧_∧_∧_∧_)
     have kz:decide (((x.1,x.2.1,x.2.2):V3)=v0)=decide (x=v0):=rfl
     by_cases z:x=v0
     · simp only [go_sem,g',g0,cl_len,B,kz,decide_eq_true z,wj]
       refine ⟨j+1,Kept.of rfl KT.y KM.y,⟨h',by rw [← nmR_z h' (hc.trans z)]; exact hr⟩,by show l.length-(j+1)<l.length-j; omega⟩
     · rw [← hr,nmR_n h' (by rw [hc]; exact z),hc]
       simp only [go_sem,g',g0,cl_len,B,kz,decide_eq_false z]
       exact fin_z
   · have e:j=l.length:=by omega
     subst e
     rw [nmR_end] at hr
     simp only [go_sem,cl_len,wi,Nat.lt_irrefl]
     refine ⟨i+1,Kept.of rfl KT.y KM.y,⟨h,hr⟩,by show l.length-(i+1)<l.length-i; omega⟩
 · have e:i=l.length:=by omega
   subst e
   rw [nmO_end] at hs
   rw [← hs]
   simp only [go_sem,cl_len,Nat.lt_irrefl]
   exact fin_z
noncomputable def pNrmS:List AV→Option (Prop × AV)
 | [x0]=>(rawLV x0).bind fun l=>some (((1≤l.length∧l.length≤5)∧fVm 16384 l),(.agg [.opq (.frac ((nmL l).1)),.pad,.pad,.pad,.pad,.opq (.frac ((nmL l).2.1)),.pad,.pad,.pad,.pad,.opq (.frac ((nmL l).2.2)),.pad,.pad,.pad,.pad]))
 | _=>none
theorem pNrmS_eq (x0):pNrmS [x0]=(rawLV x0).bind fun l=>some (((1≤l.length∧l.length≤5)∧fVm 16384 l),(.agg [.opq (.frac ((nmL l).1)),.pad,.pad,.pad,.pad,.opq (.frac ((nmL l).2.1)),.pad,.pad,.pad,.pad,.opq (.frac ((nmL l).2.2)),.pad,.pad,.pad,.pad])):=rfl
theorem pNrmS_ok (hP:PrgOk P) (args p r) (he:pNrmS args=some (p,r)) (hp:p):CSpec P 39 args r:=by
 unfold pNrmS at he
 split at he
 · simp only [Option.bind_eq_some_iff,Option.some.injEq,Prod.mk.injEq] at he
   obtain ⟨l,hhl,rfl,rfl⟩:=he
   rw [rawLV_inv hhl]
   exact pNrm_spec hP l hp
 · simp at he
attribute [go_sem] pNrmS_eq
noncomputable def Kt5:Nat→List AV→Option (Prop × AV):=addS Kt4 39 pNrmS
theorem Kt5_all (hP:PrgOk P) (T) (hT:TyOk P T):EnvOk P ⟨T,Kt5⟩:=((Kt4_all hP T hT).add (pNrmS_ok hP))
theorem Kt5_at (f a):Kt5 f a=(addS Kt4 39 pNrmS) f a:=rfl
attribute [go_sem] Kt5_at
def rawNn:AV→Option Nat
 | .int .i64 (.ofNat n)=>some n
 | _=>none
theorem rawNn_eq (n:Nat):rawNn (.int .i64 (n:Int))=some n:=rfl
theorem rawNn_inv {x:AV} {n:Nat} (h:rawNn x=some n):x = .int .i64 (n:Int):=by
 unfold rawNn at h
 split at h
 · obtain rfl:=Option.some.inj h; rfl
 · simp at h
attribute [go_sem] rawNn_eq
theorem eqN (a b:Nat):((a:Int) == (b:Int))=decide (a=b):=by
 rw [Bool.eq_iff_iff]; simp only [beq_iff_eq,decide_eq_true_eq]; omega
noncomputable def cnQ (d:Nat) (l:List V3) (a b c:V3):V3:=if d=1 then vsbq b a else if d=2 then vcq (nmL l) (vsbq b a) else vcq (vsbq b a) (vsbq c a)
theorem cnQ_N (d:Nat) (l:List V3) (a b c:V3):cnQ d l a b c=crossN d l a b c:=by unfold cnQ crossN; simp only [vsbq_vsb,vcq_vcr]
theorem acr_spec (hP:PrgOk P) (l:List V3) (a b c:V3) (h1:1≤l.length) (h5:l.length≤5) (hb:fVm 16384 l) (fa:fV a 16384) (fb:fV b 16384) (fc:fV c 16384) :
 CSpec P 38 [(.agg [.opq (.frac ((a).1)),.pad,.pad,.pad,.pad,.opq (.frac ((a).2.1)),.pad,.pad,.pad,.pad,.opq (.frac ((a).2.2)),.pad,.pad,.pad,.pad]),(.agg [.opq (.frac ((b).1)),.pad,.pad,.pad,.pad,.opq (.frac ((b).2.1)),.pad,.pad,.pad,.pad,.opq (.frac ((b).2.2)),.pad,.pad,.pad,.pad]),(.agg [.opq (.frac ((c).1)),.pad,.pad,.pad,.pad,.opq (.frac ((c).2.1)),.pad,.pad,.pad,.pad,.opq (.frac ((c).2.2)),.pad,.pad,.pad,.pad]),.fref [.int .i64 ((dm l:Nat):Int)],.fref [.imm l.length (cl cV l)]] (.agg [.opq (.frac ((crossN (dm l) l a b c).1)),.pad,.pad,.pad,.pad,.opq (.frac ((crossN (dm l) l a b c).2.1)),.pad,.pad,.pad,.pad,.opq (.frac ((crossN (dm l) l a b c).2.2)),.pad,.pad,.pad,.pad]):=by
 have HE:=Kt5_all hP TF hP.tF
 have hgo:groundL [(.agg [.opq (.frac ((a).1)),.pad,.pad,.pad,.pad,.opq (.frac ((a).2.1)),.pad,.pad,.pad,.pad,.opq (.frac ((a).2.2)),.pad,.pad,.pad,.pad]),(.agg [.opq (.frac ((b).1)),.pad,.pad,.pad,.pad,.opq (.frac ((b).2.1)),.pad,.pad,.pad,.pad,.opq (.frac ((b).2.2)),.pad,.pad,.pad,.pad]),(.agg [.opq (.frac ((c).1)),.pad,.pad,.pad,.pad,.opq (.frac ((c).2.1)),.pad,.pad,.pad,.pad,.opq (.frac ((c).2.2)),.pad,.pad,.pad,.pad]),.fref [.int .i64 ((dm l:Nat):Int)],.fref [.imm l.length (cl cV l)]]=true:=by simp only [groundL,onlyL,AV.only,cl_only,Bool.and_true]
 obtain ⟨d,hd⟩:∃ d,dm l=d:=⟨_,rfl⟩
 have fn:=nmL_fV hb
 obtain ⟨u,hu⟩:∃ zz,vsbq b a=zz:=⟨_,rfl⟩
 have fu:=vsbq_fV fb fa
 rw [hu] at fu
 obtain ⟨w,hw⟩:∃ zz,vsbq c a=zz:=⟨_,rfl⟩
 have fw:=vsbq_fV fc fa
 rw [hw] at fw
 obtain ⟨N,hN⟩:∃ n,nmL l=n:=⟨_,rfl⟩
 rw [hN] at fn
 have B:=(⟨bf fa (by decide),bf fb (by decide),bf fc (by decide),bx fu (by decide),bx fw (by decide),bx fn (by decide),vsbq_c hu,vsbq_c hw,hN⟩:_∧_∧_∧_∧_∧_∧_∧_∧_)
 rw [← cnQ_N,hd]
 unfold cnQ
 rw [hu,hw,hN]
 refine CSpec_vc (E:=⟨TF,Kt5⟩) (fn38 hP) HE hP.mix rfl hgo rfl (Nat.le_of_ble_eq_true rfl) ?_
 by_cases d1:d=1
 · subst d1
   rw [if_pos rfl]
   simp only [go_sem,hd,B,h1,h5,hb]
   exact fin_z
 have e1:((d:Int) == 1)=false:=(eqN d 1).trans (decide_eq_false d1)
 by_cases d2:d=2
 · subst d2
   rw [if_neg (by decide),if_pos rfl]
   simp only [go_sem,hd,B,h1,h5,hb]
   exact fin_z
 have e2:((d:Int) == 2)=false:=(eqN d 2).trans (decide_eq_false d2)
 rw [if_neg d1,if_neg d2]
 simp only [go_sem,hd,B,h1,h5,hb,e1,e2]
 exact fin_z
noncomputable def acrS:List AV→Option (Prop × AV)
 | [x,y,z,.fref [w],.fref [v]]=>(rawV x).bind fun a=>(rawV y).bind fun b=>(rawV z).bind fun c=>(rawNn w).bind fun d=>(rawLV v).bind fun l=>some (d=dm l∧(1≤l.length∧l.length≤5)∧fVm 16384 l∧fV a 16384∧fV b 16384∧fV c 16384,(.agg [.opq (.frac ((crossN (dm l) l a b c).1)),.pad,.pad,.pad,.pad,.opq (.frac ((crossN (dm l) l a b c).2.1)),.pad,.pad,.pad,.pad,.opq (.frac ((crossN (dm l) l a b c).2.2)),.pad,.pad,.pad,.pad]))
 | _=>none
theorem acrS_eq (x y z w v):acrS [x,y,z,.fref [w],.fref [v]]=(rawV x).bind fun a=>(rawV y).bind fun b=>(rawV z).bind fun c=>(rawNn w).bind fun d=>(rawLV v).bind fun l=>some (d=dm l∧(1≤l.length∧l.length≤5)∧fVm 16384 l∧fV a 16384∧fV b 16384∧fV c 16384,(.agg [.opq (.frac ((crossN (dm l) l a b c).1)),.pad,.pad,.pad,.pad,.opq (.frac ((crossN (dm l) l a b c).2.1)),.pad,.pad,.pad,.pad,.opq (.frac ((crossN (dm l) l a b c).2.2)),.pad,.pad,.pad,.pad])):=rfl
theorem acrS_ok (hP:PrgOk P) (args p r) (he:acrS args=some (p,r)) (hp:p):CSpec P 38 args r:=by
 unfold acrS at he
 split at he
 · simp only [Option.bind_eq_some_iff,Option.some.injEq,Prod.mk.injEq] at he
   obtain ⟨a,h1,b,h2,c,h3,d,h4,l,h5,rfl,rfl⟩:=he
   rw [rawV_inv h1,rawV_inv h2,rawV_inv h3,rawNn_inv h4,rawLV_inv h5,hp.1]
   exact acr_spec hP l a b c hp.2.1.1 hp.2.1.2 hp.2.2.1 hp.2.2.2.1 hp.2.2.2.2.1 hp.2.2.2.2.2
 · simp at he
attribute [go_sem] acrS_eq
noncomputable def Kt6:Nat→List AV→Option (Prop × AV):=addS Kt5 38 acrS
theorem Kt6_all (hP:PrgOk P) (T) (hT:TyOk P T):EnvOk P ⟨T,Kt6⟩:=((Kt5_all hP T hT).add (acrS_ok hP))
theorem Kt6_at (f a):Kt6 f a=(addS Kt5 38 acrS) f a:=rfl
attribute [go_sem] Kt6_at
theorem i16 {x:V3} {n:Nat} (h:fV x n) (hn:n≤16384):fl x.1≤16384∧fl x.2.1≤16384∧fl x.2.2≤16384:=fV_mono h hn
theorem i52 {x:V3} {n:Nat} (h:fV x n) (hn:n≤524288):fl x.1≤524288∧fl x.2.1≤524288∧fl x.2.2≤524288:=fV_mono h hn
theorem i3w (t:Rat):(cmpQ t 0 = -1∧t<0)∨(cmpQ t 0=0∧t=0)∨(cmpQ t 0=1∧0<t):=by
 rcases cmpQ_cases t 0 with ⟨h,e⟩|⟨h,e⟩|⟨h,e⟩
 · exact .inl ⟨e,h⟩
 · exact .inr (.inl ⟨by rw [h]; exact cmpQ_self 0,h⟩)
 · exact .inr (.inr ⟨e,h⟩)
noncomputable def Kt6b:Nat→List AV→Option (Prop × AV):=Kt6
theorem Kt6b_all (hP:PrgOk P) (T) (hT:TyOk P T):EnvOk P ⟨T,Kt6b⟩:=(Kt6_all hP T hT)
attribute [go_sem] Kt6b
theorem pWit_spec (hP:PrgOk P) (p:V3) (l:List V3) (hpre:(2≤l.length∧l.length≤4)∧fVm 16384 l∧fV p 16384):CSpec P 23 [(.agg [.opq (.frac (p.1)),.pad,.pad,.pad,.pad,.opq (.frac (p.2.1)),.pad,.pad,.pad,.pad,.opq (.frac (p.2.2)),.pad,.pad,.pad,.pad]),(.imm (l).length (cl cV (l)))] (.int .i64 (wIn p l)):=by
 have HE:=Kt6b_all hP TF hP.tF
 obtain ⟨⟨h2,h4⟩,hb,fp⟩:=hpre
 have hgo:groundL [(.agg [.opq (.frac ((p).1)),.pad,.pad,.pad,.pad,.opq (.frac ((p).2.1)),.pad,.pad,.pad,.pad,.opq (.frac ((p).2.2)),.pad,.pad,.pad,.pad]),.imm l.length (cl cV l)]=true:=by simp only [groundL,onlyL,AV.only,cl_only,Bool.and_true]
 have h5:l.length≤5:=by omega
 have kp:(AV.opq (.frac p.1) :: .pad :: .pad :: .pad :: .pad :: .opq (.frac p.2.1) :: .pad :: .pad :: .pad :: .pad :: .opq (.frac p.2.2) :: .pad :: .pad :: .pad :: .pad::cl cV l)=cl cV (p::l):=rfl
 have hz:((0<l.length)=True∧(l.length*216≤1099511627776)=True∧((1+l.length)*216≤1099511627776)=True)∧((1+l.length=l.length+1)=True∧(2≤l.length+1)=True∧(l.length+1≤5)=True∧((1+l.length)*15≤(l.length+1)*15)=True) :=
  ⟨⟨eq_true (by omega),eq_true (by omega),eq_true (by omega)⟩,eq_true (by omega),eq_true (by omega),eq_true (by omega),eq_true (by omega)⟩
 have ct:List.take ((1+l.length)*15) (cl cV (p::l))=cl cV (p::l)∧AV.head (List.drop ((1+l.length)*15) (cl cV (p::l)))=true:=⟨cl_all (by simp; omega),by rw [cl_drop]; exact cl_head⟩
 refine CSpec_vc (E:=⟨TF,Kt6b⟩) (fn23 hP) HE hP.mix rfl hgo rfl (Nat.le_of_ble_eq_true rfl) ?_
 by_cases ho:dm l<dm (p::l)
 · have ho':((dm (p::l):Nat):Int) > ((dm l:Nat):Int):=by omega
   have e:wIn p l = -1:=by unfold wIn; rw [if_pos ho]
   rw [e]
   simp only [go_sem,cl_len,List.length_cons,h2,h5,hb,fp,kp,hz,ct,cl_ck,cl_head,Option.some.injEq,false_implies,true_implies,ho']
   exact fin_z
 have ho':¬ ((dm (p::l):Nat):Int) > ((dm l:Nat):Int):=by omega
 by_cases e0:dm l=0
 · have e:wIn p l=1:=by unfold wIn; rw [if_neg ho,if_pos e0]
   have d0:(((dm l:Nat):Int) == 0)=true:=(eqN (dm l) 0).trans (decide_eq_true e0)
   rw [e]
   simp only [go_sem,cl_len,List.length_cons,h2,h5,hb,fp,kp,hz,ct,cl_ck,cl_head,Option.some.injEq,false_implies,true_implies,ho',d0]
   exact fin_z
 have d0:(((dm l:Nat):Int) == 0)=false:=(eqN (dm l) 0).trans (decide_eq_false e0)
 simp only [go_sem,cl_len,List.length_cons,h2,h5,hb,fp,kp,hz,ct,cl_ck,cl_head,Option.some.injEq,false_implies,true_implies,ho',d0]
 have h1:(1≤l.length)=True:=eq_true (by omega)
 have sp:Jw (skP (dm l)) p l 0 0 0 1:=Jw_0
 refine trX_frz [5,1] ?_
 refine trX_loopV HE hP.mix (fun _:Nat × Int=>[10,8,5,1,0]) (fun x=>⟨upd (upd (upd (upd (upd (upd (upd (upd (fun _=>.junk) 2 (.ref 0 0)) 3 (.ref 1 0)) 5 (.ref 5 0)) 6 (.fn 38 [] [.ref 5 0,.ref 1 0])) 7 (.int .i64 x.2)) 30 (.imm l.length (cl cV l))) 31 (.int .i64 (l.length:Int))) 32 (.int .i64 ((x.1:Nat):Int)),upd (upd (upd (upd (upd (fun _=>.unused) 0 (.live [.opq (.frac (p.1)),.pad,.pad,.pad,.pad,.opq (.frac (p.2.1)),.pad,.pad,.pad,.pad,.opq (.frac (p.2.2)),.pad,.pad,.pad,.pad])) 1 (.ro [.imm l.length (cl cV l)])) 5 (.ro [.int .i64 ((dm l:Nat):Int)])) 8 .gone) 10 (.ro (cl cV (p::l))),111⟩) (fun x=>x.1≤l.length∧Jw (skP (dm l)) p l x.1 0 0 x.2) (fun x=>l.length-x.1) (0,1) (fun _=>1000) (fun _=>Has.frz Has.z) (Kept.of rfl KT.y KM.y) ⟨Nat.zero_le _,Jw_0⟩ 111 (by kernel_rfl) ?_
 rintro ⟨i,w⟩ ⟨hi,hj⟩
 simp only [] at hi hj
 by_cases h:i<l.length
 case neg =>
  have e:i=l.length:=by omega
  subst e
  rw [Jw_end (allB_p e0) ho e0 hj]
  simp only [go_sem,cl_len,Nat.lt_irrefl]
  exact fin_z
 have wi:=wi_add1 i (by omega)
 have g:=getV h
 simp only [go_sem,cl_len,g]
 refine trX_loopV HE hP.mix (fun _:Nat × Int=>[1004,10,8,5,1,0]) (fun x=>⟨upd (upd (upd (upd (upd (upd (upd (upd (upd (upd (upd (upd (upd (fun _=>.junk) 2 (.ref 0 0)) 3 (.ref 1 0)) 5 (.ref 5 0)) 6 (.fn 38 [] [.ref 5 0,.ref 1 0])) 7 (.int .i64 x.2)) 30 (.imm l.length (cl cV l))) 31 (.int .i64 (l.length:Int))) 32 (.int .i64 ((i:Nat):Int))) 8 (.int .i64 ((i:Nat):Int))) 9 (.ref 1004 0)) 37 (.imm l.length (cl cV l))) 38 (.int .i64 (l.length:Int))) 39 (.int .i64 ((x.1:Nat):Int)),upd (upd (upd (upd (upd (upd (fun _=>.unused) 0 (.live [.opq (.frac (p.1)),.pad,.pad,.pad,.pad,.opq (.frac (p.2.1)),.pad,.pad,.pad,.pad,.opq (.frac (p.2.2)),.pad,.pad,.pad,.pad])) 1 (.ro [.imm l.length (cl cV l)])) 5 (.ro [.int .i64 ((dm l:Nat):Int)])) 8 .gone) 10 (.ro (cl cV (p::l)))) 1004 (.live [.opq (.frac ((atL l i).1)),.pad,.pad,.pad,.pad,.opq (.frac ((atL l i).2.1)),.pad,.pad,.pad,.pad,.opq (.frac ((atL l i).2.2)),.pad,.pad,.pad,.pad]),111⟩) (fun x=>x.1≤l.length∧Jw (skP (dm l)) p l i x.1 0 x.2) (fun x=>l.length-x.1) (0,w) (fun _=>2000) (fun _=>Has.z) (Kept.of rfl KT.y KM.y) ⟨Nat.zero_le _,hj⟩ 111 (by kernel_rfl) ?_
 rintro ⟨j,w⟩ ⟨hi',hj⟩
 simp only [] at hi' hj
 by_cases h':j<l.length
 case neg =>
  have e:j=l.length:=by omega
  subst e
  simp only [go_sem,cl_len,Nat.lt_irrefl,wi]
  exact ⟨(i+1,w),Kept.of rfl KT.y KM.y,⟨h,Jw_rol2 hj⟩,by show l.length-(i+1)<l.length-i; omega⟩
 have wj:=wi_add1 j (by omega)
 have g':=getV h'
 simp only [go_sem,cl_len,g']
 refine trX_loopV HE hP.mix (fun _:Nat × Int=>[2004,1004,10,8,5,1,0]) (fun x=>⟨upd (upd (upd (upd (upd (upd (upd (upd (upd (upd (upd (upd (upd (upd (upd (upd (upd (upd (fun _=>.junk) 2 (.ref 0 0)) 3 (.ref 1 0)) 5 (.ref 5 0)) 6 (.fn 38 [] [.ref 5 0,.ref 1 0])) 7 (.int .i64 x.2)) 30 (.imm l.length (cl cV l))) 31 (.int .i64 (l.length:Int))) 32 (.int .i64 ((i:Nat):Int))) 8 (.int .i64 ((i:Nat):Int))) 9 (.ref 1004 0)) 37 (.imm l.length (cl cV l))) 38 (.int .i64 (l.length:Int))) 39 (.int .i64 ((j:Nat):Int))) 10 (.int .i64 ((j:Nat):Int))) 11 (.ref 2004 0)) 44 (.imm l.length (cl cV l))) 45 (.int .i64 (l.length:Int))) 46 (.int .i64 ((x.1:Nat):Int)),upd (upd (upd (upd (upd (upd (upd (fun _=>.unused) 0 (.live [.opq (.frac (p.1)),.pad,.pad,.pad,.pad,.opq (.frac (p.2.1)),.pad,.pad,.pad,.pad,.opq (.frac (p.2.2)),.pad,.pad,.pad,.pad])) 1 (.ro [.imm l.length (cl cV l)])) 5 (.ro [.int .i64 ((dm l:Nat):Int)])) 8 .gone) 10 (.ro (cl cV (p::l)))) 1004 (.live [.opq (.frac ((atL l i).1)),.pad,.pad,.pad,.pad,.opq (.frac ((atL l i).2.1)),.pad,.pad,.pad,.pad,.opq (.frac ((atL l i).2.2)),.pad,.pad,.pad,.pad])) 2004 (.live [.opq (.frac ((atL l j).1)),.pad,.pad,.pad,.pad,.opq (.frac ((atL l j).2.1)),.pad,.pad,.pad,.pad,.opq (.frac ((atL l j).2.2)),.pad,.pad,.pad,.pad]),111⟩) (fun x=>x.1≤l.length∧Jw (skP (dm l)) p l i j x.1 x.2) (fun x=>l.length-x.1) (0,w) (fun _=>3000) (fun _=>Has.z) (Kept.of rfl KT.y KM.y) ⟨Nat.zero_le _,hj⟩ 111 (by kernel_rfl) ?_
 rintro ⟨k,w⟩ ⟨hi'',hj⟩
 simp only [] at hi'' hj
 by_cases h'':k<l.length
 case neg =>
  have e:k=l.length:=by omega
  subst e
  simp only [go_sem,cl_len,Nat.lt_irrefl,wj]
  exact ⟨(j+1,w),Kept.of rfl KT.y KM.y,⟨h',Jw_roll hj⟩,by show l.length-(j+1)<l.length-j; omega⟩
 have wk:=wi_add1 k (by omega)
 have g'':=getV h''
 have fa:=fVm_at hb h
 have fb:=fVm_at hb h'
 have fc:=fVm_at hb h''
 obtain ⟨N,hN⟩:∃ n,cN l i j k=n:=⟨_,rfl⟩
 have fN:=cN_fV hb h h' h''
 rw [hN] at fN
 obtain ⟨u,hu⟩:∃ zz,vsbq p (atL l i)=zz:=⟨_,rfl⟩
 have fu:=vsbq_fV fp fa
 rw [hu] at fu
 obtain ⟨t,ht⟩:∃ zz,qdt N u=zz:=⟨_,rfl⟩
 have ft:=qdt_fl fN fu
 rw [ht] at ft
 have kt:qdt (N.1,N.2.1,N.2.2) (u.1,u.2.1,u.2.2)=t:=ht
 have kz:decide (((N.1,N.2.1,N.2.2):V3)=v0)=decide (N=v0):=rfl
 have kv:vdt (cN l i j k) (vsb p (atL l i))=t:=by rw [hN,← ht,← hu,vsbq_vsb,qdt_vdt]
 have kN:crossN (dm l) l ((atL l i).1,(atL l i).2.1,(atL l i).2.2) ((atL l j).1,(atL l j).2.1,(atL l j).2.2) ((atL l k).1,(atL l k).2.1,(atL l k).2.2)=N:=hN
 have B:=(⟨i16 fa (by decide),i16 fb (by decide),i16 fc (by decide),bf fa (by decide),bf fN (by decide),bt fN (by decide),bt fu (by decide),bf fp (by decide),ks ft (by decide),vsbq_c hu,kt,kz,kN,hN⟩:_∧_∧_∧_∧_∧_∧_∧_∧_∧_∧_∧_∧_∧_)
 have d3:=dm_le l
 by_cases ij:i=j
 case pos =>
  have f1:((i:Int) == (j:Int))=true:=(eqN i j).trans (decide_eq_true ij)
  have hsk:skP (dm l) i j k=true:=by unfold skP; simp [ij]
  simp only [go_sem,cl_len,g'',f1,wk]
  exact ⟨(k+1,w),Kept.of rfl KT.y KM.y,⟨h'',Jw_skip hj fun hg=>absurd hg.1 (by rw [hsk]; decide)⟩,by show l.length-(k+1)<l.length-k; omega⟩
 have f1:((i:Int) == (j:Int))=false:=(eqN i j).trans (decide_eq_false ij)
 by_cases c3:dm l=3
 case pos =>
  have f2:(((dm l:Nat):Int) == 3)=true:=(eqN (dm l) 3).trans (decide_eq_true c3)
  by_cases ki:k=i
  case pos =>
   have f3:((k:Int) == (i:Int))=true:=(eqN k i).trans (decide_eq_true ki)
   have hsk:skP (dm l) i j k=true:=by unfold skP; simp [c3,ki]
   simp only [go_sem,cl_len,g'',f1,f2,f3,wk]
   exact ⟨(k+1,w),Kept.of rfl KT.y KM.y,⟨h'',Jw_skip hj fun hg=>absurd hg.1 (by rw [hsk]; decide)⟩,by show l.length-(k+1)<l.length-k; omega⟩
  have f3:((k:Int) == (i:Int))=false:=(eqN k i).trans (decide_eq_false ki)
  by_cases kj:k=j
  case pos =>
   have f4:((k:Int) == (j:Int))=true:=(eqN k j).trans (decide_eq_true kj)
   have hsk:skP (dm l) i j k=true:=by unfold skP; simp [c3,kj]
   simp only [go_sem,cl_len,g'',f1,f2,f3,f4,wk]
   exact ⟨(k+1,w),Kept.of rfl KT.y KM.y,⟨h'',Jw_skip hj fun hg=>absurd hg.1 (by rw [hsk]; decide)⟩,by show l.length-(k+1)<l.length-k; omega⟩
  have f4:((k:Int) == (j:Int))=false:=(eqN k j).trans (decide_eq_false kj)
  have f5:(((dm l:Nat):Int)<3)=False:=eq_false (by omega)
  have hsk:skP (dm l) i j k=false:=by unfold skP; simp [ij,c3,ki,kj]
  by_cases z:N=v0
  · simp only [go_sem,cl_len,h1,h2,h5,hb,f1,f2,f3,f4,f5,g'',B,decide_eq_true z,wk]
    exact ⟨(k+1,w),Kept.of rfl KT.y KM.y,⟨h'',Jw_skip hj fun hg=>hg.2.1 (hN.trans z)⟩,by show l.length-(k+1)<l.length-k; omega⟩
  simp only [go_sem,cl_len,h1,h2,h5,hb,f1,f2,f3,f4,f5,g'',B,decide_eq_false z]
  refine trX_loopV HE hP.mix (fun _:Nat=>[3035,3004,2004,1004,10,8,5,1,0]) (fun x=>⟨upd (upd (upd (upd (upd (upd (upd (upd (upd (upd (upd (upd (upd (upd (upd (upd (upd (upd (upd (upd (upd (upd (fun _=>.junk) 2 (.ref 0 0)) 3 (.ref 1 0)) 5 (.ref 5 0)) 6 (.fn 38 [] [.ref 5 0,.ref 1 0])) 7 (.int .i64 w)) 30 (.imm l.length (cl cV l))) 31 (.int .i64 (l.length:Int))) 32 (.int .i64 ((i:Nat):Int))) 8 (.int .i64 ((i:Nat):Int))) 9 (.ref 1004 0)) 37 (.imm l.length (cl cV l))) 38 (.int .i64 (l.length:Int))) 39 (.int .i64 ((j:Nat):Int))) 10 (.int .i64 ((j:Nat):Int))) 11 (.ref 2004 0)) 44 (.imm l.length (cl cV l))) 45 (.int .i64 (l.length:Int))) 46 (.int .i64 ((k:Nat):Int))) 14 (.ref 3035 0)) 83 (.imm l.length (cl cV l))) 84 (.int .i64 (l.length:Int))) 85 (.int .i64 ((x:Nat):Int)),upd (upd (upd (upd (upd (upd (upd (upd (upd (fun _=>.unused) 0 (.live [.opq (.frac (p.1)),.pad,.pad,.pad,.pad,.opq (.frac (p.2.1)),.pad,.pad,.pad,.pad,.opq (.frac (p.2.2)),.pad,.pad,.pad,.pad])) 1 (.ro [.imm l.length (cl cV l)])) 5 (.ro [.int .i64 ((dm l:Nat):Int)])) 8 .gone) 10 (.ro (cl cV (p::l)))) 1004 (.live [.opq (.frac ((atL l i).1)),.pad,.pad,.pad,.pad,.opq (.frac ((atL l i).2.1)),.pad,.pad,.pad,.pad,.opq (.frac ((atL l i).2.2)),.pad,.pad,.pad,.pad])) 2004 (.live [.opq (.frac ((atL l j).1)),.pad,.pad,.pad,.pad,.opq (.frac ((atL l j).2.1)),.pad,.pad,.pad,.pad,.opq (.frac ((atL l j).2.2)),.pad,.pad,.pad,.pad])) 3004 (.live [.opq (.frac ((atL l k).1)),.pad,.pad,.pad,.pad,.opq (.frac ((atL l k).2.1)),.pad,.pad,.pad,.pad,.opq (.frac ((atL l k).2.2)),.pad,.pad,.pad,.pad])) 3035 (.live [.opq (.frac (N.1)),.pad,.pad,.pad,.pad,.opq (.frac (N.2.1)),.pad,.pad,.pad,.pad,.opq (.frac (N.2.2)),.pad,.pad,.pad,.pad]),111⟩) (fun x=>x≤l.length∧∀ q ∈ l.take x,0≤vdt N (vsb q (atL l i))) (fun x=>l.length-x) 0 (fun _=>4000) (fun _=>Has.z) (Kept.of rfl KT.y KM.y) ⟨Nat.zero_le _,fun q hq=>by simp at hq⟩ 111 (by kernel_rfl) ?_
  rintro m ⟨hm,hall⟩
  by_cases h3:m<l.length
  case pos =>
   have g3:=getV h3
   have fq:=fVm_at hb h3
   obtain ⟨u3,hu3⟩:∃ zz,vsbq (atL l m) (atL l i)=zz:=⟨_,rfl⟩
   have fu3:=vsbq_fV fq fa
   rw [hu3] at fu3
   obtain ⟨t3,ht3⟩:∃ zz,qdt N u3=zz:=⟨_,rfl⟩
   have ft3:=qdt_fl fN fu3
   rw [ht3] at ft3
   have kt3:qdt (N.1,N.2.1,N.2.2) (u3.1,u3.2.1,u3.2.2)=t3:=ht3
   have kv3:vdt N (vsb (atL l m) (atL l i))=t3:=by rw [← ht3,← hu3,vsbq_vsb,qdt_vdt]
   have wm:=wi_add1 m (by omega)
   have B3:=(⟨bf fq (by decide),bt fu3 (by decide),ks ft3 (by decide),vsbq_c hu3,kt3⟩:_∧_∧_∧_∧_)
   by_cases z3:0≤t3
   · have c:(cmpQ t3 0<0)=False:=eq_false (by have:=cmpQ_ge.2 z3; omega)
     simp only [go_sem,cl_len,g3,B,B3,c,wm]
     refine ⟨m+1,Kept.of rfl KT.y KM.y,⟨h3,fun q hq=>?_⟩,by show l.length-(m+1)<l.length-m; omega⟩
     rw [atL_take h3] at hq
     rcases List.mem_append.1 hq with hq|hq
     · exact hall q hq
     · rw [List.mem_singleton.1 hq,kv3]; exact z3
   · have c:(cmpQ t3 0<0)=True:=eq_true (by have:=mt cmpQ_ge.1 z3; omega)
     simp only [go_sem,cl_len,g3,B,B3,c,wk]
     exact ⟨(k+1,w),Kept.of rfl KT.y KM.y,⟨h'',Jw_skip hj fun hg=>z3 (by have:=hg.2.2 _ (atL_in h3); rw [hN,kv3] at this; exact this)⟩,by show l.length-(k+1)<l.length-k; omega⟩
  have em:m=l.length:=by omega
  subst em
  rw [List.take_of_length_le (Nat.le_refl _)] at hall
  have hg:Gd (skP (dm l)) l i j k:=⟨hsk,by rw [hN]; exact z,by rw [hN]; exact hall⟩
  rcases i3w t with ⟨e,ht'⟩|⟨e,ht'⟩|⟨e,ht'⟩
  · rw [Jw_out ho e0 h h' h'' hg (kv ▸ ht')]
    simp only [go_sem,cl_len,Nat.lt_irrefl,B,e]
    exact fin_z
  · simp only [go_sem,cl_len,Nat.lt_irrefl,B,e,wk]
    exact ⟨(k+1,0),Kept.of rfl KT.y KM.y,⟨h'',Jw_zero hj h' h'' hg (kv.trans ht')⟩,by show l.length-(k+1)<l.length-k; omega⟩
  · simp only [go_sem,cl_len,Nat.lt_irrefl,B,e,wk]
    exact ⟨(k+1,w),Kept.of rfl KT.y KM.y,⟨h'',Jw_pos hj (kv ▸ ht')⟩,by show l.length-(k+1)<l.length-k; omega⟩
 have f2:(((dm l:Nat):Int) == 3)=false:=(eqN (dm l) 3).trans (decide_eq_false c3)
 have f5:(((dm l:Nat):Int)<3)=True:=eq_true (by omega)
 by_cases k0:0<k
 case pos =>
  have f6:((k:Int) > 0)=True:=eq_true (by omega)
  have hsk:skP (dm l) i j k=true:=by unfold skP; simp [show dm l<3 by omega,k0]
  simp only [go_sem,cl_len,g'',f1,f2,f5,f6,wk]
  exact ⟨(k+1,w),Kept.of rfl KT.y KM.y,⟨h'',Jw_skip hj fun hg=>absurd hg.1 (by rw [hsk]; decide)⟩,by show l.length-(k+1)<l.length-k; omega⟩
 have f6:((k:Int) > 0)=False:=eq_false (by omega)
 have hsk:skP (dm l) i j k=false:=by unfold skP; simp [ij,c3,k0]
 by_cases z:N=v0
 · simp only [go_sem,cl_len,h1,h2,h5,hb,f1,f2,f5,f6,g'',B,decide_eq_true z,wk]
   exact ⟨(k+1,w),Kept.of rfl KT.y KM.y,⟨h'',Jw_skip hj fun hg=>hg.2.1 (hN.trans z)⟩,by show l.length-(k+1)<l.length-k; omega⟩
 simp only [go_sem,cl_len,h1,h2,h5,hb,f1,f2,f5,f6,g'',B,decide_eq_false z]
 refine trX_loopV HE hP.mix (fun _:Nat=>[3029,3004,2004,1004,10,8,5,1,0]) (fun x=>⟨upd (upd (upd (upd (upd (upd (upd (upd (upd (upd (upd (upd (upd (upd (upd (upd (upd (upd (upd (upd (upd (upd (fun _=>.junk) 2 (.ref 0 0)) 3 (.ref 1 0)) 5 (.ref 5 0)) 6 (.fn 38 [] [.ref 5 0,.ref 1 0])) 7 (.int .i64 w)) 30 (.imm l.length (cl cV l))) 31 (.int .i64 (l.length:Int))) 32 (.int .i64 ((i:Nat):Int))) 8 (.int .i64 ((i:Nat):Int))) 9 (.ref 1004 0)) 37 (.imm l.length (cl cV l))) 38 (.int .i64 (l.length:Int))) 39 (.int .i64 ((j:Nat):Int))) 10 (.int .i64 ((j:Nat):Int))) 11 (.ref 2004 0)) 44 (.imm l.length (cl cV l))) 45 (.int .i64 (l.length:Int))) 46 (.int .i64 ((k:Nat):Int))) 14 (.ref 3029 0)) 83 (.imm l.length (cl cV l))) 84 (.int .i64 (l.length:Int))) 85 (.int .i64 ((x:Nat):Int)),upd (upd (upd (upd (upd (upd (upd (upd (upd (fun _=>.unused) 0 (.live [.opq (.frac (p.1)),.pad,.pad,.pad,.pad,.opq (.frac (p.2.1)),.pad,.pad,.pad,.pad,.opq (.frac (p.2.2)),.pad,.pad,.pad,.pad])) 1 (.ro [.imm l.length (cl cV l)])) 5 (.ro [.int .i64 ((dm l:Nat):Int)])) 8 .gone) 10 (.ro (cl cV (p::l)))) 1004 (.live [.opq (.frac ((atL l i).1)),.pad,.pad,.pad,.pad,.opq (.frac ((atL l i).2.1)),.pad,.pad,.pad,.pad,.opq (.frac ((atL l i).2.2)),.pad,.pad,.pad,.pad])) 2004 (.live [.opq (.frac ((atL l j).1)),.pad,.pad,.pad,.pad,.opq (.frac ((atL l j).2.1)),.pad,.pad,.pad,.pad,.opq (.frac ((atL l j).2.2)),.pad,.pad,.pad,.pad])) 3004 (.live [.opq (.frac ((atL l k).1)),.pad,.pad,.pad,.pad,.opq (.frac ((atL l k).2.1)),.pad,.pad,.pad,.pad,.opq (.frac ((atL l k).2.2)),.pad,.pad,.pad,.pad])) 3029 (.live [.opq (.frac (N.1)),.pad,.pad,.pad,.pad,.opq (.frac (N.2.1)),.pad,.pad,.pad,.pad,.opq (.frac (N.2.2)),.pad,.pad,.pad,.pad]),111⟩) (fun x=>x≤l.length∧∀ q ∈ l.take x,0≤vdt N (vsb q (atL l i))) (fun x=>l.length-x) 0 (fun _=>4000) (fun _=>Has.z) (Kept.of rfl KT.y KM.y) ⟨Nat.zero_le _,fun q hq=>by simp at hq⟩ 111 (by kernel_rfl) ?_
 rintro m ⟨hm,hall⟩
 by_cases h3:m<l.length
 case pos =>
  have g3:=getV h3
  have fq:=fVm_at hb h3
  obtain ⟨u3,hu3⟩:∃ zz,vsbq (atL l m) (atL l i)=zz:=⟨_,rfl⟩
  have fu3:=vsbq_fV fq fa
  rw [hu3] at fu3
  obtain ⟨t3,ht3⟩:∃ zz,qdt N u3=zz:=⟨_,rfl⟩
  have ft3:=qdt_fl fN fu3
  rw [ht3] at ft3
  have kt3:qdt (N.1,N.2.1,N.2.2) (u3.1,u3.2.1,u3.2.2)=t3:=ht3
  have kv3:vdt N (vsb (atL l m) (atL l i))=t3:=by rw [← ht3,← hu3,vsbq_vsb,qdt_vdt]
  have wm:=wi_add1 m (by omega)
  have B3:=(⟨bf fq (by decide),bt fu3 (by decide),ks ft3 (by decide),vsbq_c hu3,kt3⟩:_∧_∧_∧_∧_)
  by_cases z3:0≤t3
  · have c:(cmpQ t3 0<0)=False:=eq_false (by have:=cmpQ_ge.2 z3; omega)
    simp only [go_sem,cl_len,g3,B,B3,c,wm]
    refine ⟨m+1,Kept.of rfl KT.y KM.y,⟨h3,fun q hq=>?_⟩,by show l.length-(m+1)<l.length-m; omega⟩
    rw [atL_take h3] at hq
    rcases List.mem_append.1 hq with hq|hq
    · exact hall q hq
    · rw [List.mem_singleton.1 hq,kv3]; exact z3
  · have c:(cmpQ t3 0<0)=True:=eq_true (by have:=mt cmpQ_ge.1 z3; omega)
    simp only [go_sem,cl_len,g3,B,B3,c,wk]
    exact ⟨(k+1,w),Kept.of rfl KT.y KM.y,⟨h'',Jw_skip hj fun hg=>z3 (by have:=hg.2.2 _ (atL_in h3); rw [hN,kv3] at this; exact this)⟩,by show l.length-(k+1)<l.length-k; omega⟩
 have em:m=l.length:=by omega
 subst em
 rw [List.take_of_length_le (Nat.le_refl _)] at hall
 have hg:Gd (skP (dm l)) l i j k:=⟨hsk,by rw [hN]; exact z,by rw [hN]; exact hall⟩
 rcases i3w t with ⟨e,ht'⟩|⟨e,ht'⟩|⟨e,ht'⟩
 · rw [Jw_out ho e0 h h' h'' hg (kv ▸ ht')]
   simp only [go_sem,cl_len,Nat.lt_irrefl,B,e]
   exact fin_z
 · simp only [go_sem,cl_len,Nat.lt_irrefl,B,e,wk]
   exact ⟨(k+1,0),Kept.of rfl KT.y KM.y,⟨h'',Jw_zero hj h' h'' hg (kv.trans ht')⟩,by show l.length-(k+1)<l.length-k; omega⟩
 · simp only [go_sem,cl_len,Nat.lt_irrefl,B,e,wk]
   exact ⟨(k+1,w),Kept.of rfl KT.y KM.y,⟨h'',Jw_pos hj (kv ▸ ht')⟩,by show l.length-(k+1)<l.length-k; omega⟩
noncomputable def pWitS:List AV→Option (Prop × AV)
 | [x0,x1]=>(rawV x0).bind fun p=>(rawLV x1).bind fun l=>some (((2≤l.length∧l.length≤4)∧fVm 16384 l∧fV p 16384),.int .i64 (wIn p l))
 | _=>none
theorem pWitS_eq (x0 x1):pWitS [x0,x1]=(rawV x0).bind fun p=>(rawLV x1).bind fun l=>some (((2≤l.length∧l.length≤4)∧fVm 16384 l∧fV p 16384),.int .i64 (wIn p l)):=rfl
theorem pWitS_ok (hP:PrgOk P) (args p r) (he:pWitS args=some (p,r)) (hp:p):CSpec P 23 args r:=by
 unfold pWitS at he
 split at he
 · simp only [Option.bind_eq_some_iff,Option.some.injEq,Prod.mk.injEq] at he
   obtain ⟨p,hhp,l,hhl,rfl,rfl⟩:=he
   rw [rawV_inv hhp,rawLV_inv hhl]
   exact pWit_spec hP p l hp
 · simp at he
attribute [go_sem] pWitS_eq
noncomputable def Kt7:Nat→List AV→Option (Prop × AV):=addS Kt6b 23 pWitS
theorem Kt7_all (hP:PrgOk P) (T) (hT:TyOk P T):EnvOk P ⟨T,Kt7⟩:=((Kt6b_all hP T hT).add (pWitS_ok hP))
theorem Kt7_at (f a):Kt7 f a=(addS Kt6b 23 pWitS) f a:=rfl
attribute [go_sem] Kt7_at
noncomputable def btB (a p b:V3):Bool:=wIn p [a,b] != -1
theorem btB_iff (a p b:V3):btB a p b=true ↔ Btw a p b:=by unfold btB Btw; simp
theorem pBtw_spec (hP:PrgOk P) (a:V3) (p:V3) (b:V3) (hpre:fV a 16384∧fV p 16384∧fV b 16384):CSpec P 7 [(.agg [.opq (.frac (a.1)),.pad,.pad,.pad,.pad,.opq (.frac (a.2.1)),.pad,.pad,.pad,.pad,.opq (.frac (a.2.2)),.pad,.pad,.pad,.pad]),(.agg [.opq (.frac (p.1)),.pad,.pad,.pad,.pad,.opq (.frac (p.2.1)),.pad,.pad,.pad,.pad,.opq (.frac (p.2.2)),.pad,.pad,.pad,.pad]),(.agg [.opq (.frac (b.1)),.pad,.pad,.pad,.pad,.opq (.frac (b.2.1)),.pad,.pad,.pad,.pad,.opq (.frac (b.2.2)),.pad,.pad,.pad,.pad])] (.bool (btB a p b)):=by
 have HE:=Kt7_all hP TF hP.tF
 obtain ⟨ha,hp,hb⟩:=hpre
 have B:=(⟨i16 ha (by decide),i16 hp (by decide),i16 hb (by decide)⟩:_∧_∧_)
 refine CSpec_go (E:=⟨TF,Kt7⟩) (fn7 hP) HE hP.mix ?_
 simp only [go_sem,B]
 exact fin_z
noncomputable def pBtwS:List AV→Option (Prop × AV)
 | [x0,x1,x2]=>(rawV x0).bind fun a=>(rawV x1).bind fun p=>(rawV x2).bind fun b=>some ((fV a 16384∧fV p 16384∧fV b 16384),.bool (btB a p b))
 | _=>none
theorem pBtwS_eq (x0 x1 x2):pBtwS [x0,x1,x2]=(rawV x0).bind fun a=>(rawV x1).bind fun p=>(rawV x2).bind fun b=>some ((fV a 16384∧fV p 16384∧fV b 16384),.bool (btB a p b)):=rfl
theorem pBtwS_ok (hP:PrgOk P) (args p r) (he:pBtwS args=some (p,r)) (hp:p):CSpec P 7 args r:=by
 unfold pBtwS at he
 split at he
 · simp only [Option.bind_eq_some_iff,Option.some.injEq,Prod.mk.injEq] at he
   obtain ⟨a,hha,p,hhp,b,hhb,rfl,rfl⟩:=he
   rw [rawV_inv hha,rawV_inv hhp,rawV_inv hhb]
   exact pBtw_spec hP a p b hp
 · simp at he
attribute [go_sem] pBtwS_eq
theorem pTri_spec (hP:PrgOk P) (p:V3) (a:V3) (b:V3) (c:V3) (hpre:fV p 16384∧fV a 16384∧fV b 16384∧fV c 16384):CSpec P 8 [(.agg [.opq (.frac (p.1)),.pad,.pad,.pad,.pad,.opq (.frac (p.2.1)),.pad,.pad,.pad,.pad,.opq (.frac (p.2.2)),.pad,.pad,.pad,.pad]),(.agg [.opq (.frac (a.1)),.pad,.pad,.pad,.pad,.opq (.frac (a.2.1)),.pad,.pad,.pad,.pad,.opq (.frac (a.2.2)),.pad,.pad,.pad,.pad]),(.agg [.opq (.frac (b.1)),.pad,.pad,.pad,.pad,.opq (.frac (b.2.1)),.pad,.pad,.pad,.pad,.opq (.frac (b.2.2)),.pad,.pad,.pad,.pad]),(.agg [.opq (.frac (c.1)),.pad,.pad,.pad,.pad,.opq (.frac (c.2.1)),.pad,.pad,.pad,.pad,.opq (.frac (c.2.2)),.pad,.pad,.pad,.pad])] (.int .i64 (wIn p [a,b,c])):=by
 have HE:=Kt7_all hP TF hP.tF
 obtain ⟨hp,ha,hb,hc⟩:=hpre
 have B:=(⟨i16 ha (by decide),i16 hp (by decide),i16 hb (by decide),i16 hc (by decide)⟩:_∧_∧_∧_)
 refine CSpec_go (E:=⟨TF,Kt7⟩) (fn8 hP) HE hP.mix ?_
 simp only [go_sem,B]
 exact fin_z
noncomputable def pTriS:List AV→Option (Prop × AV)
 | [x0,x1,x2,x3]=>(rawV x0).bind fun p=>(rawV x1).bind fun a=>(rawV x2).bind fun b=>(rawV x3).bind fun c=>some ((fV p 16384∧fV a 16384∧fV b 16384∧fV c 16384),.int .i64 (wIn p [a,b,c]))
 | _=>none
theorem pTriS_eq (x0 x1 x2 x3):pTriS [x0,x1,x2,x3]=(rawV x0).bind fun p=>(rawV x1).bind fun a=>(rawV x2).bind fun b=>(rawV x3).bind fun c=>some ((fV p 16384∧fV a 16384∧fV b 16384∧fV c 16384),.int .i64 (wIn p [a,b,c])):=rfl
theorem pTriS_ok (hP:PrgOk P) (args p r) (he:pTriS args=some (p,r)) (hp:p):CSpec P 8 args r:=by
 unfold pTriS at he
 split at he
 · simp only [Option.bind_eq_some_iff,Option.some.injEq,Prod.mk.injEq] at he
   obtain ⟨p,hhp,a,hha,b,hhb,c,hhc,rfl,rfl⟩:=he
   rw [rawV_inv hhp,rawV_inv hha,rawV_inv hhb,rawV_inv hhc]
   exact pTri_spec hP p a b c hp
 · simp at he
attribute [go_sem] pTriS_eq
theorem pTet_spec (hP:PrgOk P) (p:V3) (a:V3) (b:V3) (c:V3) (d:V3) (hpre:fV p 16384∧fV a 16384∧fV b 16384∧fV c 16384∧fV d 16384):CSpec P 9 [(.agg [.opq (.frac (p.1)),.pad,.pad,.pad,.pad,.opq (.frac (p.2.1)),.pad,.pad,.pad,.pad,.opq (.frac (p.2.2)),.pad,.pad,.pad,.pad]),(.agg [.opq (.frac (a.1)),.pad,.pad,.pad,.pad,.opq (.frac (a.2.1)),.pad,.pad,.pad,.pad,.opq (.frac (a.2.2)),.pad,.pad,.pad,.pad]),(.agg [.opq (.frac (b.1)),.pad,.pad,.pad,.pad,.opq (.frac (b.2.1)),.pad,.pad,.pad,.pad,.opq (.frac (b.2.2)),.pad,.pad,.pad,.pad]),(.agg [.opq (.frac (c.1)),.pad,.pad,.pad,.pad,.opq (.frac (c.2.1)),.pad,.pad,.pad,.pad,.opq (.frac (c.2.2)),.pad,.pad,.pad,.pad]),(.agg [.opq (.frac (d.1)),.pad,.pad,.pad,.pad,.opq (.frac (d.2.1)),.pad,.pad,.pad,.pad,.opq (.frac (d.2.2)),.pad,.pad,.pad,.pad])] (.int .i64 (wIn p [a,b,c,d])):=by
 have HE:=Kt7_all hP TF hP.tF
 obtain ⟨hp,ha,hb,hc,hd⟩:=hpre
 have B:=(⟨i16 ha (by decide),i16 hp (by decide),i16 hb (by decide),i16 hc (by decide),i16 hd (by decide)⟩:_∧_∧_∧_∧_)
 refine CSpec_go (E:=⟨TF,Kt7⟩) (fn9 hP) HE hP.mix ?_
 simp only [go_sem,B]
 exact fin_z
noncomputable def pTetS:List AV→Option (Prop × AV)
 | [x0,x1,x2,x3,x4]=>(rawV x0).bind fun p=>(rawV x1).bind fun a=>(rawV x2).bind fun b=>(rawV x3).bind fun c=>(rawV x4).bind fun d=>some ((fV p 16384∧fV a 16384∧fV b 16384∧fV c 16384∧fV d 16384),.int .i64 (wIn p [a,b,c,d]))
 | _=>none
theorem pTetS_eq (x0 x1 x2 x3 x4):pTetS [x0,x1,x2,x3,x4]=(rawV x0).bind fun p=>(rawV x1).bind fun a=>(rawV x2).bind fun b=>(rawV x3).bind fun c=>(rawV x4).bind fun d=>some ((fV p 16384∧fV a 16384∧fV b 16384∧fV c 16384∧fV d 16384),.int .i64 (wIn p [a,b,c,d])):=rfl
theorem pTetS_ok (hP:PrgOk P) (args p r) (he:pTetS args=some (p,r)) (hp:p):CSpec P 9 args r:=by
 unfold pTetS at he
 split at he
 · simp only [Option.bind_eq_some_iff,Option.some.injEq,Prod.mk.injEq] at he
   obtain ⟨p,hhp,a,hha,b,hhb,c,hhc,d,hhd,rfl,rfl⟩:=he
   rw [rawV_inv hhp,rawV_inv hha,rawV_inv hhb,rawV_inv hhc,rawV_inv hhd]
   exact pTet_spec hP p a b c d hp
 · simp at he
attribute [go_sem] pTetS_eq
noncomputable def Kt8:Nat→List AV→Option (Prop × AV):=addS (addS (addS Kt7 7 pBtwS) 8 pTriS) 9 pTetS
theorem Kt8_all (hP:PrgOk P) (T) (hT:TyOk P T):EnvOk P ⟨T,Kt8⟩:=((((Kt7_all hP T hT).add (pBtwS_ok hP)).add (pTriS_ok hP)).add (pTetS_ok hP))
theorem Kt8_at (f a):Kt8 f a=(addS (addS (addS Kt7 7 pBtwS) 8 pTriS) 9 pTetS) f a:=rfl
attribute [go_sem] Kt8_at
noncomputable def prB (x n:V3) (k:Rat):Bool:=decide (0≤cmpQ (vdt x n) 0) && decide (cmpQ (vdt x n) k≤0)
theorem prB_iff (x n:V3):prB x n (vdt n n)=true ↔ prt x n:=by
 unfold prB prt; rw [Bool.and_eq_true,decide_eq_true_eq,decide_eq_true_eq,cmpQ_le,cmpQ_ge]
theorem pPrt_spec (hP:PrgOk P) (x n:V3) (k:Rat) (hpre:fV x 65536∧fV n 65536∧fl k≤FB):CSpec P 28 [(.agg [.opq (.frac (x.1)),.pad,.pad,.pad,.pad,.opq (.frac (x.2.1)),.pad,.pad,.pad,.pad,.opq (.frac (x.2.2)),.pad,.pad,.pad,.pad]),.fref [.opq (.frac (n.1)),.pad,.pad,.pad,.pad,.opq (.frac (n.2.1)),.pad,.pad,.pad,.pad,.opq (.frac (n.2.2)),.pad,.pad,.pad,.pad],.fref [.opq (.frac (k)),.pad,.pad,.pad,.pad]] (.bool (prB x n k)):=by
 have HE:=Kt8_all hP TF hP.tF
 obtain ⟨hx,hn,hk⟩:=hpre
 obtain ⟨t,ht⟩:∃ zz,qdt x n=zz:=⟨_,rfl⟩
 have ft:=qdt_fl hx hn
 rw [ht] at ft
 have kt:qdt (x.1,x.2.1,x.2.2) (n.1,n.2.1,n.2.2)=t:=ht
 have B:=(⟨bt hx (by decide),bt hn (by decide),hk,ks ft (by decide)⟩:_∧_∧_∧_)
 unfold prB
 rw [← qdt_vdt,ht]
 refine CSpec_go (E:=⟨TF,Kt8⟩) (fn28 hP) HE hP.mix ?_
 by_cases h:0≤cmpQ t 0
 · rw [decide_eq_true h]
   simp only [go_sem,B,kt,h,ge_iff_le,Bool.true_and]
   exact fin_z
 · rw [decide_eq_false h]
   simp only [go_sem,B,kt,h,ge_iff_le,Bool.false_and]
   exact fin_z
noncomputable def pPrtS:List AV→Option (Prop × AV)
 | [x,.fref y,.fref [.opq (.frac (k)),.pad,.pad,.pad,.pad]]=>(rawV x).bind fun a=>(cells3 y).bind fun n=>some (fV a 65536∧fV n 65536∧fl k≤FB,.bool (prB a n k))
 | _=>none
theorem pPrtS_eq (x y k):pPrtS [x,.fref y,.fref [.opq (.frac (k)),.pad,.pad,.pad,.pad]]=(rawV x).bind fun a=>(cells3 y).bind fun n=>some (fV a 65536∧fV n 65536∧fl k≤FB,.bool (prB a n k)):=rfl
theorem pPrtS_ok (hP:PrgOk P) (args p r) (he:pPrtS args=some (p,r)) (hp:p):CSpec P 28 args r:=by
 unfold pPrtS at he
 split at he
 · simp only [Option.bind_eq_some_iff,Option.some.injEq,Prod.mk.injEq] at he
   obtain ⟨a,h1,n,h2,rfl,rfl⟩:=he
   rw [rawV_inv h1,cells3_inv h2]
   exact pPrt_spec hP a n _ hp
 · simp at he
attribute [go_sem] pPrtS_eq
open Classical in
noncomputable def crB (a b c d:V3):Bool:=decide (CrE a b c d)
open Classical in
theorem crB_iff (a b c d:V3):crB a b c d=true ↔ CrE a b c d:=by unfold crB; exact decide_eq_true_iff
theorem crB_1 {a b c d:V3} (h:Btw a c b∨Btw a d b∨Btw c a d∨Btw c b d):crB a b c d=true:=by
 rw [crB_iff]; unfold CrE
 rcases h with h|h|h|h
 · exact .inl h
 · exact .inr (.inl h)
 · exact .inr (.inr (.inl h))
 · exact .inr (.inr (.inr (.inl h)))
theorem crB_2 {a b c d:V3} (h1:¬ Btw a c b) (h2:¬ Btw a d b) (h3:¬ Btw c a d) (h4:¬ Btw c b d):crB a b c d=true ↔ (crN a b c d ≠ v0∧vdt (vsb c a) (crN a b c d)=0∧prt (vcr (vsb c a) (vsb d c)) (crN a b c d)∧prt (vcr (vsb c a) (vsb b a)) (crN a b c d)):=by
 rw [crB_iff]; unfold CrE
 simp only [h1,h2,h3,h4,false_or]
theorem btF {a p b:V3} (h:btB a p b=false):¬ Btw a p b:=fun k=>by rw [(btB_iff ..).2 k] at h; cases h
theorem pCrs_spec (hP:PrgOk P) (a:V3) (b:V3) (c:V3) (d:V3) (hpre:fV a 4096∧fV b 4096∧fV c 4096∧fV d 4096):CSpec P 12 [(.agg [.opq (.frac (a.1)),.pad,.pad,.pad,.pad,.opq (.frac (a.2.1)),.pad,.pad,.pad,.pad,.opq (.frac (a.2.2)),.pad,.pad,.pad,.pad]),(.agg [.opq (.frac (b.1)),.pad,.pad,.pad,.pad,.opq (.frac (b.2.1)),.pad,.pad,.pad,.pad,.opq (.frac (b.2.2)),.pad,.pad,.pad,.pad]),(.agg [.opq (.frac (c.1)),.pad,.pad,.pad,.pad,.opq (.frac (c.2.1)),.pad,.pad,.pad,.pad,.opq (.frac (c.2.2)),.pad,.pad,.pad,.pad]),(.agg [.opq (.frac (d.1)),.pad,.pad,.pad,.pad,.opq (.frac (d.2.1)),.pad,.pad,.pad,.pad,.opq (.frac (d.2.2)),.pad,.pad,.pad,.pad])] (.bool (crB a b c d)):=by
 have HE:=EnvOk.add (Kt8_all hP TF hP.tF) (pPrtS_ok hP)
 obtain ⟨ha,hb,hc,hd⟩:=hpre
 have B:=(⟨i16 ha (by decide),i16 hb (by decide),i16 hc (by decide),i16 hd (by decide),i52 ha (by decide),i52 hb (by decide),i52 hc (by decide),i52 hd (by decide),bf ha (by decide),bf hb (by decide),bf hc (by decide),bf hd (by decide)⟩:_∧_∧_∧_∧_∧_∧_∧_∧_∧_∧_∧_)
 obtain ⟨q1,e1⟩:∃ q,btB a c b=q:=⟨_,rfl⟩
 obtain ⟨q2,e2⟩:∃ q,btB a d b=q:=⟨_,rfl⟩
 obtain ⟨q3,e3⟩:∃ q,btB c a d=q:=⟨_,rfl⟩
 obtain ⟨q4,e4⟩:∃ q,btB c b d=q:=⟨_,rfl⟩
 have k1:btB (a.1,a.2.1,a.2.2) (c.1,c.2.1,c.2.2) (b.1,b.2.1,b.2.2)=q1:=e1
 have k2:btB (a.1,a.2.1,a.2.2) (d.1,d.2.1,d.2.2) (b.1,b.2.1,b.2.2)=q2:=e2
 have k3:btB (c.1,c.2.1,c.2.2) (a.1,a.2.1,a.2.2) (d.1,d.2.1,d.2.2)=q3:=e3
 have k4:btB (c.1,c.2.1,c.2.2) (b.1,b.2.1,b.2.2) (d.1,d.2.1,d.2.2)=q4:=e4
 refine CSpec_go (E:=⟨TF,(addS Kt8 28 pPrtS)⟩) (fn12 hP) HE hP.mix ?_
 cases q1
 case true =>
  rw [crB_1 (.inl ((btB_iff ..).1 e1))]
  simp only [go_sem,B,k1]
  exact fin_z
 cases q2
 case true =>
  rw [crB_1 (.inr (.inl ((btB_iff ..).1 e2)))]
  simp only [go_sem,B,k1,k2]
  exact fin_z
 cases q3
 case true =>
  rw [crB_1 (.inr (.inr (.inl ((btB_iff ..).1 e3))))]
  simp only [go_sem,B,k1,k2,k3]
  exact fin_z
 cases q4
 case true =>
  rw [crB_1 (.inr (.inr (.inr ((btB_iff ..).1 e4))))]
  simp only [go_sem,B,k1,k2,k3,k4]
  exact fin_z
 have key:=crB_2 (btF e1) (btF e2) (btF e3) (btF e4)
 rw [← vsbq_vsb c a,← vsbq_vsb d c,← vsbq_vsb b a,show crN a b c d=vcq (vsbq b a) (vsbq d c) by unfold crN; rw [vcq_vcr,vsbq_vsb,vsbq_vsb],← vcq_vcr,← vcq_vcr,← qdt_vdt] at key
 obtain ⟨u,hu⟩:∃ zz,vsbq b a=zz:=⟨_,rfl⟩
 have fu:=vsbq_fV hb ha
 rw [hu] at fu
 obtain ⟨v,hv⟩:∃ zz,vsbq d c=zz:=⟨_,rfl⟩
 have fv:=vsbq_fV hd hc
 rw [hv] at fv
 obtain ⟨w,hw⟩:∃ zz,vsbq c a=zz:=⟨_,rfl⟩
 have fw:=vsbq_fV hc ha
 rw [hw] at fw
 rw [hu,hv,hw] at key
 obtain ⟨n,hn⟩:∃ zz,vcq u v=zz:=⟨_,rfl⟩
 have fn:=vcq_fV fu fv
 rw [hn] at fn
 rw [hn] at key
 obtain ⟨t,ht⟩:∃ zz,qdt w n=zz:=⟨_,rfl⟩
 have ft:=qdt_fl fw fn
 rw [ht] at ft
 rw [ht] at key
 obtain ⟨x,hx⟩:∃ zz,vcq w v=zz:=⟨_,rfl⟩
 have fx:=vcq_fV fw fv
 rw [hx] at fx
 obtain ⟨y,hy⟩:∃ zz,vcq w u=zz:=⟨_,rfl⟩
 have fy:=vcq_fV fw fu
 rw [hy] at fy
 rw [hx,hy] at key
 have kt:qdt (w.1,w.2.1,w.2.2) (n.1,n.2.1,n.2.2)=t:=ht
 have kz:decide (((n.1,n.2.1,n.2.2):V3)=v0)=decide (n=v0):=rfl
 have C:=(⟨bt fu (by decide),bt fv (by decide),bt fw (by decide),bt fn (by decide),bt fx (by decide),bt fy (by decide),ks ft (by decide),b16 fn (by decide),b16 fx (by decide),b16 fy (by decide),bx fu (by decide),bx fv (by decide),bx fw (by decide)⟩:_∧_∧_∧_∧_∧_∧_∧_∧_∧_∧_∧_∧_)
 have S:=(⟨vsbq_c hu,vsbq_c hv,vsbq_c hw,vcq_c hn,vcq_c hx,vcq_c hy,kt,kz⟩:_∧_∧_∧_∧_∧_∧_∧_)
 by_cases z:n=v0
 · have kr:crB a b c d=false:=by rw [Bool.eq_false_iff]; exact fun h=>(key.1 h).1 z
   rw [kr]
   simp only [go_sem,B,C,S,k1,k2,k3,k4,decide_eq_true z]
   exact fin_z
 by_cases o:t=0
 case neg =>
  have kr:crB a b c d=false:=by rw [Bool.eq_false_iff]; exact fun h=>o (key.1 h).2.1
  have ko:(cmpQ t 0 == 0)=false:=by rw [cmpQ_z]; exact decide_eq_false o
  rw [kr]
  simp only [go_sem,B,C,S,k1,k2,k3,k4,decide_eq_false z,bne,ko]
  exact fin_z
 have ko:(cmpQ t 0 == 0)=true:=by rw [cmpQ_z]; exact decide_eq_true o
 obtain ⟨m,hm⟩:∃ zz,qdt n n=zz:=⟨_,rfl⟩
 have fm:=qdt_fl fn fn
 rw [hm] at fm
 have hm':vdt n n=m:=by rw [← qdt_vdt,hm]
 have kn:qdt (n.1,n.2.1,n.2.2) (n.1,n.2.1,n.2.2)=m:=hm
 obtain ⟨r1,d1⟩:∃ r,prB x n m=r:=⟨_,rfl⟩
 obtain ⟨r2,d2⟩:∃ r,prB y n m=r:=⟨_,rfl⟩
 have kr:crB a b c d=(r1 && r2):=by
  rw [Bool.eq_iff_iff,key,← prB_iff,← prB_iff,hm',d1,d2,Bool.and_eq_true]
  exact ⟨fun h=>h.2.2,fun h=>⟨z,o,h⟩⟩
 have j1:prB (x.1,x.2.1,x.2.2) (n.1,n.2.1,n.2.2) m=r1:=d1
 have j2:prB (y.1,y.2.1,y.2.2) (n.1,n.2.1,n.2.2) m=r2:=d2
 have fm':fl m≤FB:=Nat.le_trans fm (by decide)
 rw [kr]
 cases r1
 · simp only [go_sem,B,C,S,k1,k2,k3,k4,decide_eq_false z,bne,ko,kn,fm',j1]
   exact fin_z
 · simp only [go_sem,B,C,S,k1,k2,k3,k4,decide_eq_false z,bne,ko,kn,fm',j1,j2,Bool.true_and]
   exact fin_z
noncomputable def pCrsS:List AV→Option (Prop × AV)
 | [x0,x1,x2,x3]=>(rawV x0).bind fun a=>(rawV x1).bind fun b=>(rawV x2).bind fun c=>(rawV x3).bind fun d=>some ((fV a 4096∧fV b 4096∧fV c 4096∧fV d 4096),.bool (crB a b c d))
 | _=>none
theorem pCrsS_eq (x0 x1 x2 x3):pCrsS [x0,x1,x2,x3]=(rawV x0).bind fun a=>(rawV x1).bind fun b=>(rawV x2).bind fun c=>(rawV x3).bind fun d=>some ((fV a 4096∧fV b 4096∧fV c 4096∧fV d 4096),.bool (crB a b c d)):=rfl
theorem pCrsS_ok (hP:PrgOk P) (args p r) (he:pCrsS args=some (p,r)) (hp:p):CSpec P 12 args r:=by
 unfold pCrsS at he
 split at he
 · simp only [Option.bind_eq_some_iff,Option.some.injEq,Prod.mk.injEq] at he
   obtain ⟨a,hha,b,hhb,c,hhc,d,hhd,rfl,rfl⟩:=he
   rw [rawV_inv hha,rawV_inv hhb,rawV_inv hhc,rawV_inv hhd]
   exact pCrs_spec hP a b c d hp
 · simp at he
attribute [go_sem] pCrsS_eq
noncomputable def Kt9:Nat→List AV→Option (Prop × AV):=addS Kt8 12 pCrsS
theorem Kt9_all (hP:PrgOk P) (T) (hT:TyOk P T):EnvOk P ⟨T,Kt9⟩:=((Kt8_all hP T hT).add (pCrsS_ok hP))
theorem Kt9_at (f a):Kt9 f a=(addS Kt8 12 pCrsS) f a:=rfl
attribute [go_sem] Kt9_at
end Go.Proofs.Ytapddfjimhohcaa.AM
