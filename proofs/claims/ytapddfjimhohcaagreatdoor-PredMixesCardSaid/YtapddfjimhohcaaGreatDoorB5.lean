/- Package nat: quotients and rests. -/
import Derived.Test.YtapddfjimhohcaaGreatDoorB4
namespace Go.Proofs.YtapddfjimhohcaaGreatDoor.AM
set_option linter.all false
set_option autoImplicit true
set_option relaxedAutoImplicit true
open Go Go.Proofs
set_option maxRecDepth 100000
set_option maxHeartbeats 8000000
set_option linter.unusedSimpArgs false
variable {P:Program}
def longC (n m:Nat) (a b:List Nat):Prop:=n=a.length∧m=b.length∧(∀ d ∈ a,d<18446744073709551616)∧(∀ d ∈ b,d<18446744073709551616)∧2≤b.length∧b.length≤a.length∧a.length+1≤1099511627776∧b.getD (b.length-1) 0 ≠ 0
noncomputable def longS:List AV→Option (Prop × AV)
 | [.imm n xs,.imm m ys]=>some ((xs=(List.map (fun d:Nat=>AV.int .u64 (d:Int)) (xs.map ud))∧ys=(List.map (fun d:Nat=>AV.int .u64 (d:Int)) (ys.map ud)))∧longC n m (xs.map ud) (ys.map ud),.tup [(.agg [.opq (.nat (dOf 18446744073709551616 (xs.map ud) / dOf 18446744073709551616 (ys.map ud))),.pad]),(.agg [.opq (.nat (dOf 18446744073709551616 (xs.map ud) % dOf 18446744073709551616 (ys.map ud))),.pad])])
 | _=>none
theorem longS_ok (hP:PrgOk P) (args p r) (h:longS args=some (p,r)) (hp:p):CSpec P 124 args r:=by
 unfold longS at h
 split at h
 · simp only [Option.some.injEq,Prod.mk.injEq] at h
   obtain ⟨rfl,rfl⟩:=h
   exact (by rename_i n xs m ys; obtain ⟨⟨a1,a2⟩,b1,b2,b3,b4,b5,b6,b7,b8⟩:=hp; have:=long_spec hP _ _ b3 b4 b5 b6 b7 b8; rw [← a1,← a2,← b1,← b2] at this; exact this)
 · simp at h
attribute [go_sem] longS
noncomputable def Se:Nat→List AV→Option (Prop × AV):=addS Sd 124 longS
theorem Se_ok (hP:PrgOk P):EnvOk P ⟨T0,Se⟩:=((Sd_ok hP).add (longS_ok hP))
theorem Se_at (f a):Se f a=(addS Sd 124 longS) f a:=rfl
attribute [go_sem] Se_at
theorem Div_zero (hP:PrgOk P) (a:Nat):CSpec P 100 [(.agg [.opq (.nat (a)),.pad]),(.agg [.opq (.nat (0)),.pad])] (.tup [(.agg [.opq (.nat (0)),.pad]),(.agg [.opq (.nat (0)),.pad]),.int .i64 11]):=by
 have HE:=Se_ok hP
 have hb:blen 0≤68719476736:=by decide
 have hb2:blen 0=0:=by decide
 have e0:natC 0=[.int .u64 0,.nils]:=natC_small (by decide)
 have e:CvL [.agg [.int .u64 0,.nils],.agg [.int .u64 0,.nils],.int .i64 11] [(.agg [.opq (.nat (0)),.pad]),(.agg [.opq (.nat (0)),.pad]),.int .i64 11]:=by
  have:=CvL.natOut 0 (CvL.natOut 0 (CvL.refl [.int .i64 11]))
  rwa [e0] at this
 refine CSpec_go (E:=⟨T0,Se⟩) (fn100 hP) HE hP.mix ?_
 simp only [go_sem,hb,hb2]
 exact CvL.conv (CvL.tup e .nil)
theorem Div_less (hP:PrgOk P) (a b:Nat) (ha:blen a≤68719476736) (hb:blen b≤68719476736) (h:a<b):CSpec P 100 [(.agg [.opq (.nat (a)),.pad]),(.agg [.opq (.nat (b)),.pad])] (.tup [(.agg [.opq (.nat (0)),.pad]),(.agg [.opq (.nat (a)),.pad]),.int .i64 0]):=by
 have HE:=Se_ok hP
 have hb2:(blen b == 0)=false:=by
  have:blen b ≠ 0:=by rw [Ne,blen_zero_iff]; omega
  simpa using this
 have hc:decide (cmpI a b<0)=true:=by rw [cmpI_lt h]; rfl
 have e0:natC 0=[.int .u64 0,.nils]:=natC_small (by decide)
 have e:CvL [.agg [.int .u64 0,.nils],(.agg [.opq (.nat (a)),.pad]),.int .i64 0] [(.agg [.opq (.nat (0)),.pad]),(.agg [.opq (.nat (a)),.pad]),.int .i64 0]:=by
  have:=CvL.natOut 0 (CvL.refl [(.agg [.opq (.nat (a)),.pad]),.int .i64 0])
  rwa [e0] at this
 refine CSpec_go (E:=⟨T0,Se⟩) (fn100 hP) HE hP.mix ?_
 simp only [go_sem,ha,hb,hb2,hc]
 exact CvL.conv (CvL.tup e .nil)
theorem cmp_ge {a b:Nat} (h:b≤a):decide (cmpI a b<0)=false:=by
 rcases Nat.lt_or_ge b a with h'|h'
 · rw [cmpI_gt h']; rfl
 · rw [Nat.le_antisymm h h',cmpI_eq]; rfl
theorem divmod_of {W A y c:Nat} (h:W*y+c=A) (hc:c<y):W=A / y∧c=A % y:=by
 have h1:A / y=W:=by rw [← h,Nat.mul_comm,Nat.mul_add_div (by omega),Nat.div_eq_of_lt hc,Nat.add_zero]
 have h2:A % y=c:=by rw [← h,Nat.mul_comm,Nat.mul_add_mod,Nat.mod_eq_of_lt hc]
 exact ⟨h1.symm,h2.symm⟩
theorem Div_pos (hP:PrgOk P) (a b:Nat) (ha:blen a≤68719476736) (hb:blen b≤68719476736) (h0:0<b) (h:b≤a):CSpec P 100 [(.agg [.opq (.nat (a)),.pad]),(.agg [.opq (.nat (b)),.pad])] (.tup [(.agg [.opq (.nat (a / b)),.pad]),(.agg [.opq (.nat (a % b)),.pad]),.int .i64 0]):=by
 have HE:=Se_ok hP
 have hb2:(blen b == 0)=false:=by
  have:blen b ≠ 0:=by rw [Ne,blen_zero_iff]; omega
  simpa using this
 have hc:=cmp_ge h
 refine CSpec.cv ?_ (CvL.natIn a (CvL.natIn b .nil))
 by_cases hb1:b<18446744073709551616
 · by_cases ha1:a<18446744073709551616
   · rw [natC_small ha1,natC_small hb1]
     have hq:=wu_div a b ha1
     have hr:=u_mod a b
     have hqb:a / b<18446744073709551616:=Nat.lt_of_le_of_lt (Nat.div_le_self _ _) ha1
     have hrb:a % b<18446744073709551616:=Nat.lt_of_le_of_lt (Nat.mod_le _ _) ha1
     have e:CvL [.agg [.int .u64 ((a / b:Nat):Int),.nils],.agg [.int .u64 ((a % b:Nat):Int),.nils],.int .i64 0] [(.agg [.opq (.nat (a / b)),.pad]),(.agg [.opq (.nat (a % b)),.pad]),.int .i64 0]:=by
      have:=CvL.natOut (a / b) (CvL.natOut (a % b) (CvL.refl [.int .i64 0]))
      rwa [natC_small hqb,natC_small hrb] at this
     refine CSpec_go (E:=⟨T0,Se⟩) (fn100 hP) HE hP.mix ?_
     simp only [go_sem,ha,hb,ha1,hb1,hb2,hc,hq,hr]
     exact ⟨by omega,by omega,CvL.conv (CvL.tup e .nil)⟩
   · rw [natC_great ha1,natC_small hb1]
     have hxd:∀ d ∈ digs 18446744073709551616 a,d<18446744073709551616:=digs_lt 18446744073709551616 a (by decide)
     have hx:=dOf_digs 18446744073709551616 a (by decide)
     have hlx:=digs_len_blen a
     have hl:=digs_length_gt 18446744073709551616 a 1 (by decide) (by omega)
     have hl2:2≤(digs 18446744073709551616 a).length:=by omega
     have hl3:((digs 18446744073709551616 a).length ≠ 0)=True:=eq_true (by omega)
     refine CSpec_go (E:=⟨T0,Se⟩) (fn100 hP) HE hP.mix ?_
     simp only [go_sem,ha,hb,hb1,hb2,hc,hl2,hl3]
     generalize digs 18446744073709551616 a=x at *
     refine ⟨⟨fun _=>by omega,by omega⟩,?_⟩
     refine short_ic hP (L:=[24,3,2,1,0]) (tail:=[]) (w:=x) (by repeat (first|exact GenM.nil|refine GenM.upd ?_ rfl (by first|rfl|exact objOnly_U|(simp only [go_sem,objOnly]; done)))) rfl (by rw [List.append_nil]; rfl) rfl (by omega) hxd hb1 h0 ?_
     intro nx w' c w1 w2 w3 w4
     have hwt:w'.take x.length=w':=List.take_of_length_le (by omega)
     have hz3:(∀ d ∈ w',d<18446744073709551616)=True:=eq_true w2
     have hsl:x.length<4611686018427387904:=by omega
     rw [List.append_nil]
     simp only [go_sem,hwt,hz3,w1,hsl]
     have hdm:=divmod_of w4 w3
     rw [hx] at hdm
     have e:CvL [(.agg [.opq (.nat (dOf 18446744073709551616 w')),.pad]),.agg [.int .u64 ((c:Nat):Int),.nils],.int .i64 0] [(.agg [.opq (.nat (a / b)),.pad]),(.agg [.opq (.nat (a % b)),.pad]),.int .i64 0]:=by
      have:=CvL.natOut c (CvL.refl [.int .i64 0])
      rw [natC_small (show c<18446744073709551616 by omega)] at this
      rw [← hdm.2,hdm.1]
      exact CvL.agg (.refl _) this
     exact CvL.conv (CvL.tup e .nil)
 · have ha1:¬ a<18446744073709551616:=by omega
   rw [natC_great ha1,natC_great hb1]
   have hxd:∀ d ∈ digs 18446744073709551616 a,d<18446744073709551616:=digs_lt 18446744073709551616 a (by decide)
   have hyd:∀ d ∈ digs 18446744073709551616 b,d<18446744073709551616:=digs_lt 18446744073709551616 b (by decide)
   have hx:=dOf_digs 18446744073709551616 a (by decide)
   have hy:=dOf_digs 18446744073709551616 b (by decide)
   have hlx:=digs_len_blen a
   have hl:=digs_length_gt 18446744073709551616 a 1 (by decide) (by omega)
   have hm:=digs_length_gt 18446744073709551616 b 1 (by decide) (by omega)
   have hl2:2≤(digs 18446744073709551616 a).length:=by omega
   have hl3:((digs 18446744073709551616 a).length ≠ 0)=True:=eq_true (by omega)
   have hm2:2≤(digs 18446744073709551616 b).length:=by omega
   have hm3:((digs 18446744073709551616 b).length ≠ 0)=True:=eq_true (by omega)
   have hle:(digs 18446744073709551616 b).length≤(digs 18446744073709551616 a).length:=by
    rcases Nat.lt_or_ge (digs 18446744073709551616 a).length (digs 18446744073709551616 b).length with h'|h'
    · have:=digs_len_lt 18446744073709551616 a b (by decide) h'; omega
    · exact h'
   have htop:=canon_last (digs_canon 18446744073709551616 b (by decide)) (by omega)
   refine CSpec_go (E:=⟨T0,Se⟩) (fn100 hP) HE hP.mix ?_
   simp only [go_sem,ha,hb,hb2,hc,hl2,hl3,hm2,hm3]
   refine ⟨⟨rfl,rfl,hxd,hyd,hm2,hle,by omega,htop⟩,?_⟩
   exact .refl _
theorem Div_spec (hP:PrgOk P) (a b:Nat) (ha:blen a≤68719476736) (hb:blen b≤68719476736) (h0:0<b):CSpec P 100 [(.agg [.opq (.nat (a)),.pad]),(.agg [.opq (.nat (b)),.pad])] (.tup [(.agg [.opq (.nat (a / b)),.pad]),(.agg [.opq (.nat (a % b)),.pad]),.int .i64 0]):=by
 rcases Nat.lt_or_ge a b with h|h
 · rw [Nat.div_eq_of_lt h,Nat.mod_eq_of_lt h]; exact Div_less hP a b ha hb h
 · exact Div_pos hP a b ha hb h0 h
def DivS:List AV→Option (Prop × AV):=on2 fun a b=>(blen a≤68719476736∧blen b≤68719476736,if b=0 then .tup [(.agg [.opq (.nat (0)),.pad]),(.agg [.opq (.nat (0)),.pad]),.int .i64 11] else .tup [(.agg [.opq (.nat (a / b)),.pad]),(.agg [.opq (.nat (a % b)),.pad]),.int .i64 0])
theorem DivS_ok (hP:PrgOk P) (args p r):DivS args=some (p,r)→p→CSpec P 100 args r:=on2_ok (fun a b h=>by
 by_cases hb:b=0
 · subst hb; simp only [if_pos]; exact Div_zero hP a
 · simp only [if_neg hb]; exact Div_spec hP a b h.1 h.2 (by omega)) args p r
attribute [go_sem] DivS
end Go.Proofs.YtapddfjimhohcaaGreatDoor.AM
/- Loops whose objects change their numbers. -/
namespace Go.Proofs.YtapddfjimhohcaaGreatDoor.AM
set_option linter.all false
set_option autoImplicit true
set_option relaxedAutoImplicit true
open Go Go.Proofs
set_option maxRecDepth 100000
set_option linter.unusedSimpArgs false
section
variable {P:Program} {E:Env} {s:St} {Q:Exit→Nat→St→Prop} {nx:Nat} {tr:TriT} {ic:ICallT}
def loopV {α:Type} (LL:α→List Nat) (F:α→St) (I:α→Prop) (μ:α→Nat) (n:Nat) (Q:Exit→Nat→St→Prop):Exit→Nat→St→Prop
 | .normal,_,s=>∃ x,Kept (LL x) s (F x)∧I x∧μ x<n
 | e,nx,s=>Q e nx s
theorem Tri_loopV {α:Type} {c:Code} (LL:α→List Nat) (F:α→St) (I:α→Prop) (μ:α→Nat) (x0:α) (hL:∀ x r,s.m r ≠ .unused→(LL x).contains r=true) (h0:Kept (LL x0) s (F x0)) (i0:I x0)
 (hr:∀ x,I x→Tri P c (loopV LL F I μ (μ x) Q) (F x)):Tri P (.loop c) Q s:=by
 intro X φ a w R
 have hφ:∀ r,s.m r = .unused→φ r=none:=fun r h=>R.mem.unused h
 let p:Act→World→Nat→Prop:=fun a' w' k=>∃ x φ1,I x∧μ x=k∧Rel X φ1 (F x) a' w'∧Stp X φ s.m w φ1 (F x).m w'
 obtain ⟨φ0,r0,st0⟩:=kept_rel R h0 (.refl _ _ _ _) (hL x0) hφ
 refine wp_loop (fun a' w'=>∃ k,p a' w' k) (fun a' w'=>leastOf (p a' w')) ⟨_,x0,φ0,i0,rfl,r0,st0⟩ fun a' w' hI=>?_
 obtain ⟨⟨x,φ1,i1,hk,r1,st1⟩,_⟩:=leastOf_spec hI
 refine Code.wp_mono ?_ (hr x i1 X φ1 a' w' r1)
 rintro e a2 w2 ⟨nx,s2,φ2,q,r2,st2⟩
 cases e with
 | normal =>
   obtain ⟨x3,k3,i3,hlt⟩:=q
   obtain ⟨φ3,r3,st3⟩:=kept_rel r2 k3 (st1.trans st2) (hL x3) hφ
   have hp:p a2 w2 (μ x3):=⟨x3,φ3,i3,rfl,r3,st3⟩
   refine ⟨⟨_,hp⟩,?_⟩
   have:=(leastOf_spec ⟨_,hp⟩).2 _ hp
   omega
 | _=>exact ⟨nx,s2,φ2,q,r2,st1.trans st2⟩
theorem q_loopV_normal {α:Type} (LL:α→List Nat) (F:α→St) (I:α→Prop) (μ:α→Nat) (n):qX .normal nx s (Q:=⟨loopV LL F I μ n Q⟩)=∃ x,Kept (LL x) s (F x)∧I x∧μ x<n:=rfl
theorem q_loopV_exit {α:Type} (LL:α→List Nat) (F:α→St) (I:α→Prop) (μ:α→Nat) (n i):qX (.exit i) nx s (Q:=⟨loopV LL F I μ n Q⟩)=qX (.exit i) nx s (Q:=⟨Q⟩):=rfl
theorem q_loopV_ret {α:Type} (LL:α→List Nat) (F:α→St) (I:α→Prop) (μ:α→Nat) (n):qX .ret nx s (Q:=⟨loopV LL F I μ n Q⟩)=qX .ret nx s (Q:=⟨Q⟩):=rfl
theorem trX_loopV {α:Type} {c:Code} (HE:EnvOk P E) (hmix:P.follows .mixedOrders=true) (LL:α→List Nat) (F:α→St) (I:α→Prop) (μ:α→Nat) (x0:α) (nx0:α→Nat) (hL:∀ x r,s.m r ≠ .unused→(LL x).contains r=true) (h0:Kept (LL x0) s (F x0)) (i0:I x0) (N:Nat) (hN:regsOk N c=true)
 (hr:∀ x,I x→vcX (Tri P) (ICall P) E N c (nx0 x) (F x) (Q:=⟨loopV LL F I μ (μ x) Q⟩)):trX (Tri P) (.loop c) s (Q:=⟨Q⟩) :=
 Tri_loopV LL F I μ x0 hL h0 i0 fun x ix=>vc_sound HE hmix N c _ (nx0 x) _ hN (hr x ix)
def CvM (m m':Nat→AObj):Prop:=∀ r,m' r=m r∨∃ cs cs',m r = .live cs∧m' r = .live cs'∧CvL cs cs'∧cs'.length=cs.length∧cs'.all AV.ck=true
theorem CvM.refl (m):CvM m m:=fun _=>.inl rfl
theorem CvM.upd {m m':Nat→AObj} (h:CvM m m') {r:Nat} {cs cs':List AV} (hc:CvL cs cs') (hl:cs'.length=cs.length) (hk:cs'.all AV.ck=true):CvM (AM.upd m r (.live cs)) (AM.upd m' r (.live cs')):=fun q=>by
 unfold AM.upd; split
 · exact .inr ⟨cs,cs',rfl,rfl,hc,hl,hk⟩
 · exact h q
theorem CvM.same {m m':Nat→AObj} (h:CvM m m') (r:Nat) (o:AObj):CvM (AM.upd m r o) (AM.upd m' r o):=fun q=>by
 unfold AM.upd; split
 · exact .inl rfl
 · exact h q
theorem CvM.wr {m m':Nat→AObj} (h:CvM m m') (X φ):Wr X φ m'=Wr X φ m:=by
 funext b
 simp only [Wr,eq_iff_iff]
 refine or_congr Iff.rfl ⟨?_,?_⟩
 · rintro ⟨r,cs,h1,h2⟩
   rcases h r with h3|⟨c1,c2,h3,_⟩
   · exact ⟨r,cs,h1,by rw [← h3]; exact h2⟩
   · exact ⟨r,c1,h1,h3⟩
 · rintro ⟨r,cs,h1,h2⟩
   rcases h r with h3|⟨c1,c2,_,h3,_⟩
   · exact ⟨r,cs,h1,by rw [h3]; exact h2⟩
   · exact ⟨r,c2,h1,h3⟩
theorem CvM.rel {m m':Nat→AObj} (h:CvM m m') {X φ t n a w} (R:Rel X φ ⟨t,m,n⟩ a w):Rel X φ ⟨t,m',n⟩ a w:=by
 have hW:=h.wr X φ
 refine ⟨fun i hi=>?_,R.df,R.n,⟨fun r=>?_,R.mem.inj,R.mem.ext,R.mem.xlt⟩⟩
 · rw [hW]; exact R.tm i hi
 · have:=R.mem.obj r
   simp only [] at this ⊢
   rw [hW]
   rcases h r with h3|⟨cs,cs',h1,h2,h3,h4,h5⟩
   · rw [h3]; exact this
   · rw [h1] at this; rw [h2]
     obtain ⟨b,hb,c,e,k1,k2,k3,k4⟩:=this
     exact ⟨b,hb,c,e,k1,by rw [h4]; exact k2,by rw [h4]; exact h3 _ _ _ _ k3,h5⟩
theorem Tri_cv {c:Code} {t:Nat→AV} {m m':Nat→AObj} {n:Nat} (h:CvM m m') (k:Tri P c Q ⟨t,m',n⟩):Tri P c Q ⟨t,m,n⟩:=by
 intro X φ a w R
 refine Code.wp_mono ?_ (k X φ a w (h.rel R))
 rintro e a2 w2 ⟨nx,s2,φ2,q,r2,st2⟩
 have hW:=h.wr X φ
 refine ⟨nx,s2,φ2,q,r2,?_⟩
 obtain ⟨e1,f1⟩:=st2
 simp only [] at e1
 rw [hW] at e1
 exact ⟨e1,f1⟩
theorem Tri_vcX {c:Code} (HE:EnvOk P E) (hmix:P.follows .mixedOrders=true) (N nx:Nat) (hN:regsOk N c=true) (h:vcX (Tri P) (ICall P) E N c nx s (Q:=⟨Q⟩)):Tri P c Q s:=vc_sound HE hmix N c _ nx _ hN h
theorem trX_loopT {α:Type} {c:Code} (L:List Nat) (F:α→St) (I:α→Prop) (μ:α→Nat) (x0:α) (hL:∀ r,s.m r ≠ .unused→L.contains r=true) (h0:Kept L s (F x0)) (i0:I x0)
 (hr:∀ x,I x→Tri P c (loopR L F I μ (μ x) Q) (F x)):trX (Tri P) (.loop c) s (Q:=⟨Q⟩):=Tri_loopR L F I μ x0 hL h0 i0 hr
end
attribute [go_sem] q_loopV_normal q_loopV_exit q_loopV_ret
end Go.Proofs.YtapddfjimhohcaaGreatDoor.AM
/- Package nat: the greatest divisor. -/
namespace Go.Proofs.YtapddfjimhohcaaGreatDoor.AM
set_option linter.all false
set_option autoImplicit true
set_option relaxedAutoImplicit true
open Go Go.Proofs
set_option maxRecDepth 100000
set_option maxHeartbeats 8000000
set_option linter.unusedSimpArgs false
variable {P:Program}
noncomputable def Sf:Nat→List AV→Option (Prop × AV):=addS (addS Se 100 DivS) 102 SubS
theorem Sf_ok (hP:PrgOk P):EnvOk P ⟨T0,Sf⟩:=(((Se_ok hP).add (DivS_ok hP)).add (SubS_ok hP))
theorem Sf_at (f a):Sf f a=(addS (addS Se 100 DivS) 102 SubS) f a:=rfl
attribute [go_sem] Sf_at
theorem gcd_step (a b:Nat):Nat.gcd a b=Nat.gcd b (a % b):=by rw [Nat.gcd_comm a b,Nat.gcd_rec b a,Nat.gcd_comm]
theorem natC_ck (a:Nat):(natC a).all AV.ck=true:=by
 by_cases h:a<18446744073709551616
 · rw [natC_small h]; rfl
 · rw [natC_great h]; rfl
theorem natC_len (a:Nat):(natC a).length=2:=by
 by_cases h:a<18446744073709551616
 · rw [natC_small h]; rfl
 · rw [natC_great h]; rfl
theorem natC_only (a:Nat) {f}:onlyL f (natC a)=true:=by
 by_cases h:a<18446744073709551616
 · rw [natC_small h]; rfl
 · rw [natC_great h]; simp only [onlyL,AV.only,Bool.true_and,Bool.and_true]; exact only_U
theorem CvL.un (a:Nat):CvL [.opq (.nat a),.pad] (natC a):=by have:=CvL.unnat a []; simpa using this
def cel:Bool→Nat→List AV
 | true,x=>natC x
 | false,x=>[.opq (.nat x),.pad]
theorem CvL.cel (f:Bool) (a:Nat):CvL (cel f a) (natC a):=by
 cases f
 · exact CvL.un a
 · exact CvL.refl _
theorem CvL.lec (f:Bool) (a:Nat):CvL (AM.cel f a) [.opq (.nat a),.pad]:=by
 cases f
 · exact CvL.refl _
 · have:=CvL.nat a [] rfl; simpa [AM.cel] using this
theorem cel_len (f:Bool) (a:Nat):(cel f a).length=2:=by
 cases f
 · rfl
 · exact natC_len a
theorem Gcd_spec (hP:PrgOk P) (a b:Nat) (ha:blen a≤68719476736) (hb:blen b≤68719476736):CSpec P 98 [(.agg [.opq (.nat (a)),.pad]),(.agg [.opq (.nat (b)),.pad])] (.agg [.opq (.nat (Nat.gcd a b)),.pad]):=by
 have HE:=Sf_ok hP
 refine CSpec_go (E:=⟨T0,Sf⟩) (fn98 hP) HE hP.mix ?_
 simp only [go_sem]
 refine trX_loopT [2,1,0] (fun q:Nat × Nat × Bool=>⟨upd (upd (upd (fun _=>.junk) 2 (.ref 0 0)) 3 (.ref 1 0)) 4 (.ref 2 0),upd (upd (upd (fun _=>.unused) 0 (.live (cel q.2.2 q.1))) 1 (.live [.opq (.nat q.2.1),.pad])) 2 (.live [.int .u64 0,.nils]),43⟩)
  (fun q=>blen q.1≤68719476736∧blen q.2.1≤68719476736∧Nat.gcd q.1 q.2.1=Nat.gcd a b) (fun q=>q.2.1) (a,b,false)
  Has.z (Kept.of rfl KT.z KM.z) ⟨ha,hb,rfl⟩ ?_
 rintro ⟨x,y,f⟩ ⟨h1,h2,h3⟩
 simp only [] at h1 h2 h3
 by_cases hy:y=0
 · subst hy
   refine Tri_cv (m':=upd (upd (upd (fun _=>.unused) 0 (.live [.opq (.nat x),.pad])) 1 (.live [.opq (.nat 0),.pad])) 2 (.live [.int .u64 0,.nils])) ((((CvM.refl _).upd (CvL.lec f x) (cel_len f x).symm rfl).same _ _).same _ _) ?_
   refine Tri_vcX HE hP.mix 43 10 (by kernel_rfl) ?_
   have hb0:blen 0=0:=by decide
   have hb1:blen 0≤68719476736:=by decide
   simp only [go_sem,hb0,hb1]
   rw [Nat.gcd_zero_right] at h3
   rw [h3]; exact .refl _
 · have hyp:0<y:=by omega
   have hbp:0<blen y:=by
    have:blen y ≠ 0:=by rw [Ne,blen_zero_iff]; exact hy
    omega
   have hyz:(y=0)=False:=eq_false hy
   refine Tri_cv (m':=upd (upd (upd (fun _=>.unused) 0 (.live (natC x))) 1 (.live (natC y))) 2 (.live [.int .u64 0,.nils])) (((CvM.refl _).upd (CvL.cel f x) ((natC_len x).trans (cel_len f x).symm) (natC_ck x)).upd (CvL.un y) (natC_len y) (natC_ck y) |>.same _ _) ?_
   refine Tri_vcX HE hP.mix 43 10 (by kernel_rfl) ?_
   by_cases hxs:x<18446744073709551616
   · by_cases hys:y<18446744073709551616
     · rw [natC_small hxs,natC_small hys]
       simp only [go_sem,h2,hys,hbp]
       refine trX_loop HE hP.mix [2,1,0] (fun q:Nat × Nat=>⟨upd (upd (upd (fun _=>.junk) 4 (.ref 2 0)) 5 (.int .u64 (q.1:Int))) 6 (.int .u64 (q.2:Int)),upd (upd (upd (fun _=>.unused) 0 (.live [.int .u64 (x:Int),.nils])) 1 (.live [.int .u64 (y:Int),.nils])) 2 (.live [.int .u64 0,.nils]),43⟩)
        (fun q=>q.1<18446744073709551616∧q.2<18446744073709551616∧Nat.gcd q.1 q.2=Nat.gcd a b) (fun q=>q.2) (x,y) 10
        Has.z (Kept.of rfl KT.z KM.z) ⟨hxs,hys,h3⟩ 43 (by kernel_rfl) ?_
       rintro ⟨u,v⟩ ⟨k1,k2,k3⟩
       simp only [] at k1 k2 k3
       by_cases hv:0<v
       · have hm:=u_mod u v
         have hml:=Nat.mod_lt u hv
         simp only [go_sem,hv,hm]
         exact ⟨by omega,(v,u % v),Kept.of rfl KT.z KM.z,⟨k2,by simp only []; omega,by simp only []; rw [← gcd_step]; exact k3⟩,by simp only []; omega⟩
       · have hv0:v=0:=by omega
         subst hv0
         simp only [go_sem,hv]
         rw [Nat.gcd_zero_right] at k3
         rw [← k3]
         exact Conv.nat1 k1
     · have hm2:=digs_length_gt 18446744073709551616 y 1 (by decide) (by omega)
       have hm2:2≤(digs 18446744073709551616 y).length:=by omega
       have hm3:((digs 18446744073709551616 y).length ≠ 0)=True:=eq_true (by omega)
       rw [natC_small hxs,natC_great hys]
       simp only [go_sem,h1,h2,hm2,hm3,hxs,hbp,hyz]
       rw [← natC_great hys]
       have hml:=Nat.mod_lt x hyp
       have hcl:objOnly [2,1,0] (.live (natC y))=true:=by simp only [objOnly]; exact natC_only y
       refine ⟨(y,x % y,true),Kept.of rfl KT.z (KM.p (by repeat (first|exact KMp.nil|refine KMp.upd rfl (by first|rfl|exact hcl) ?_))),⟨h2,blen_le_of (Nat.le_of_lt hml) h2,by simp only []; rw [← gcd_step]; exact h3⟩,by simp only []; exact hml⟩
   · have hl2:=digs_length_gt 18446744073709551616 x 1 (by decide) (by omega)
     have hl2:2≤(digs 18446744073709551616 x).length:=by omega
     have hl3:((digs 18446744073709551616 x).length ≠ 0)=True:=eq_true (by omega)
     by_cases hys:y<18446744073709551616
     · rw [natC_great hxs,natC_small hys]
       simp only [go_sem,h1,h2,hl2,hl3,hys,hbp,hyz]
       rw [← natC_small hys]
       have hml:=Nat.mod_lt x hyp
       have hcl:objOnly [2,1,0] (.live (natC y))=true:=by simp only [objOnly]; exact natC_only y
       refine ⟨(y,x % y,true),Kept.of rfl KT.z (KM.p (by repeat (first|exact KMp.nil|refine KMp.upd rfl (by first|rfl|exact hcl) ?_))),⟨h2,blen_le_of (Nat.le_of_lt hml) h2,by simp only []; rw [← gcd_step]; exact h3⟩,by simp only []; exact hml⟩
     · have hm2:=digs_length_gt 18446744073709551616 y 1 (by decide) (by omega)
       have hm2:2≤(digs 18446744073709551616 y).length:=by omega
       have hm3:((digs 18446744073709551616 y).length ≠ 0)=True:=eq_true (by omega)
       rw [natC_great hxs,natC_great hys]
       simp only [go_sem,h1,h2,hl2,hl3,hm2,hm3,hbp,hyz]
       rw [← natC_great hys]
       have hml:=Nat.mod_lt x hyp
       have hcl:objOnly [2,1,0] (.live (natC y))=true:=by simp only [objOnly]; exact natC_only y
       refine ⟨(y,x % y,true),Kept.of rfl KT.z (KM.p (by repeat (first|exact KMp.nil|refine KMp.upd rfl (by first|rfl|exact hcl) ?_))),⟨h2,blen_le_of (Nat.le_of_lt hml) h2,by simp only []; rw [← gcd_step]; exact h3⟩,by simp only []; exact hml⟩
def GcdS:List AV→Option (Prop × AV):=on2 fun a b=>(blen a≤68719476736∧blen b≤68719476736,(.agg [.opq (.nat (Nat.gcd a b)),.pad]))
theorem GcdS_ok (hP:PrgOk P) (args p r):GcdS args=some (p,r)→p→CSpec P 98 args r:=on2_ok (fun a b h=>by exact Gcd_spec hP a b h.1 h.2) args p r
attribute [go_sem] GcdS
theorem strM_sl2 (T:Nat→Option TyD) (m:Nat→AObj) (e b b' z z' sz sz' r off n k):strM T m ⟨.slice e,sz,b,z⟩ ⟨.string,sz',b',z'⟩ (.sl r off n k)=if isU8 (T e)=true then (objCells (m r)).map fun cs=>(Cut cs off n∧k=1∧((cs.drop off).take n).all isB=true,.str (bytesS ((cs.drop off).take n))) else none:=rfl
attribute [go_sem] strM_sl2
abbrev OD:=Option (Bool × Bool)
def oNum:Bool × Bool→Nat
 | (false,false)=>110
 | (false,true)=>120
 | (true,false)=>130
 | (true,true)=>140
def oV:OD→Nat→AV
 | none,_=>.nils
 | some p,n=>.sl (oNum p) 0 n 1
def oM (k:IntKind) (m:Nat→AObj):OD→List Nat→(Nat→AObj)
 | none,_=>m
 | some p,l=>upd m (oNum p) (.live (l.map fun d:Nat=>AV.int k (d:Int)))
def oL (L:List Nat):OD→List Nat
 | none=>L
 | some p=>oNum p::L
theorem oL_has {L:List Nat} {m:Nat→AObj} (h:Has L m) (D:OD) (q:Nat) (hq:m q ≠ .unused):(oL L D).contains q=true:=by
 have:=h q hq
 rcases D with _|p<;>simp only [oL,List.contains_cons,this,Bool.or_true]
def dec10 (a:Nat):List Nat:=(digs 10 a).map (48+·)
def decL (a:Nat):List Nat:=if a=0 then [48] else (dec10 a).reverse
def decS (a:Nat):ByteArray:=bytesS ((decL a).map fun d:Nat=>AV.int .u8 (d:Int))
structure TS where
 n:Nat
 w:List Nat
 tl:List Nat
 D:OD
 k:Nat
 o:List Nat
structure T3 where
 j:Option Bool
 i:Nat
 r:Nat
 k:Nat
 o:List Nat
def dv (o:List Nat):Nat:=dOf 10 (o.map (·-48))
def byt (o:List Nat):Prop:=∀ c ∈ o,48≤c∧c<58
theorem dv_snoc (o:List Nat) (d:Nat):dv (o++[48+d])=dv o+10^o.length*d:=by
 unfold dv; rw [List.map_append,dOf_append]
 simp [dOf]
theorem byt_snoc {o:List Nat} (h:byt o) (r:Nat):byt (o++[48+r % 10]):=fun c hc=>by
 rcases List.mem_append.1 hc with hc|hc
 · exact h c hc
 · rw [List.mem_singleton.1 hc]; omega
theorem snoc_canon (o:List Nat) (d:Nat) (h:d ≠ 0):Canon ((o++[48+d]).map (·-48)):=fun _=>by
 simp; exact h
theorem u8_dig (r:Nat):IntKind.u8.wrap (IntKind.u64.wrap (48+((r % 10:Nat):Int)))=((48+r % 10:Nat):Int):=by
 rw [IntKind.wrap_u64,IntKind.wrap_u8]; omega
theorem map_snoc {l:List Nat} {k:IntKind} {c:Nat}:(l.map fun d:Nat=>AV.int k (d:Int))++[.int k (c:Int)]=(l++[c]).map fun d:Nat=>AV.int k (d:Int):=by simp
theorem dig_step {A p r W q:Nat} (h:A=p+q*(r+10*W)):A=(p+q*(r % 10))+q*10*(r / 10+W):=by
 rw [h,Nat.add_assoc,Nat.mul_assoc,← Nat.mul_add]; congr 2; omega
theorem canon_take {w:List Nat} {n:Nat} (h:n+1≤w.length) (hz:w.getD n 0 ≠ 0):Canon (w.take (n+1)):=fun hne=>by
 have e:=take_snoc (l:=w) (k:=n) (by omega)
 simp only [e,List.getLast_append,List.getLast_singleton]
 simpa using hz
theorem text_end {a:Nat} {o:List Nat} (ho:byt o) (h:a=dv o) (hc:Canon (o.map (·-48))) (ha:0<a):decL a=o.reverse:=by
 unfold decL dec10
 rw [if_neg (by omega),h]
 unfold dv
 rw [digs_dOf 10 (by decide) _ (fun d hd=>?_) hc,List.map_map]
 · congr 1
   conv=>rhs; rw [← List.map_id o]
   refine List.map_congr_left fun c hc=>?_
   have:=ho c hc
   simp only [Function.comp,id]; omega
 · obtain ⟨c,hc,rfl⟩:=List.mem_map.1 hd
   have:=ho c hc
   omega
def bl (s:ByteArray):List Nat:=s.data.toList.map UInt8.toNat
theorem size_bl (s:ByteArray):s.size=(bl s).length:=by unfold bl; rw [List.length_map,Array.length_toList]; rfl
theorem get_bl (s:ByteArray) (k:Nat):(s.get! k).toNat=(bl s).getD k 0:=by
 obtain ⟨a⟩:=s
 show (a[k]!).toNat=_
 unfold bl
 rw [List.getD_eq_getElem?_getD,List.getElem?_map,Array.getElem?_toList,getElem!_def]
 have e:(ByteArray.mk a).data=a:=rfl
 rw [e]
 cases a[k]?<;>rfl
theorem bl_lt (s:ByteArray):∀ c ∈ bl s,c<256:=fun c hc=>by
 obtain ⟨b,_,rfl⟩:=List.mem_map.1 hc
 exact b.toNat_lt
theorem bl_extract (s:ByteArray) (l h:Nat):bl (s.extract l h)=((bl s).drop l).take (h-l):=by
 unfold bl
 rw [ByteArray.data_extract,Array.toList_extract,List.extract_eq_take_drop]
 simp [List.map_drop,List.map_take]
def valL (l:List Nat):Nat:=l.foldl (fun v c=>10*v+(c-48)) 0
theorem valL_snoc (l:List Nat) (c:Nat):valL (l++[c])=10*valL l+(c-48):=by simp [valL]
theorem valL_take_succ {l:List Nat} {k:Nat} (h:k<l.length):valL (l.take (k+1))=10*valL (l.take k)+(l.getD k 0-48):=by rw [take_snoc h,valL_snoc]
def okD (l:List Nat):Prop:=l ≠ []∧¬ (1<l.length∧l.getD 0 0=48)∧∀ c ∈ l,48≤c∧c≤57
theorem toList_nil (s:ByteArray):(s.toList == ByteArray.toList ⟨#[]⟩)=(bl s).isEmpty:=by
 rw [ByteArray.toList_eq,ByteArray.toList_eq]
 unfold bl
 cases s.data.toList<;>rfl
theorem valL_from (b:List Nat):∀ v:Nat,b.foldl (fun v c=>10*v+(c-48)) v=v*10^b.length+valL b:=by
 induction b with
 | nil=>intro v; simp [valL]
 | cons c b ih =>
   intro v
   unfold valL
   rw [List.foldl_cons,List.foldl_cons,ih,ih (10*0+(c-48)),List.length_cons,Nat.pow_succ,Nat.add_mul,Nat.mul_zero,Nat.zero_add,Nat.mul_comm 10 v,Nat.mul_assoc,Nat.mul_comm 10 (10^_)]
   omega
theorem valL_app (a b:List Nat):valL (a++b)=valL a*10^b.length+valL b:=by
 have:=valL_from b (valL a)
 unfold valL at this ⊢
 rw [List.foldl_append]; exact this
theorem valL_lt {l:List Nat} (h:∀ c ∈ l,c≤57):valL l<10^l.length:=by
 induction l with
 | nil=>simp [valL]
 | cons c l ih =>
   have h1:=ih (fun d hd=>h d (by simp [hd]))
   have h2:=h c (by simp)
   have e:=valL_app [c] l
   simp only [List.singleton_append] at e
   have e2:valL [c]=c-48:=by simp [valL]
   have h3:(c-48+1)*10^l.length≤10*10^l.length:=Nat.mul_le_mul_right _ (by omega)
   rw [e,e2,List.length_cons,Nat.pow_succ]
   rw [Nat.add_mul] at h3; omega
def pX (c:Nat):OD→Nat
 | some (false,false)=>120-c
 | _=>110-c
structure PS where
 s:ByteArray
 k:Nat
 D:OD
 n:Nat
 d:List Nat
theorem conv12 (e:Int):Conv (.tup [.agg [.int .u64 0,.nils],.int .i64 e]) (.tup [(.agg [.opq (.nat (0)),.pad]),.int .i64 e]):=CvL.conv (CvL.tup (by have:=CvL.natOut 0 (xs:=[.int .i64 e]) (CvL.refl _); rw [natC_small (by decide)] at this; exact this) .nil)
noncomputable def parseR (l:List Nat):AV:=by classical exact if okD l then (if l.length≤256 then .tup [(.agg [.opq (.nat (valL l)),.pad]),.int .i64 0] else .tup [(.agg [.opq (.nat (0)),.pad]),.int .i64 3]) else .tup [(.agg [.opq (.nat (0)),.pad]),.int .i64 12]
theorem parse_bad {l:List Nat} (h:¬ okD l):parseR l = .tup [(.agg [.opq (.nat (0)),.pad]),.int .i64 12]:=by unfold parseR; rw [if_neg h]
theorem parse_long {l:List Nat} (h:okD l) (h2:256<l.length):parseR l = .tup [(.agg [.opq (.nat (0)),.pad]),.int .i64 3]:=by unfold parseR; rw [if_pos h,if_neg (by omega)]
theorem parse_ok {l:List Nat} (h:okD l) (h2:l.length≤256):parseR l = .tup [(.agg [.opq (.nat (valL l)),.pad]),.int .i64 0]:=by unfold parseR; rw [if_pos h,if_pos h2]
theorem mul_acc {D p c V W x y z c' B:Nat} (h:D+p*c=V*y+W) (h1:z+B*c'=x*y+c):D+p*z+p*B*c'=(V+p*x)*y+W:=by
 have e2:=congrArg (p*·) h1
 simp only [Nat.mul_add,← Nat.mul_assoc] at e2
 rw [Nat.add_mul]; omega
theorem cut_nil (hP:PrgOk P):CSpec P 108 [.nils] (.agg [.opq (.nat (0)),.pad]):=by
 have HE:=Sf_ok hP
 refine CSpec_go (E:=⟨T0,Sf⟩) (fn108 hP) HE hP.mix ?_
 simp only [go_sem]
 refine trX_loop HE hP.mix [0] (fun _:Unit=>⟨upd (upd (upd (fun _=>.junk) 0 .nils) 2 (.ref 0 0)) 3 (.int .i64 0),upd (fun _=>.unused) 0 (.live [.int .u64 0,.nils]),33⟩)
  (fun _=>True) (fun _=>0) () 20 Has.z (Kept.of rfl KT.z KM.z) trivial 33 (by kernel_rfl) ?_
 intro _ _
 simp only [go_sem,Int.lt_irrefl]
 exact Conv.nat1 (by decide)
def cutS2:List AV→Option (Prop × AV)
 | [.nils]=>some (True,(.agg [.opq (.nat (0)),.pad]))
 | [.imm n cs]=>cutS [.imm n cs]
 | _=>none
theorem cutS2_ok (hP:PrgOk P) (args p r) (h:cutS2 args=some (p,r)) (hp:p):CSpec P 108 args r:=by
 unfold cutS2 at h
 split at h
 · simp only [Option.some.injEq,Prod.mk.injEq] at h
   obtain ⟨rfl,rfl⟩:=h
   exact cut_nil hP
 · exact cutS_ok hP _ _ _ h hp
 · simp at h
attribute [go_sem] cutS2
noncomputable def Sg:Nat→List AV→Option (Prop × AV):=addS Sf 108 cutS2
theorem Sg_ok (hP:PrgOk P):EnvOk P ⟨T0,Sg⟩:=((Sf_ok hP).add (cutS2_ok hP))
theorem Sg_at (f a):Sg f a=(addS Sf 108 cutS2) f a:=rfl
attribute [go_sem] Sg_at
theorem Parse_spec (hP:PrgOk P) (s:ByteArray) (hsz:(bl s).length≤281474976710656):CSpec P 134 [.str s] (parseR (bl s)):=by
 have HE:=Sg_ok hP
 refine CSpec_go (E:=⟨T0,Sg⟩) (fn134 hP) HE hP.mix ?_
 obtain ⟨l,hl⟩:∃ l,bl s=l:=⟨_,rfl⟩
 rw [hl] at hsz ⊢
 by_cases h1:l=[]
 · have h1':l.isEmpty=true:=by rw [h1]; rfl
   have hno:¬ okD l:=fun h=>h.1 h1
   simp only [go_sem,toList_nil,hl,h1']
   rw [parse_bad hno]; exact conv12 12
 · have h1':l.isEmpty=false:=by cases l<;>simp_all
   by_cases h2:1<l.length
   · rcases (by cases (l.getD 0 0 == 48)<;>simp:(l.getD 0 0 == 48)=true∨(l.getD 0 0 == 48)=false) with h3|h3
     · have hno:¬ okD l:=fun h=>h.2.1 ⟨h2,by simpa using h3⟩
       simp only [go_sem,toList_nil,size_bl,get_bl,hl,h1',h2,h3]
       rw [parse_bad hno]; exact ⟨by omega,conv12 12⟩
     · have h0:¬ (1<l.length∧l.getD 0 0=48):=fun h=>by simp at h3; exact h3 (by simpa using h.2)
       simp only [go_sem,toList_nil,size_bl,get_bl,hl,h1',h2,h3]
       refine ⟨by omega,?_⟩
       refine trX_loop HE hP.mix [0] (fun i:Nat=>⟨upd (upd (upd (upd (upd (fun _=>.junk) 0 (.str s)) 2 (.ref 0 0)) 3 (.int .i64 0)) 28 (.int .i64 (l.length:Int))) 29 (.int .i64 (i:Int)),upd (fun _=>.unused) 0 (.live [.int .u64 0,.nils]),109⟩)
        (fun i=>i≤l.length∧∀ j,j<i→48≤l.getD j 0∧l.getD j 0≤57) (fun i=>l.length-i) 0 20
        Has.z (Kept.of rfl KT.z KM.z) ⟨Nat.zero_le _,fun j hj=>absurd hj (Nat.not_lt_zero _)⟩ 109 (by kernel_rfl) ?_
       rintro i ⟨q1,q2⟩
       by_cases hi:i<l.length
       · have hwi:=wi_add1 i (by omega)
         have hmem:=getD_mem hi
         by_cases c1:l.getD i 0<48
         · have hno:¬ okD l:=fun h=>by have:=h.2.2 _ hmem; omega
           simp only [go_sem,size_bl,get_bl,hl,hi,c1]
           rw [parse_bad hno]; exact conv12 12
         · by_cases c2:57<l.getD i 0
           · have hno:¬ okD l:=fun h=>by have:=h.2.2 _ hmem; omega
             simp only [go_sem,size_bl,get_bl,hl,hi,c1,c2]
             rw [parse_bad hno]; exact conv12 12
           · simp only [go_sem,size_bl,get_bl,hl,hi,c1,c2,hwi]
             exact ⟨i+1,Kept.of rfl KT.z KM.z,⟨by omega,fun j hj=>by
              rcases Nat.lt_or_ge j i with h|h
              · exact q2 j h
              · rw [show j=i by omega]; omega⟩,by omega⟩
       · have hok:okD l:=⟨h1,h0,fun c hc=>by
          obtain ⟨j,hj,rfl⟩:=List.getElem_of_mem hc
          rw [← getD_get hj]; exact q2 j (by omega)⟩
         clear q1 q2
         by_cases hlg:256<l.length
         · simp only [go_sem,size_bl,hl,hi,hlg]
           rw [parse_long hok hlg]; exact conv12 3
         · rw [parse_ok hok (by omega)]
           simp only [go_sem,size_bl,hl,hi,hlg]
           refine trX_loopV HE hP.mix (fun y:PS=>oL [0] y.D) (fun y=>⟨upd (upd (upd (upd (fun _=>.junk) 0 (.str y.s)) 2 (.ref 0 0)) 3 (.int .i64 0)) 5 (oV y.D y.n),oM .u64 (upd (fun _=>.unused) 0 (.live [.int .u64 0,.nils])) y.D y.d,109⟩)
            (fun y=>bl y.s=l.drop y.k∧y.k≤l.length∧y.d.length=y.n∧y.n≤y.k∧(∀ x ∈ y.d,x<18446744073709551616)∧dOf 18446744073709551616 y.d=valL (l.take y.k)∧(y.D=none→y.d=[]∧y.n=0)∧(∀ b,y.D ≠ some (true,b))) (fun y=>l.length-y.k) ⟨s,0,none,0,[]⟩ (fun _=>20)
            (fun x r hr=>oL_has Has.z x.D r hr) (Kept.of rfl KT.z KM.z) ⟨hl,Nat.zero_le _,rfl,Nat.le_refl _,by simp,rfl,fun _=>⟨rfl,rfl⟩,by simp⟩ 109 (by kernel_rfl) ?_
           rintro ⟨s',k,D,nd,d⟩ ⟨p1,p2,p3,p4,p5,p6,p7,p8⟩
           simp only [] at p1 p2 p3 p4 p5 p6 p7 p8
           obtain ⟨l',hl'⟩:∃ l',bl s'=l':=⟨_,rfl⟩
           rw [hl'] at p1
           have hll:l'.length=l.length-k:=by rw [p1,List.length_drop]
           by_cases hk:k<l.length
           · have hl0:0<l'.length:=by omega
             obtain ⟨n,hn⟩:∃ n,(l'.length-1) % 19+1=n:=⟨_,rfl⟩
             have hnl:n≤l'.length:=by have:=Nat.mod_le (l'.length-1) 19; omega
             have hn19:n≤19:=by have:=Nat.mod_lt (l'.length-1) (show 0<19 by decide); omega
             have hn0:0<n:=by omega
             have w1:IntKind.i64.wrap ((l'.length:Int)-1)=((l'.length-1:Nat):Int):=by rw [IntKind.wrap_i64]; omega
             have w2:((l'.length-1:Nat):Int).tmod 19=(((l'.length-1) % 19:Nat):Int):=rfl
             have w3:IntKind.i64.wrap ((((l'.length-1) % 19:Nat):Int)+1)=(n:Int):=by rw [IntKind.wrap_i64]; omega
             have hdig:∀ i,i<l'.length→48≤l'.getD i 0∧l'.getD i 0≤57:=fun i hi=>hok.2.2 _ (by rw [p1] at hi ⊢; exact List.mem_of_mem_drop (getD_mem hi))
             have hp10:∀ i,i≤19→10^i<18446744073709551616:=fun i hi=>Nat.lt_of_le_of_lt (Nat.pow_le_pow_right (by decide) hi) (by decide)
             rcases D with _|⟨_|_,_|_⟩
             ·
              simp only [oV,oM,oNum]
              simp only [go_sem,size_bl,hl',hl0,w1,w2,w3]
              refine ⟨by decide,?_⟩
              refine trX_loop HE hP.mix [0] (fun y:Nat × Nat × Nat=>⟨upd (upd (upd (upd (upd (upd (upd (upd (upd (fun _=>.junk) 0 (.str s')) 2 (.ref 0 0)) 3 (.int .i64 0)) 5 (oV none nd)) 6 (.int .i64 (n:Int))) 7 (.int .u64 (y.2.1:Int))) 8 (.int .u64 (y.2.2:Int))) 56 (.int .i64 (n:Int))) 57 (.int .i64 (y.1:Int)),oM .u64 (upd (fun _=>.unused) 0 (.live [.int .u64 0,.nils])) none d,109⟩)
               (fun y=>y.1≤n∧y.2.1=valL (l'.take y.1)∧y.2.1<10^y.1∧y.2.2=10^y.1) (fun y=>n-y.1) (0,0,1) 20 Has.z (Kept.of rfl KT.z KM.z) ⟨Nat.zero_le _,rfl,by decide,rfl⟩ 109 (by kernel_rfl) ?_
              rintro ⟨i,c,p⟩ ⟨q1,q2,q3,q4⟩
              simp only [] at q1 q2 q3 q4
              by_cases hin:i<n
              · have hil:i<l'.length:=by omega
                obtain ⟨g1,g2⟩:=hdig i hil
                have g3:10^i≤10^18:=Nat.pow_le_pow_right (by decide) (by omega)
                have f1:IntKind.u64.wrap (10*(c:Int))=((10*c:Nat):Int):=by rw [IntKind.wrap_u64]; omega
                have f2:IntKind.u8.wrap (((l'.getD i 0:Nat):Int)-48)=((l'.getD i 0-48:Nat):Int):=by rw [IntKind.wrap_u8]; omega
                have f3:=u_nat (l'.getD i 0-48) (by omega)
                have f4:=wu_add' (10*c) (l'.getD i 0-48) (by omega)
                have f5:IntKind.u64.wrap (10*(p:Int))=((10*p:Nat):Int):=by rw [IntKind.wrap_u64]; omega
                have f6:=wi_add1 i (by omega)
                simp only [oV,oM,oNum]
                simp only [go_sem,size_bl,get_bl,hl',hin,hil,f1,f2,f3,f4,f5,f6]
                exact ⟨(i+1,10*c+(l'.getD i 0-48),10*p),Kept.of rfl KT.z KM.z,⟨by simp only []; omega,by simp only []; rw [valL_take_succ hil,q2],by simp only []; rw [Nat.pow_succ]; omega,by simp only []; rw [q4,Nat.pow_succ,Nat.mul_comm]⟩,by simp only []; omega⟩
              · have hie:i=n:=by omega
                subst hie
                have hpb:=hp10 i hn19
                rw [← q4] at hpb
                have hcb:c<18446744073709551616:=by omega
                have hs'':bl (s'.extract i l'.length)=l.drop (k+i):=by
                 rw [bl_extract,hl',p1,List.drop_drop,List.take_of_length_le (by rw [List.length_drop,List.length_drop]; omega)]
                have hval:valL (l.take (k+i))=dOf 18446744073709551616 d*p+c:=by
                 have e:l.take (k+i)=l.take k++l'.take i:=by rw [p1,List.take_add]
                 rw [e,valL_app,List.length_take,Nat.min_eq_left hnl,p6,q4,q2]
                simp only [oV,oM,oNum]
                simp only [go_sem,hin]
                obtain ⟨hd0,hn0'⟩:=p7 rfl
                refine trX_loop HE hP.mix [0] (fun _:Unit=>⟨upd (upd (upd (upd (upd (upd (upd (upd (upd (fun _=>.junk) 0 (.str s')) 2 (.ref 0 0)) 3 (.int .i64 0)) 5 .nils) 6 (.int .i64 (i:Int))) 7 (.int .u64 (c:Int))) 8 (.int .u64 (p:Int))) 72 (.int .i64 0)) 73 (.int .i64 0),upd (fun _=>.unused) 0 (.live [.int .u64 0,.nils]),109⟩)
                 (fun _=>True) (fun _=>0) () 104 Has.z (Kept.of rfl KT.z KM.z) trivial 109 (by kernel_rfl) ?_
                intro _ _
                rw [hd0] at hval
                have hval:valL (l.take (k+i))=c:=by rw [hval]; simp [dOf]
                by_cases hc:0<c
                · simp only [go_sem,Int.lt_irrefl,hc,size_bl,hl',hnl]
                  exact ⟨⟨by simp,fun _=>trivial⟩,⟨s'.extract i l'.length,k+i,some (false,false),1,[c]⟩,Kept.of rfl KT.z KM.z,⟨hs'',by simp only []; omega,rfl,by simp only []; omega,fun x hx=>by rw [List.mem_singleton.1 hx]; exact hcb,by simp only []; rw [hval]; simp [dOf],by simp,by simp⟩,by simp only []; omega⟩
                · simp only [go_sem,Int.lt_irrefl,hc,size_bl,hl',hnl]
                  exact ⟨⟨s'.extract i l'.length,k+i,none,0,[]⟩,Kept.of rfl KT.z KM.z,⟨hs'',by simp only []; omega,rfl,Nat.zero_le _,by simp,by simp only []; rw [hval]; simp [dOf]; omega,fun _=>⟨rfl,rfl⟩,by simp⟩,by simp only []; omega⟩
             ·
              simp only [oV,oM,oNum]
              simp only [go_sem,size_bl,hl',hl0,w1,w2,w3]
              refine ⟨by decide,?_⟩
              refine trX_loop HE hP.mix [110,0] (fun y:Nat × Nat × Nat=>⟨upd (upd (upd (upd (upd (upd (upd (upd (upd (fun _=>.junk) 0 (.str s')) 2 (.ref 0 0)) 3 (.int .i64 0)) 5 (oV (some (false,false)) nd)) 6 (.int .i64 (n:Int))) 7 (.int .u64 (y.2.1:Int))) 8 (.int .u64 (y.2.2:Int))) 56 (.int .i64 (n:Int))) 57 (.int .i64 (y.1:Int)),oM .u64 (upd (fun _=>.unused) 0 (.live [.int .u64 0,.nils])) (some (false,false)) d,109⟩)
               (fun y=>y.1≤n∧y.2.1=valL (l'.take y.1)∧y.2.1<10^y.1∧y.2.2=10^y.1) (fun y=>n-y.1) (0,0,1) 20 Has.z (Kept.of rfl KT.z KM.z) ⟨Nat.zero_le _,rfl,by decide,rfl⟩ 109 (by kernel_rfl) ?_
              rintro ⟨i,c,p⟩ ⟨q1,q2,q3,q4⟩
              simp only [] at q1 q2 q3 q4
              by_cases hin:i<n
              · have hil:i<l'.length:=by omega
                obtain ⟨g1,g2⟩:=hdig i hil
                have g3:10^i≤10^18:=Nat.pow_le_pow_right (by decide) (by omega)
                have f1:IntKind.u64.wrap (10*(c:Int))=((10*c:Nat):Int):=by rw [IntKind.wrap_u64]; omega
                have f2:IntKind.u8.wrap (((l'.getD i 0:Nat):Int)-48)=((l'.getD i 0-48:Nat):Int):=by rw [IntKind.wrap_u8]; omega
                have f3:=u_nat (l'.getD i 0-48) (by omega)
                have f4:=wu_add' (10*c) (l'.getD i 0-48) (by omega)
                have f5:IntKind.u64.wrap (10*(p:Int))=((10*p:Nat):Int):=by rw [IntKind.wrap_u64]; omega
                have f6:=wi_add1 i (by omega)
                simp only [oV,oM,oNum]
                simp only [go_sem,size_bl,get_bl,hl',hin,hil,f1,f2,f3,f4,f5,f6]
                exact ⟨(i+1,10*c+(l'.getD i 0-48),10*p),Kept.of rfl KT.z KM.z,⟨by simp only []; omega,by simp only []; rw [valL_take_succ hil,q2],by simp only []; rw [Nat.pow_succ]; omega,by simp only []; rw [q4,Nat.pow_succ,Nat.mul_comm]⟩,by simp only []; omega⟩
              · have hie:i=n:=by omega
                subst hie
                have hpb:=hp10 i hn19
                rw [← q4] at hpb
                have hcb:c<18446744073709551616:=by omega
                have hs'':bl (s'.extract i l'.length)=l.drop (k+i):=by
                 rw [bl_extract,hl',p1,List.drop_drop,List.take_of_length_le (by rw [List.length_drop,List.length_drop]; omega)]
                have hval:valL (l.take (k+i))=dOf 18446744073709551616 d*p+c:=by
                 have e:l.take (k+i)=l.take k++l'.take i:=by rw [p1,List.take_add]
                 rw [e,valL_app,List.length_take,Nat.min_eq_left hnl,p6,q4,q2]
                simp only [oV,oM,oNum]
                simp only [go_sem,hin]
                refine trX_loop HE hP.mix [110,0] (fun y:Nat × List Nat × Nat=>⟨upd (upd (upd (upd (upd (upd (upd (upd (upd (fun _=>.junk) 0 (.str s')) 2 (.ref 0 0)) 3 (.int .i64 0)) 5 (.sl 110 0 nd 1)) 6 (.int .i64 (i:Int))) 7 (.int .u64 (y.2.2:Int))) 8 (.int .u64 (p:Int))) 72 (.int .i64 (nd:Int))) 73 (.int .i64 (y.1:Int)),upd (upd (fun _=>.unused) 0 (.live [.int .u64 0,.nils])) 110 (.live (List.map (fun d:Nat=>AV.int .u64 (d:Int)) (y.2.1++d.drop y.1))),109⟩)
                 (fun y=>y.1≤nd∧y.2.1.length=y.1∧(∀ x ∈ y.2.1,x<18446744073709551616)∧y.2.2<18446744073709551616∧dOf 18446744073709551616 y.2.1+18446744073709551616^y.1*y.2.2=dOf 18446744073709551616 (d.take y.1)*p+c) (fun y=>nd-y.1) (0,[],c) 114 Has.z (Kept.of rfl KT.z KM.z) ⟨Nat.zero_le _,rfl,by simp,hcb,by simp [dOf]⟩ 109 (by kernel_rfl) ?_
                rintro ⟨j,dn,e⟩ ⟨j1,j2,j3,j4,j5⟩
                simp only [] at j1 j2 j3 j4 j5
                by_cases hj:j<nd
                · have hjd:j<d.length:=by omega
                  have hxd:=p5 _ (getD_mem hjd)
                  have hlen:j<(dn++d.drop j).length:=by rw [List.length_append,List.length_drop]; omega
                  have hlen':j<dn.length+(d.length-j):=by omega
                  have hget:(dn++d.drop j).getD j 0=d.getD j 0:=by rw [drop_cons hjd]; exact get_app (R:=d.drop (j+1)) j2
                  have hset:∀ z,(dn++d.drop j).set j z=(dn++[z])++d.drop (j+1):=fun z=>by rw [drop_cons hjd,List.append_assoc]; exact set_app (R:=d.drop (j+1)) j2
                  have hcar:=away_carry hxd hpb j4
                  have hw2:=wu_add' _ _ hcar
                  have hml:=mull_lt (d.getD j 0) p
                  have hwj:=wi_add1 j (by omega)
                  simp only [go_sem,hj,hlen,hlen',gU hlen,hget,hset,hxd,hpb,hml,hw2,hwj,upd_upd]
                  refine ⟨(j+1,dn++[addl (mull (d.getD j 0) p) e 0],mulh (d.getD j 0) p+addh (mull (d.getD j 0) p) e 0),Kept.of rfl KT.z KM.z,⟨by simp only []; omega,by simp only [List.length_append,List.length_singleton]; omega,?_,hcar,?_⟩,by simp only []; omega⟩
                  · intro x hx
                    rcases List.mem_append.1 hx with hx|hx
                    · exact j3 x hx
                    · rw [List.mem_singleton.1 hx]; exact addl_lt _ _ _
                  · simp only []
                    rw [dOf_snoc,j2,dOf_take_succ 18446744073709551616 d j hjd,Nat.pow_succ]
                    exact mul_acc j5 (away_digit (d.getD j 0) p e)
                · have hje:j=nd:=by omega
                  subst hje
                  have ht:d.take j=d:=List.take_of_length_le (by omega)
                  have hdr:d.drop j=[]:=List.drop_of_length_le (by omega)
                  rw [ht,← hval] at j5
                  rw [hdr,List.append_nil]
                  by_cases hc:0<e
                  · have hjb:(j+1)*8≤1099511627776:=by omega
                    simp only [go_sem,hj,hc,size_bl,hl',hnl,map_snoc]
                    exact ⟨⟨j2,by simp,fun _=>trivial,hjb⟩,⟨s'.extract i l'.length,k+i,some (false,true),j+1,dn++[e]⟩,Kept.of rfl KT.z KM.z,⟨hs'',by simp only []; omega,by simp only [List.length_append,List.length_singleton]; omega,by simp only []; omega,fun x hx=>by
                     rcases List.mem_append.1 hx with hx|hx
                     · exact j3 x hx
                     · rw [List.mem_singleton.1 hx]; exact j4,by simp only []; rw [dOf_snoc,j2]; exact j5,by simp,by simp⟩,by simp only []; omega⟩
                  · have he0:e=0:=by omega
                    rw [he0,Nat.mul_zero,Nat.add_zero] at j5
                    simp only [go_sem,hj,hc,size_bl,hl',hnl]
                    exact ⟨⟨s'.extract i l'.length,k+i,some (false,false),j,dn⟩,Kept.of rfl KT.z KM.z,⟨hs'',by simp only []; omega,j2,by simp only []; omega,j3,j5,by simp,by simp⟩,by simp only []; omega⟩
             ·
              simp only [oV,oM,oNum]
              simp only [go_sem,size_bl,hl',hl0,w1,w2,w3]
              refine ⟨by decide,?_⟩
              refine trX_loop HE hP.mix [120,0] (fun y:Nat × Nat × Nat=>⟨upd (upd (upd (upd (upd (upd (upd (upd (upd (fun _=>.junk) 0 (.str s')) 2 (.ref 0 0)) 3 (.int .i64 0)) 5 (oV (some (false,true)) nd)) 6 (.int .i64 (n:Int))) 7 (.int .u64 (y.2.1:Int))) 8 (.int .u64 (y.2.2:Int))) 56 (.int .i64 (n:Int))) 57 (.int .i64 (y.1:Int)),oM .u64 (upd (fun _=>.unused) 0 (.live [.int .u64 0,.nils])) (some (false,true)) d,109⟩)
               (fun y=>y.1≤n∧y.2.1=valL (l'.take y.1)∧y.2.1<10^y.1∧y.2.2=10^y.1) (fun y=>n-y.1) (0,0,1) 20 Has.z (Kept.of rfl KT.z KM.z) ⟨Nat.zero_le _,rfl,by decide,rfl⟩ 109 (by kernel_rfl) ?_
              rintro ⟨i,c,p⟩ ⟨q1,q2,q3,q4⟩
              simp only [] at q1 q2 q3 q4
              by_cases hin:i<n
              · have hil:i<l'.length:=by omega
                obtain ⟨g1,g2⟩:=hdig i hil
                have g3:10^i≤10^18:=Nat.pow_le_pow_right (by decide) (by omega)
                have f1:IntKind.u64.wrap (10*(c:Int))=((10*c:Nat):Int):=by rw [IntKind.wrap_u64]; omega
                have f2:IntKind.u8.wrap (((l'.getD i 0:Nat):Int)-48)=((l'.getD i 0-48:Nat):Int):=by rw [IntKind.wrap_u8]; omega
                have f3:=u_nat (l'.getD i 0-48) (by omega)
                have f4:=wu_add' (10*c) (l'.getD i 0-48) (by omega)
                have f5:IntKind.u64.wrap (10*(p:Int))=((10*p:Nat):Int):=by rw [IntKind.wrap_u64]; omega
                have f6:=wi_add1 i (by omega)
                simp only [oV,oM,oNum]
                simp only [go_sem,size_bl,get_bl,hl',hin,hil,f1,f2,f3,f4,f5,f6]
                exact ⟨(i+1,10*c+(l'.getD i 0-48),10*p),Kept.of rfl KT.z KM.z,⟨by simp only []; omega,by simp only []; rw [valL_take_succ hil,q2],by simp only []; rw [Nat.pow_succ]; omega,by simp only []; rw [q4,Nat.pow_succ,Nat.mul_comm]⟩,by simp only []; omega⟩
              · have hie:i=n:=by omega
                subst hie
                have hpb:=hp10 i hn19
                rw [← q4] at hpb
                have hcb:c<18446744073709551616:=by omega
                have hs'':bl (s'.extract i l'.length)=l.drop (k+i):=by
                 rw [bl_extract,hl',p1,List.drop_drop,List.take_of_length_le (by rw [List.length_drop,List.length_drop]; omega)]
                have hval:valL (l.take (k+i))=dOf 18446744073709551616 d*p+c:=by
                 have e:l.take (k+i)=l.take k++l'.take i:=by rw [p1,List.take_add]
                 rw [e,valL_app,List.length_take,Nat.min_eq_left hnl,p6,q4,q2]
                simp only [oV,oM,oNum]
                simp only [go_sem,hin]
                refine trX_loop HE hP.mix [120,0] (fun y:Nat × List Nat × Nat=>⟨upd (upd (upd (upd (upd (upd (upd (upd (upd (fun _=>.junk) 0 (.str s')) 2 (.ref 0 0)) 3 (.int .i64 0)) 5 (.sl 120 0 nd 1)) 6 (.int .i64 (i:Int))) 7 (.int .u64 (y.2.2:Int))) 8 (.int .u64 (p:Int))) 72 (.int .i64 (nd:Int))) 73 (.int .i64 (y.1:Int)),upd (upd (fun _=>.unused) 0 (.live [.int .u64 0,.nils])) 120 (.live (List.map (fun d:Nat=>AV.int .u64 (d:Int)) (y.2.1++d.drop y.1))),109⟩)
                 (fun y=>y.1≤nd∧y.2.1.length=y.1∧(∀ x ∈ y.2.1,x<18446744073709551616)∧y.2.2<18446744073709551616∧dOf 18446744073709551616 y.2.1+18446744073709551616^y.1*y.2.2=dOf 18446744073709551616 (d.take y.1)*p+c) (fun y=>nd-y.1) (0,[],c) 104 Has.z (Kept.of rfl KT.z KM.z) ⟨Nat.zero_le _,rfl,by simp,hcb,by simp [dOf]⟩ 109 (by kernel_rfl) ?_
                rintro ⟨j,dn,e⟩ ⟨j1,j2,j3,j4,j5⟩
                simp only [] at j1 j2 j3 j4 j5
                by_cases hj:j<nd
                · have hjd:j<d.length:=by omega
                  have hxd:=p5 _ (getD_mem hjd)
                  have hlen:j<(dn++d.drop j).length:=by rw [List.length_append,List.length_drop]; omega
                  have hlen':j<dn.length+(d.length-j):=by omega
                  have hget:(dn++d.drop j).getD j 0=d.getD j 0:=by rw [drop_cons hjd]; exact get_app (R:=d.drop (j+1)) j2
                  have hset:∀ z,(dn++d.drop j).set j z=(dn++[z])++d.drop (j+1):=fun z=>by rw [drop_cons hjd,List.append_assoc]; exact set_app (R:=d.drop (j+1)) j2
                  have hcar:=away_carry hxd hpb j4
                  have hw2:=wu_add' _ _ hcar
                  have hml:=mull_lt (d.getD j 0) p
                  have hwj:=wi_add1 j (by omega)
                  simp only [go_sem,hj,hlen,hlen',gU hlen,hget,hset,hxd,hpb,hml,hw2,hwj,upd_upd]
                  refine ⟨(j+1,dn++[addl (mull (d.getD j 0) p) e 0],mulh (d.getD j 0) p+addh (mull (d.getD j 0) p) e 0),Kept.of rfl KT.z KM.z,⟨by simp only []; omega,by simp only [List.length_append,List.length_singleton]; omega,?_,hcar,?_⟩,by simp only []; omega⟩
                  · intro x hx
                    rcases List.mem_append.1 hx with hx|hx
                    · exact j3 x hx
                    · rw [List.mem_singleton.1 hx]; exact addl_lt _ _ _
                  · simp only []
                    rw [dOf_snoc,j2,dOf_take_succ 18446744073709551616 d j hjd,Nat.pow_succ]
                    exact mul_acc j5 (away_digit (d.getD j 0) p e)
                · have hje:j=nd:=by omega
                  subst hje
                  have ht:d.take j=d:=List.take_of_length_le (by omega)
                  have hdr:d.drop j=[]:=List.drop_of_length_le (by omega)
                  rw [ht,← hval] at j5
                  rw [hdr,List.append_nil]
                  by_cases hc:0<e
                  · have hjb:(j+1)*8≤1099511627776:=by omega
                    simp only [go_sem,hj,hc,size_bl,hl',hnl,map_snoc]
                    exact ⟨⟨j2,by simp,fun _=>trivial,hjb⟩,⟨s'.extract i l'.length,k+i,some (false,false),j+1,dn++[e]⟩,Kept.of rfl KT.z KM.z,⟨hs'',by simp only []; omega,by simp only [List.length_append,List.length_singleton]; omega,by simp only []; omega,fun x hx=>by
                     rcases List.mem_append.1 hx with hx|hx
                     · exact j3 x hx
                     · rw [List.mem_singleton.1 hx]; exact j4,by simp only []; rw [dOf_snoc,j2]; exact j5,by simp,by simp⟩,by simp only []; omega⟩
                  · have he0:e=0:=by omega
                    rw [he0,Nat.mul_zero,Nat.add_zero] at j5
                    simp only [go_sem,hj,hc,size_bl,hl',hnl]
                    exact ⟨⟨s'.extract i l'.length,k+i,some (false,true),j,dn⟩,Kept.of rfl KT.z KM.z,⟨hs'',by simp only []; omega,j2,by simp only []; omega,j3,j5,by simp,by simp⟩,by simp only []; omega⟩
             · exact absurd rfl (p8 false)
             · exact absurd rfl (p8 true)
           · have hl0:¬ 0<l'.length:=by omega
             rcases D with _|⟨_|_,_|_⟩
             · have hd:=(p7 rfl).1
               simp only [oV,oM,oNum]
               have htk:d.take nd=d:=List.take_of_length_le (by omega)
               have hz3:(∀ x ∈ d,x<18446744073709551616)=True:=eq_true p5
               have hsl:nd<4611686018427387904:=by omega
               have hkk:l.take k=l:=List.take_of_length_le (by omega)
               rw [hkk] at p6
               simp only [go_sem,size_bl,hl',hl0,htk,hz3,p3,hsl]
               first
                | (rw [← p6]; exact .refl _)
                | (rw [← p6,hd]; exact .refl _)
             ·
              simp only [oV,oM,oNum]
              have htk:d.take nd=d:=List.take_of_length_le (by omega)
              have hz3:(∀ x ∈ d,x<18446744073709551616)=True:=eq_true p5
              have hsl:nd<4611686018427387904:=by omega
              have hkk:l.take k=l:=List.take_of_length_le (by omega)
              rw [hkk] at p6
              simp only [go_sem,size_bl,hl',hl0,htk,hz3,p3,hsl]
              first
               | (rw [← p6]; exact .refl _)
               | (rw [← p6,hd]; exact .refl _)
             ·
              simp only [oV,oM,oNum]
              have htk:d.take nd=d:=List.take_of_length_le (by omega)
              have hz3:(∀ x ∈ d,x<18446744073709551616)=True:=eq_true p5
              have hsl:nd<4611686018427387904:=by omega
              have hkk:l.take k=l:=List.take_of_length_le (by omega)
              rw [hkk] at p6
              simp only [go_sem,size_bl,hl',hl0,htk,hz3,p3,hsl]
              first
               | (rw [← p6]; exact .refl _)
               | (rw [← p6,hd]; exact .refl _)
             · exact absurd rfl (p8 false)
             · exact absurd rfl (p8 true)
   · have h0:¬ (1<l.length∧l.getD 0 0=48):=fun h=>h2 h.1
     simp only [go_sem,toList_nil,size_bl,get_bl,hl,h1',h2]
     refine trX_loop HE hP.mix [0] (fun i:Nat=>⟨upd (upd (upd (upd (upd (fun _=>.junk) 0 (.str s)) 2 (.ref 0 0)) 3 (.int .i64 0)) 28 (.int .i64 (l.length:Int))) 29 (.int .i64 (i:Int)),upd (fun _=>.unused) 0 (.live [.int .u64 0,.nils]),109⟩)
      (fun i=>i≤l.length∧∀ j,j<i→48≤l.getD j 0∧l.getD j 0≤57) (fun i=>l.length-i) 0 20
      Has.z (Kept.of rfl KT.z KM.z) ⟨Nat.zero_le _,fun j hj=>absurd hj (Nat.not_lt_zero _)⟩ 109 (by kernel_rfl) ?_
     rintro i ⟨q1,q2⟩
     by_cases hi:i<l.length
     · have hwi:=wi_add1 i (by omega)
       have hmem:=getD_mem hi
       by_cases c1:l.getD i 0<48
       · have hno:¬ okD l:=fun h=>by have:=h.2.2 _ hmem; omega
         simp only [go_sem,size_bl,get_bl,hl,hi,c1]
         rw [parse_bad hno]; exact conv12 12
       · by_cases c2:57<l.getD i 0
         · have hno:¬ okD l:=fun h=>by have:=h.2.2 _ hmem; omega
           simp only [go_sem,size_bl,get_bl,hl,hi,c1,c2]
           rw [parse_bad hno]; exact conv12 12
         · simp only [go_sem,size_bl,get_bl,hl,hi,c1,c2,hwi]
           exact ⟨i+1,Kept.of rfl KT.z KM.z,⟨by omega,fun j hj=>by
            rcases Nat.lt_or_ge j i with h|h
            · exact q2 j h
            · rw [show j=i by omega]; omega⟩,by omega⟩
     · have hok:okD l:=⟨h1,h0,fun c hc=>by
        obtain ⟨j,hj,rfl⟩:=List.getElem_of_mem hc
        rw [← getD_get hj]; exact q2 j (by omega)⟩
       clear q1 q2
       by_cases hlg:256<l.length
       · simp only [go_sem,size_bl,hl,hi,hlg]
         rw [parse_long hok hlg]; exact conv12 3
       · rw [parse_ok hok (by omega)]
         simp only [go_sem,size_bl,hl,hi,hlg]
         refine trX_loopV HE hP.mix (fun y:PS=>oL [0] y.D) (fun y=>⟨upd (upd (upd (upd (fun _=>.junk) 0 (.str y.s)) 2 (.ref 0 0)) 3 (.int .i64 0)) 5 (oV y.D y.n),oM .u64 (upd (fun _=>.unused) 0 (.live [.int .u64 0,.nils])) y.D y.d,109⟩)
          (fun y=>bl y.s=l.drop y.k∧y.k≤l.length∧y.d.length=y.n∧y.n≤y.k∧(∀ x ∈ y.d,x<18446744073709551616)∧dOf 18446744073709551616 y.d=valL (l.take y.k)∧(y.D=none→y.d=[]∧y.n=0)∧(∀ b,y.D ≠ some (true,b))) (fun y=>l.length-y.k) ⟨s,0,none,0,[]⟩ (fun _=>20)
          (fun x r hr=>oL_has Has.z x.D r hr) (Kept.of rfl KT.z KM.z) ⟨hl,Nat.zero_le _,rfl,Nat.le_refl _,by simp,rfl,fun _=>⟨rfl,rfl⟩,by simp⟩ 109 (by kernel_rfl) ?_
         rintro ⟨s',k,D,nd,d⟩ ⟨p1,p2,p3,p4,p5,p6,p7,p8⟩
         simp only [] at p1 p2 p3 p4 p5 p6 p7 p8
         obtain ⟨l',hl'⟩:∃ l',bl s'=l':=⟨_,rfl⟩
         rw [hl'] at p1
         have hll:l'.length=l.length-k:=by rw [p1,List.length_drop]
         by_cases hk:k<l.length
         · have hl0:0<l'.length:=by omega
           obtain ⟨n,hn⟩:∃ n,(l'.length-1) % 19+1=n:=⟨_,rfl⟩
           have hnl:n≤l'.length:=by have:=Nat.mod_le (l'.length-1) 19; omega
           have hn19:n≤19:=by have:=Nat.mod_lt (l'.length-1) (show 0<19 by decide); omega
           have hn0:0<n:=by omega
           have w1:IntKind.i64.wrap ((l'.length:Int)-1)=((l'.length-1:Nat):Int):=by rw [IntKind.wrap_i64]; omega
           have w2:((l'.length-1:Nat):Int).tmod 19=(((l'.length-1) % 19:Nat):Int):=rfl
           have w3:IntKind.i64.wrap ((((l'.length-1) % 19:Nat):Int)+1)=(n:Int):=by rw [IntKind.wrap_i64]; omega
           have hdig:∀ i,i<l'.length→48≤l'.getD i 0∧l'.getD i 0≤57:=fun i hi=>hok.2.2 _ (by rw [p1] at hi ⊢; exact List.mem_of_mem_drop (getD_mem hi))
           have hp10:∀ i,i≤19→10^i<18446744073709551616:=fun i hi=>Nat.lt_of_le_of_lt (Nat.pow_le_pow_right (by decide) hi) (by decide)
           rcases D with _|⟨_|_,_|_⟩
           ·
            simp only [oV,oM,oNum]
            simp only [go_sem,size_bl,hl',hl0,w1,w2,w3]
            refine ⟨by decide,?_⟩
            refine trX_loop HE hP.mix [0] (fun y:Nat × Nat × Nat=>⟨upd (upd (upd (upd (upd (upd (upd (upd (upd (fun _=>.junk) 0 (.str s')) 2 (.ref 0 0)) 3 (.int .i64 0)) 5 (oV none nd)) 6 (.int .i64 (n:Int))) 7 (.int .u64 (y.2.1:Int))) 8 (.int .u64 (y.2.2:Int))) 56 (.int .i64 (n:Int))) 57 (.int .i64 (y.1:Int)),oM .u64 (upd (fun _=>.unused) 0 (.live [.int .u64 0,.nils])) none d,109⟩)
             (fun y=>y.1≤n∧y.2.1=valL (l'.take y.1)∧y.2.1<10^y.1∧y.2.2=10^y.1) (fun y=>n-y.1) (0,0,1) 20 Has.z (Kept.of rfl KT.z KM.z) ⟨Nat.zero_le _,rfl,by decide,rfl⟩ 109 (by kernel_rfl) ?_
            rintro ⟨i,c,p⟩ ⟨q1,q2,q3,q4⟩
            simp only [] at q1 q2 q3 q4
            by_cases hin:i<n
            · have hil:i<l'.length:=by omega
              obtain ⟨g1,g2⟩:=hdig i hil
              have g3:10^i≤10^18:=Nat.pow_le_pow_right (by decide) (by omega)
              have f1:IntKind.u64.wrap (10*(c:Int))=((10*c:Nat):Int):=by rw [IntKind.wrap_u64]; omega
              have f2:IntKind.u8.wrap (((l'.getD i 0:Nat):Int)-48)=((l'.getD i 0-48:Nat):Int):=by rw [IntKind.wrap_u8]; omega
              have f3:=u_nat (l'.getD i 0-48) (by omega)
              have f4:=wu_add' (10*c) (l'.getD i 0-48) (by omega)
              have f5:IntKind.u64.wrap (10*(p:Int))=((10*p:Nat):Int):=by rw [IntKind.wrap_u64]; omega
              have f6:=wi_add1 i (by omega)
              simp only [oV,oM,oNum]
              simp only [go_sem,size_bl,get_bl,hl',hin,hil,f1,f2,f3,f4,f5,f6]
              exact ⟨(i+1,10*c+(l'.getD i 0-48),10*p),Kept.of rfl KT.z KM.z,⟨by simp only []; omega,by simp only []; rw [valL_take_succ hil,q2],by simp only []; rw [Nat.pow_succ]; omega,by simp only []; rw [q4,Nat.pow_succ,Nat.mul_comm]⟩,by simp only []; omega⟩
            · have hie:i=n:=by omega
              subst hie
              have hpb:=hp10 i hn19
              rw [← q4] at hpb
              have hcb:c<18446744073709551616:=by omega
              have hs'':bl (s'.extract i l'.length)=l.drop (k+i):=by
               rw [bl_extract,hl',p1,List.drop_drop,List.take_of_length_le (by rw [List.length_drop,List.length_drop]; omega)]
              have hval:valL (l.take (k+i))=dOf 18446744073709551616 d*p+c:=by
               have e:l.take (k+i)=l.take k++l'.take i:=by rw [p1,List.take_add]
               rw [e,valL_app,List.length_take,Nat.min_eq_left hnl,p6,q4,q2]
              simp only [oV,oM,oNum]
              simp only [go_sem,hin]
              obtain ⟨hd0,hn0'⟩:=p7 rfl
              refine trX_loop HE hP.mix [0] (fun _:Unit=>⟨upd (upd (upd (upd (upd (upd (upd (upd (upd (fun _=>.junk) 0 (.str s')) 2 (.ref 0 0)) 3 (.int .i64 0)) 5 .nils) 6 (.int .i64 (i:Int))) 7 (.int .u64 (c:Int))) 8 (.int .u64 (p:Int))) 72 (.int .i64 0)) 73 (.int .i64 0),upd (fun _=>.unused) 0 (.live [.int .u64 0,.nils]),109⟩)
               (fun _=>True) (fun _=>0) () 104 Has.z (Kept.of rfl KT.z KM.z) trivial 109 (by kernel_rfl) ?_
              intro _ _
              rw [hd0] at hval
              have hval:valL (l.take (k+i))=c:=by rw [hval]; simp [dOf]
              by_cases hc:0<c
              · simp only [go_sem,Int.lt_irrefl,hc,size_bl,hl',hnl]
                exact ⟨⟨by simp,fun _=>trivial⟩,⟨s'.extract i l'.length,k+i,some (false,false),1,[c]⟩,Kept.of rfl KT.z KM.z,⟨hs'',by simp only []; omega,rfl,by simp only []; omega,fun x hx=>by rw [List.mem_singleton.1 hx]; exact hcb,by simp only []; rw [hval]; simp [dOf],by simp,by simp⟩,by simp only []; omega⟩
              · simp only [go_sem,Int.lt_irrefl,hc,size_bl,hl',hnl]
                exact ⟨⟨s'.extract i l'.length,k+i,none,0,[]⟩,Kept.of rfl KT.z KM.z,⟨hs'',by simp only []; omega,rfl,Nat.zero_le _,by simp,by simp only []; rw [hval]; simp [dOf]; omega,fun _=>⟨rfl,rfl⟩,by simp⟩,by simp only []; omega⟩
           ·
            simp only [oV,oM,oNum]
            simp only [go_sem,size_bl,hl',hl0,w1,w2,w3]
            refine ⟨by decide,?_⟩
            refine trX_loop HE hP.mix [110,0] (fun y:Nat × Nat × Nat=>⟨upd (upd (upd (upd (upd (upd (upd (upd (upd (fun _=>.junk) 0 (.str s')) 2 (.ref 0 0)) 3 (.int .i64 0)) 5 (oV (some (false,false)) nd)) 6 (.int .i64 (n:Int))) 7 (.int .u64 (y.2.1:Int))) 8 (.int .u64 (y.2.2:Int))) 56 (.int .i64 (n:Int))) 57 (.int .i64 (y.1:Int)),oM .u64 (upd (fun _=>.unused) 0 (.live [.int .u64 0,.nils])) (some (false,false)) d,109⟩)
             (fun y=>y.1≤n∧y.2.1=valL (l'.take y.1)∧y.2.1<10^y.1∧y.2.2=10^y.1) (fun y=>n-y.1) (0,0,1) 20 Has.z (Kept.of rfl KT.z KM.z) ⟨Nat.zero_le _,rfl,by decide,rfl⟩ 109 (by kernel_rfl) ?_
            rintro ⟨i,c,p⟩ ⟨q1,q2,q3,q4⟩
            simp only [] at q1 q2 q3 q4
            by_cases hin:i<n
            · have hil:i<l'.length:=by omega
              obtain ⟨g1,g2⟩:=hdig i hil
              have g3:10^i≤10^18:=Nat.pow_le_pow_right (by decide) (by omega)
              have f1:IntKind.u64.wrap (10*(c:Int))=((10*c:Nat):Int):=by rw [IntKind.wrap_u64]; omega
              have f2:IntKind.u8.wrap (((l'.getD i 0:Nat):Int)-48)=((l'.getD i 0-48:Nat):Int):=by rw [IntKind.wrap_u8]; omega
              have f3:=u_nat (l'.getD i 0-48) (by omega)
              have f4:=wu_add' (10*c) (l'.getD i 0-48) (by omega)
              have f5:IntKind.u64.wrap (10*(p:Int))=((10*p:Nat):Int):=by rw [IntKind.wrap_u64]; omega
              have f6:=wi_add1 i (by omega)
              simp only [oV,oM,oNum]
              simp only [go_sem,size_bl,get_bl,hl',hin,hil,f1,f2,f3,f4,f5,f6]
              exact ⟨(i+1,10*c+(l'.getD i 0-48),10*p),Kept.of rfl KT.z KM.z,⟨by simp only []; omega,by simp only []; rw [valL_take_succ hil,q2],by simp only []; rw [Nat.pow_succ]; omega,by simp only []; rw [q4,Nat.pow_succ,Nat.mul_comm]⟩,by simp only []; omega⟩
            · have hie:i=n:=by omega
              subst hie
              have hpb:=hp10 i hn19
              rw [← q4] at hpb
              have hcb:c<18446744073709551616:=by omega
              have hs'':bl (s'.extract i l'.length)=l.drop (k+i):=by
               rw [bl_extract,hl',p1,List.drop_drop,List.take_of_length_le (by rw [List.length_drop,List.length_drop]; omega)]
              have hval:valL (l.take (k+i))=dOf 18446744073709551616 d*p+c:=by
               have e:l.take (k+i)=l.take k++l'.take i:=by rw [p1,List.take_add]
               rw [e,valL_app,List.length_take,Nat.min_eq_left hnl,p6,q4,q2]
              simp only [oV,oM,oNum]
              simp only [go_sem,hin]
              refine trX_loop HE hP.mix [110,0] (fun y:Nat × List Nat × Nat=>⟨upd (upd (upd (upd (upd (upd (upd (upd (upd (fun _=>.junk) 0 (.str s')) 2 (.ref 0 0)) 3 (.int .i64 0)) 5 (.sl 110 0 nd 1)) 6 (.int .i64 (i:Int))) 7 (.int .u64 (y.2.2:Int))) 8 (.int .u64 (p:Int))) 72 (.int .i64 (nd:Int))) 73 (.int .i64 (y.1:Int)),upd (upd (fun _=>.unused) 0 (.live [.int .u64 0,.nils])) 110 (.live (List.map (fun d:Nat=>AV.int .u64 (d:Int)) (y.2.1++d.drop y.1))),109⟩)
               (fun y=>y.1≤nd∧y.2.1.length=y.1∧(∀ x ∈ y.2.1,x<18446744073709551616)∧y.2.2<18446744073709551616∧dOf 18446744073709551616 y.2.1+18446744073709551616^y.1*y.2.2=dOf 18446744073709551616 (d.take y.1)*p+c) (fun y=>nd-y.1) (0,[],c) 114 Has.z (Kept.of rfl KT.z KM.z) ⟨Nat.zero_le _,rfl,by simp,hcb,by simp [dOf]⟩ 109 (by kernel_rfl) ?_
              rintro ⟨j,dn,e⟩ ⟨j1,j2,j3,j4,j5⟩
              simp only [] at j1 j2 j3 j4 j5
              by_cases hj:j<nd
              · have hjd:j<d.length:=by omega
                have hxd:=p5 _ (getD_mem hjd)
                have hlen:j<(dn++d.drop j).length:=by rw [List.length_append,List.length_drop]; omega
                have hlen':j<dn.length+(d.length-j):=by omega
                have hget:(dn++d.drop j).getD j 0=d.getD j 0:=by rw [drop_cons hjd]; exact get_app (R:=d.drop (j+1)) j2
                have hset:∀ z,(dn++d.drop j).set j z=(dn++[z])++d.drop (j+1):=fun z=>by rw [drop_cons hjd,List.append_assoc]; exact set_app (R:=d.drop (j+1)) j2
                have hcar:=away_carry hxd hpb j4
                have hw2:=wu_add' _ _ hcar
                have hml:=mull_lt (d.getD j 0) p
                have hwj:=wi_add1 j (by omega)
                simp only [go_sem,hj,hlen,hlen',gU hlen,hget,hset,hxd,hpb,hml,hw2,hwj,upd_upd]
                refine ⟨(j+1,dn++[addl (mull (d.getD j 0) p) e 0],mulh (d.getD j 0) p+addh (mull (d.getD j 0) p) e 0),Kept.of rfl KT.z KM.z,⟨by simp only []; omega,by simp only [List.length_append,List.length_singleton]; omega,?_,hcar,?_⟩,by simp only []; omega⟩
                · intro x hx
                  rcases List.mem_append.1 hx with hx|hx
                  · exact j3 x hx
                  · rw [List.mem_singleton.1 hx]; exact addl_lt _ _ _
                · simp only []
                  rw [dOf_snoc,j2,dOf_take_succ 18446744073709551616 d j hjd,Nat.pow_succ]
                  exact mul_acc j5 (away_digit (d.getD j 0) p e)
              · have hje:j=nd:=by omega
                subst hje
                have ht:d.take j=d:=List.take_of_length_le (by omega)
                have hdr:d.drop j=[]:=List.drop_of_length_le (by omega)
                rw [ht,← hval] at j5
                rw [hdr,List.append_nil]
                by_cases hc:0<e
                · have hjb:(j+1)*8≤1099511627776:=by omega
                  simp only [go_sem,hj,hc,size_bl,hl',hnl,map_snoc]
                  exact ⟨⟨j2,by simp,fun _=>trivial,hjb⟩,⟨s'.extract i l'.length,k+i,some (false,true),j+1,dn++[e]⟩,Kept.of rfl KT.z KM.z,⟨hs'',by simp only []; omega,by simp only [List.length_append,List.length_singleton]; omega,by simp only []; omega,fun x hx=>by
                   rcases List.mem_append.1 hx with hx|hx
                   · exact j3 x hx
                   · rw [List.mem_singleton.1 hx]; exact j4,by simp only []; rw [dOf_snoc,j2]; exact j5,by simp,by simp⟩,by simp only []; omega⟩
                · have he0:e=0:=by omega
                  rw [he0,Nat.mul_zero,Nat.add_zero] at j5
                  simp only [go_sem,hj,hc,size_bl,hl',hnl]
                  exact ⟨⟨s'.extract i l'.length,k+i,some (false,false),j,dn⟩,Kept.of rfl KT.z KM.z,⟨hs'',by simp only []; omega,j2,by simp only []; omega,j3,j5,by simp,by simp⟩,by simp only []; omega⟩
           ·
            simp only [oV,oM,oNum]
            simp only [go_sem,size_bl,hl',hl0,w1,w2,w3]
            refine ⟨by decide,?_⟩
            refine trX_loop HE hP.mix [120,0] (fun y:Nat × Nat × Nat=>⟨upd (upd (upd (upd (upd (upd (upd (upd (upd (fun _=>.junk) 0 (.str s')) 2 (.ref 0 0)) 3 (.int .i64 0)) 5 (oV (some (false,true)) nd)) 6 (.int .i64 (n:Int))) 7 (.int .u64 (y.2.1:Int))) 8 (.int .u64 (y.2.2:Int))) 56 (.int .i64 (n:Int))) 57 (.int .i64 (y.1:Int)),oM .u64 (upd (fun _=>.unused) 0 (.live [.int .u64 0,.nils])) (some (false,true)) d,109⟩)
             (fun y=>y.1≤n∧y.2.1=valL (l'.take y.1)∧y.2.1<10^y.1∧y.2.2=10^y.1) (fun y=>n-y.1) (0,0,1) 20 Has.z (Kept.of rfl KT.z KM.z) ⟨Nat.zero_le _,rfl,by decide,rfl⟩ 109 (by kernel_rfl) ?_
            rintro ⟨i,c,p⟩ ⟨q1,q2,q3,q4⟩
            simp only [] at q1 q2 q3 q4
            by_cases hin:i<n
            · have hil:i<l'.length:=by omega
              obtain ⟨g1,g2⟩:=hdig i hil
              have g3:10^i≤10^18:=Nat.pow_le_pow_right (by decide) (by omega)
              have f1:IntKind.u64.wrap (10*(c:Int))=((10*c:Nat):Int):=by rw [IntKind.wrap_u64]; omega
              have f2:IntKind.u8.wrap (((l'.getD i 0:Nat):Int)-48)=((l'.getD i 0-48:Nat):Int):=by rw [IntKind.wrap_u8]; omega
              have f3:=u_nat (l'.getD i 0-48) (by omega)
              have f4:=wu_add' (10*c) (l'.getD i 0-48) (by omega)
              have f5:IntKind.u64.wrap (10*(p:Int))=((10*p:Nat):Int):=by rw [IntKind.wrap_u64]; omega
              have f6:=wi_add1 i (by omega)
              simp only [oV,oM,oNum]
              simp only [go_sem,size_bl,get_bl,hl',hin,hil,f1,f2,f3,f4,f5,f6]
              exact ⟨(i+1,10*c+(l'.getD i 0-48),10*p),Kept.of rfl KT.z KM.z,⟨by simp only []; omega,by simp only []; rw [valL_take_succ hil,q2],by simp only []; rw [Nat.pow_succ]; omega,by simp only []; rw [q4,Nat.pow_succ,Nat.mul_comm]⟩,by simp only []; omega⟩
            · have hie:i=n:=by omega
              subst hie
              have hpb:=hp10 i hn19
              rw [← q4] at hpb
              have hcb:c<18446744073709551616:=by omega
              have hs'':bl (s'.extract i l'.length)=l.drop (k+i):=by
               rw [bl_extract,hl',p1,List.drop_drop,List.take_of_length_le (by rw [List.length_drop,List.length_drop]; omega)]
              have hval:valL (l.take (k+i))=dOf 18446744073709551616 d*p+c:=by
               have e:l.take (k+i)=l.take k++l'.take i:=by rw [p1,List.take_add]
               rw [e,valL_app,List.length_take,Nat.min_eq_left hnl,p6,q4,q2]
              simp only [oV,oM,oNum]
              simp only [go_sem,hin]
              refine trX_loop HE hP.mix [120,0] (fun y:Nat × List Nat × Nat=>⟨upd (upd (upd (upd (upd (upd (upd (upd (upd (fun _=>.junk) 0 (.str s')) 2 (.ref 0 0)) 3 (.int .i64 0)) 5 (.sl 120 0 nd 1)) 6 (.int .i64 (i:Int))) 7 (.int .u64 (y.2.2:Int))) 8 (.int .u64 (p:Int))) 72 (.int .i64 (nd:Int))) 73 (.int .i64 (y.1:Int)),upd (upd (fun _=>.unused) 0 (.live [.int .u64 0,.nils])) 120 (.live (List.map (fun d:Nat=>AV.int .u64 (d:Int)) (y.2.1++d.drop y.1))),109⟩)
               (fun y=>y.1≤nd∧y.2.1.length=y.1∧(∀ x ∈ y.2.1,x<18446744073709551616)∧y.2.2<18446744073709551616∧dOf 18446744073709551616 y.2.1+18446744073709551616^y.1*y.2.2=dOf 18446744073709551616 (d.take y.1)*p+c) (fun y=>nd-y.1) (0,[],c) 104 Has.z (Kept.of rfl KT.z KM.z) ⟨Nat.zero_le _,rfl,by simp,hcb,by simp [dOf]⟩ 109 (by kernel_rfl) ?_
              rintro ⟨j,dn,e⟩ ⟨j1,j2,j3,j4,j5⟩
              simp only [] at j1 j2 j3 j4 j5
              by_cases hj:j<nd
              · have hjd:j<d.length:=by omega
                have hxd:=p5 _ (getD_mem hjd)
                have hlen:j<(dn++d.drop j).length:=by rw [List.length_append,List.length_drop]; omega
                have hlen':j<dn.length+(d.length-j):=by omega
                have hget:(dn++d.drop j).getD j 0=d.getD j 0:=by rw [drop_cons hjd]; exact get_app (R:=d.drop (j+1)) j2
                have hset:∀ z,(dn++d.drop j).set j z=(dn++[z])++d.drop (j+1):=fun z=>by rw [drop_cons hjd,List.append_assoc]; exact set_app (R:=d.drop (j+1)) j2
                have hcar:=away_carry hxd hpb j4
                have hw2:=wu_add' _ _ hcar
                have hml:=mull_lt (d.getD j 0) p
                have hwj:=wi_add1 j (by omega)
                simp only [go_sem,hj,hlen,hlen',gU hlen,hget,hset,hxd,hpb,hml,hw2,hwj,upd_upd]
                refine ⟨(j+1,dn++[addl (mull (d.getD j 0) p) e 0],mulh (d.getD j 0) p+addh (mull (d.getD j 0) p) e 0),Kept.of rfl KT.z KM.z,⟨by simp only []; omega,by simp only [List.length_append,List.length_singleton]; omega,?_,hcar,?_⟩,by simp only []; omega⟩
                · intro x hx
                  rcases List.mem_append.1 hx with hx|hx
                  · exact j3 x hx
                  · rw [List.mem_singleton.1 hx]; exact addl_lt _ _ _
                · simp only []
                  rw [dOf_snoc,j2,dOf_take_succ 18446744073709551616 d j hjd,Nat.pow_succ]
                  exact mul_acc j5 (away_digit (d.getD j 0) p e)
              · have hje:j=nd:=by omega
                subst hje
                have ht:d.take j=d:=List.take_of_length_le (by omega)
                have hdr:d.drop j=[]:=List.drop_of_length_le (by omega)
                rw [ht,← hval] at j5
                rw [hdr,List.append_nil]
                by_cases hc:0<e
                · have hjb:(j+1)*8≤1099511627776:=by omega
                  simp only [go_sem,hj,hc,size_bl,hl',hnl,map_snoc]
                  exact ⟨⟨j2,by simp,fun _=>trivial,hjb⟩,⟨s'.extract i l'.length,k+i,some (false,false),j+1,dn++[e]⟩,Kept.of rfl KT.z KM.z,⟨hs'',by simp only []; omega,by simp only [List.length_append,List.length_singleton]; omega,by simp only []; omega,fun x hx=>by
                   rcases List.mem_append.1 hx with hx|hx
                   · exact j3 x hx
                   · rw [List.mem_singleton.1 hx]; exact j4,by simp only []; rw [dOf_snoc,j2]; exact j5,by simp,by simp⟩,by simp only []; omega⟩
                · have he0:e=0:=by omega
                  rw [he0,Nat.mul_zero,Nat.add_zero] at j5
                  simp only [go_sem,hj,hc,size_bl,hl',hnl]
                  exact ⟨⟨s'.extract i l'.length,k+i,some (false,true),j,dn⟩,Kept.of rfl KT.z KM.z,⟨hs'',by simp only []; omega,j2,by simp only []; omega,j3,j5,by simp,by simp⟩,by simp only []; omega⟩
           · exact absurd rfl (p8 false)
           · exact absurd rfl (p8 true)
         · have hl0:¬ 0<l'.length:=by omega
           rcases D with _|⟨_|_,_|_⟩
           · have hd:=(p7 rfl).1
             simp only [oV,oM,oNum]
             have htk:d.take nd=d:=List.take_of_length_le (by omega)
             have hz3:(∀ x ∈ d,x<18446744073709551616)=True:=eq_true p5
             have hsl:nd<4611686018427387904:=by omega
             have hkk:l.take k=l:=List.take_of_length_le (by omega)
             rw [hkk] at p6
             simp only [go_sem,size_bl,hl',hl0,htk,hz3,p3,hsl]
             first
              | (rw [← p6]; exact .refl _)
              | (rw [← p6,hd]; exact .refl _)
           ·
            simp only [oV,oM,oNum]
            have htk:d.take nd=d:=List.take_of_length_le (by omega)
            have hz3:(∀ x ∈ d,x<18446744073709551616)=True:=eq_true p5
            have hsl:nd<4611686018427387904:=by omega
            have hkk:l.take k=l:=List.take_of_length_le (by omega)
            rw [hkk] at p6
            simp only [go_sem,size_bl,hl',hl0,htk,hz3,p3,hsl]
            first
             | (rw [← p6]; exact .refl _)
             | (rw [← p6,hd]; exact .refl _)
           ·
            simp only [oV,oM,oNum]
            have htk:d.take nd=d:=List.take_of_length_le (by omega)
            have hz3:(∀ x ∈ d,x<18446744073709551616)=True:=eq_true p5
            have hsl:nd<4611686018427387904:=by omega
            have hkk:l.take k=l:=List.take_of_length_le (by omega)
            rw [hkk] at p6
            simp only [go_sem,size_bl,hl',hl0,htk,hz3,p3,hsl]
            first
             | (rw [← p6]; exact .refl _)
             | (rw [← p6,hd]; exact .refl _)
           · exact absurd rfl (p8 false)
           · exact absurd rfl (p8 true)
theorem valL_blen {l:List Nat} (h:okD l) (h2:l.length≤256):blen (valL l)≤1024:=by
 have h1:=valL_lt (l:=l) (fun c hc=>(h.2.2 c hc).2)
 have h4:10^l.length≤16^l.length:=Nat.pow_le_pow_left (by decide) _
 have h5:(16:Nat)^l.length=2^(4*l.length):=by rw [show (16:Nat)=2^4 from rfl,← Nat.pow_mul]
 have h6:blen (valL l)≤4*l.length:=by
  rw [blen_le_iff,← h5]; exact Nat.lt_of_lt_of_le h1 h4
 omega
noncomputable def ParseS:List AV→Option (Prop × AV)
 | [.str s]=>some ((bl s).length≤281474976710656,parseR (bl s))
 | _=>none
theorem ParseS_ok (hP:PrgOk P) (args p r) (h:ParseS args=some (p,r)) (hp:p):CSpec P 134 args r:=by
 unfold ParseS at h
 split at h
 · simp only [Option.some.injEq,Prod.mk.injEq] at h
   obtain ⟨rfl,rfl⟩:=h
   exact Parse_spec hP _ hp
 · simp at h
attribute [go_sem] ParseS
theorem valL_dv {l:List Nat} (h:∀ c ∈ l,48≤c):valL l=dv l.reverse:=by
 induction l with
 | nil=>rfl
 | cons c t ih =>
   have e:=valL_app [c] t
   simp only [List.singleton_append] at e
   have hc:=h c (by simp)
   have e2:valL [c]=c-48:=by simp [valL]
   rw [e,e2,ih (fun d hd=>h d (by simp [hd])),List.reverse_cons,show c=48+(c-48) by omega,dv_snoc,List.length_reverse,Nat.mul_comm,Nat.add_comm]
   congr 2; omega
theorem decL_val {l:List Nat} (h:okD l):decL (valL l)=l:=by
 obtain ⟨h1,h2,h3⟩:=h
 have hb:byt l.reverse:=fun c hc=>by have:=h3 c (by simpa using hc); omega
 have hv:=valL_dv (l:=l) (fun c hc=>(h3 c hc).1)
 obtain ⟨c,t,rfl⟩:∃ c t,l=c::t:=by cases l with|nil=>exact absurd rfl h1|cons c t=>exact ⟨c,t,rfl⟩
 have hc:=h3 c (by simp)
 have e:=valL_app [c] t
 simp only [List.singleton_append] at e
 have e2:valL [c]=c-48:=by simp [valL]
 rcases Nat.eq_zero_or_pos (c-48) with h0|h0
 · have ht:t=[]:=by
    cases t with
    | nil=>rfl
    | cons d t=>exact absurd ⟨by simp,by simp; omega⟩ h2
   subst ht
   have hc48:c=48:=by omega
   subst hc48; rfl
 · have hp:0<valL (c::t):=by
    rw [e,e2]; have:0<(c-48)*10^t.length:=Nat.mul_pos h0 (Nat.pow_pos (by decide))
    omega
   have:=text_end hb hv (fun hne=>by simp; omega) hp
   rw [this,List.reverse_reverse]
theorem bytesS_bl (s:ByteArray):bytesS ((bl s).map fun d:Nat=>AV.int .u8 (d:Int))=s:=by
 obtain ⟨a⟩:=s
 unfold bytesS bl
 congr 1
 rw [List.map_map,List.map_map]
 have:((toB ∘ fun d:Nat=>AV.int .u8 (d:Int)) ∘ UInt8.toNat)=id:=by funext b; simp [toB]
 rw [this,List.map_id]
theorem bl_bytesS {m:List Nat} (h:∀ c ∈ m,c<256):bl (bytesS (m.map fun d:Nat=>AV.int .u8 (d:Int)))=m:=by
 unfold bytesS bl
 simp only [List.map_map]
 conv=>rhs; rw [← List.map_id m]
 refine List.map_congr_left fun c hc=>?_
 have:=h c hc
 simp [toB]; omega
theorem dig10 (a:Nat):∀ d ∈ digs 10 a,d<10:=digs_lt 10 a (by decide)
theorem okD_decL (a:Nat):okD (decL a):=by
 unfold decL
 split
 · exact ⟨by simp,by simp,by simp⟩
 · rename_i ha
   have hne:digs 10 a ≠ []:=by intro e; have:=dOf_digs 10 a (by decide); rw [e] at this; simp [dOf] at this; omega
   have hc:=digs_canon 10 a (by decide) hne
   have hall:∀ c ∈ dec10 a,48≤c∧c≤57:=fun c hc=>by
    obtain ⟨d,hd,rfl⟩:=List.mem_map.1 hc
    have:=dig10 a d hd; omega
   refine ⟨by simp [dec10,hne],?_,fun c hc=>hall c (by simpa using hc)⟩
   rintro ⟨_,h2⟩
   have hne2:dec10 a ≠ []:=by simp [dec10,hne]
   have e:(dec10 a).reverse.getD 0 0=(dec10 a).getLast hne2:=by
    rw [List.getD_eq_getElem?_getD,List.getElem?_reverse (List.length_pos_iff.2 hne2),Nat.sub_zero,List.getLast_eq_getElem,List.getElem?_eq_getElem]; rfl
   rw [e] at h2
   have h3:(dec10 a).getLast hne2=48+(digs 10 a).getLast hne:=by
    have:dec10 a=(digs 10 a).map (48+·):=rfl
    simp only [this]; exact List.getLast_map ..
   omega
theorem valL_decL (a:Nat):valL (decL a)=a:=by
 have h:=okD_decL a
 rw [valL_dv (fun c hc=>(h.2.2 c hc).1)]
 unfold decL
 split
 · rename_i ha; subst ha; rfl
 · rw [List.reverse_reverse]
   unfold dv dec10
   rw [List.map_map]
   have:((fun x=>x-48) ∘ fun x=>48+x)=(id:Nat→Nat):=by funext d; simp
   rw [this,List.map_id,dOf_digs 10 a (by decide)]
theorem bl_decS (a:Nat):bl (decS a)=decL a:=bl_bytesS fun c hc=>by have:=(okD_decL a).2.2 c hc; omega
theorem decL_len (a:Nat):(decL a).length≤blen a+1:=by
 unfold decL; split
 · simp
 · rw [List.length_reverse]; unfold dec10; rw [List.length_map]
   have:=digs_length_le 10 a (blen a) (by decide) (Nat.lt_of_lt_of_le (blen_lt a) (Nat.pow_le_pow_left (by decide) _))
   omega
theorem str_same (x y:ByteArray):(x.toList == y.toList)=decide (x=y):=by
 rw [ByteArray.toList_eq,ByteArray.toList_eq,Bool.eq_iff_iff,beq_iff_eq,decide_eq_true_eq]
 constructor
 · intro h; cases x; cases y; congr 1; exact Array.ext' h
 · intro h; rw [h]
theorem strs_only (f):∀ l:List ByteArray,onlyL f (l.map AV.str)=true
 | []=>rfl
 | s::l=>by simp only [List.map_cons,onlyL,AV.only,Bool.true_and]; exact strs_only f l
theorem strs_drop (l:List ByteArray) (i:Nat):(l.map AV.str).drop i=(l.drop i).map AV.str:=List.map_drop.symm
theorem strs_head (l:List ByteArray):AV.head (l.map AV.str)=true:=by cases l<;>rfl
attribute [go_sem] strs_only strs_drop strs_head
theorem lap_cons {α:Type} (a:α) (l r:List α):List.append (a::l) r=a::List.append l r:=rfl
theorem lap_nil {α:Type} (r:List α):List.append [] r=r:=rfl
attribute [go_sem] lap_cons lap_nil
def val (s:ByteArray):Nat:=valL (bl s)
theorem gcd_blen {a b n:Nat} (ha:blen a≤n) (hb:blen b≤n):blen (Nat.gcd a b)≤n:=by
 rcases Nat.eq_zero_or_pos a with h|h
 · subst h; rw [Nat.gcd_zero_left]; exact hb
 · exact blen_le_of (Nat.le_of_dvd h (Nat.gcd_dvd_left a b)) ha
noncomputable def Sh:Nat→List AV→Option (Prop × AV):=addS (addS (addS Sg 134 ParseS) 98 GcdS) 104 AddS
theorem Sh_ok (hP:PrgOk P):EnvOk P ⟨T0,Sh⟩:=((((Sg_ok hP).add (ParseS_ok hP)).add (GcdS_ok hP)).add (AddS_ok hP))
theorem Sh_at (f a):Sh f a=(addS (addS (addS Sg 134 ParseS) 98 GcdS) 104 AddS) f a:=rfl
attribute [go_sem] Sh_at
def isR (n:Nat) (cs:List AV):Prop:=cs=(List.map (fun d:Nat=>AV.int .u32 (d:Int)) (cs.map ud))∧n=cs.length∧(∀ d ∈ cs.map ud,d<65536)∧Canon (cs.map ud)
def rawR:AV→Option (Prop × Nat)
 | .nils=>some (True,0)
 | .imm n cs=>some (isR n cs,dOf 65536 (cs.map ud))
 | .opq (.rnat n)=>some (True,n)
 | _=>none
theorem rawR_opq (n:Nat):rawR (.opq (.rnat (n)))=some (True,n):=rfl
theorem CvL.rnatIn (n:Nat) {xs bs} (k:CvL xs bs):CvL ((.opq (.rnat (n)))::xs) ((.imm (digs 65536 (n)).length (List.map (fun d:Nat=>AV.int .u32 (d:Int)) (digs 65536 (n))))::bs):=fun W φ w l hl=>by
 have h:=RL.unfold (x:=.rnat n) (rest:=xs) (by simpa [Pay.width] using hl)
 exact (CvL.cons (a:=(.imm (digs 65536 (n)).length (List.map (fun d:Nat=>AV.int .u32 (d:Int)) (digs 65536 (n))))) rfl k) W φ w l (by simpa [Pay.open] using h)
theorem Conv.rnat (n:Nat):Conv (.imm (digs 65536 (n)).length (List.map (fun d:Nat=>AV.int .u32 (d:Int)) (digs 65536 (n)))) (.opq (.rnat (n))):=CvL.conv (by simpa [Pay.open,Pay.width] using CvL.fold (.rnat n) [] rfl)
theorem rawR_nils:rawR .nils=some (True,0):=rfl
theorem rawR_imm (n cs):rawR (.imm n cs)=some (isR n cs,dOf 65536 (cs.map ud)):=rfl
theorem isR_digs (a:Nat):isR (digs 65536 a).length (List.map (fun d:Nat=>AV.int .u32 (d:Int)) (digs 65536 a))=True:=by
 unfold isR
 rw [map_ud32]
 exact eq_true ⟨rfl,by rw [List.length_map],digs_lt 65536 a (by decide),digs_canon 65536 a (by decide)⟩
theorem isR_nil:isR 0 []=True:=eq_true ⟨rfl,rfl,by simp,by intro h; exact absurd rfl h⟩
theorem dOf_digs16 (a:Nat):dOf 65536 (digs 65536 a)=a:=dOf_digs _ _ (by decide)
theorem CvL.nilR {xs bs} (k:CvL xs bs):CvL (.nils::xs) (.imm 0 []::bs):=fun _ _ _ _ hl=>by
 obtain ⟨v,vs,rfl,h1,h2⟩:=hl.uncons rfl
 rw [h1.nils_inv]
 exact .imm0 _ _ (k _ _ _ _ h2)
theorem rawR_cv {v:AV} {p a} (h:rawR v=some (p,a)) (hp:p) {xs bs} (k:CvL xs bs):CvL (v::xs) ((.imm (digs 65536 (a)).length (List.map (fun d:Nat=>AV.int .u32 (d:Int)) (digs 65536 (a))))::bs):=by
 unfold rawR at h
 split at h
 · simp only [Option.some.injEq,Prod.mk.injEq] at h
   obtain ⟨rfl,rfl⟩:=h
   have e:digs 65536 0=[]:=digs_zero _
   rw [e]; exact .nilR k
 · simp only [Option.some.injEq,Prod.mk.injEq] at h
   obtain ⟨rfl,rfl⟩:=h
   rename_i n cs
   obtain ⟨h1,h2,h3,h4⟩:=hp
   have e:=digs_dOf 65536 (by decide) (cs.map ud) h3 h4
   rw [e,List.length_map,← h2,← h1]
   exact .cons rfl k
 · simp only [Option.some.injEq,Prod.mk.injEq] at h
   obtain ⟨rfl,rfl⟩:=h
   exact .rnatIn _ k
 · simp at h
def onR1 (f:Nat→Prop × AV):List AV→Option (Prop × AV)
 | [x]=>(rawR x).map fun a=>(a.1∧(f a.2).1,(f a.2).2)
 | _=>none
def onR2 (f:Nat→Nat→Prop × AV):List AV→Option (Prop × AV)
 | [x,y]=>(rawR x).bind fun a=>(rawR y).map fun b=>(a.1∧b.1∧(f a.2 b.2).1,(f a.2 b.2).2)
 | _=>none
theorem onR1_ok {P:Program} {fi:Nat} {f:Nat→Prop × AV} (h:∀ a,(f a).1→CSpec P fi [(.imm (digs 65536 (a)).length (List.map (fun d:Nat=>AV.int .u32 (d:Int)) (digs 65536 (a))))] (f a).2) (args p r) (he:onR1 f args=some (p,r)) (hp:p):CSpec P fi args r:=by
 unfold onR1 at he
 split at he
 · simp only [Option.map_eq_some_iff,Prod.exists,Prod.mk.injEq] at he
   obtain ⟨q,a,h1,rfl,rfl⟩:=he
   exact (h a hp.2).cv (rawR_cv h1 hp.1 .nil)
 · simp at he
theorem onR2_ok {P:Program} {fi:Nat} {f:Nat→Nat→Prop × AV} (h:∀ a b,(f a b).1→CSpec P fi [(.imm (digs 65536 (a)).length (List.map (fun d:Nat=>AV.int .u32 (d:Int)) (digs 65536 (a)))),(.imm (digs 65536 (b)).length (List.map (fun d:Nat=>AV.int .u32 (d:Int)) (digs 65536 (b))))] (f a b).2) (args p r) (he:onR2 f args=some (p,r)) (hp:p):CSpec P fi args r:=by
 unfold onR2 at he
 split at he
 · simp only [Option.bind_eq_some_iff,Option.map_eq_some_iff,Prod.exists,Prod.mk.injEq] at he
   obtain ⟨q,a,h1,q',b,h2,rfl,rfl⟩:=he
   exact (h a b hp.2.2).cv (rawR_cv h1 hp.1 (rawR_cv h2 hp.2.1 .nil))
 · simp at he
theorem onR1_eq (f x):onR1 f [x]=(rawR x).map fun a=>(a.1∧(f a.2).1,(f a.2).2):=rfl
theorem onR2_eq (f x y):onR2 f [x,y]=(rawR x).bind fun a=>(rawR y).map fun b=>(a.1∧b.1∧(f a.2 b.2).1,(f a.2 b.2).2):=rfl
attribute [go_sem] rawR_opq rawR_nils rawR_imm isR_digs isR_nil dOf_digs16 onR1_eq onR2_eq
theorem rcut_spec (hP:PrgOk P) (l:List Nat) (hd:∀ d ∈ l,d<65536) (hn:l.length<4611686018427387904):CSpec P 130 [.imm l.length (List.map (fun d:Nat=>AV.int .u32 (d:Int)) (l))] (.imm (digs 65536 (dOf 65536 l)).length (List.map (fun d:Nat=>AV.int .u32 (d:Int)) (digs 65536 (dOf 65536 l)))):=by
 have HE:=Sh_ok hP
 refine CSpec_go (E:=⟨T0,Sh⟩) (fn130 hP) HE hP.mix ?_
 simp only [go_sem]
 refine trX_loop HE hP.mix [] (fun k:Nat=>⟨upd (upd (upd (fun _=>.junk) 0 (.imm l.length (List.map (fun d:Nat=>AV.int .u32 (d:Int)) (l)))) 2 .nils) 3 (.int .i64 (k:Int)),fun _=>.unused,21⟩) (fun k=>k≤l.length∧dOf 65536 (l.take k)=dOf 65536 l) (fun k=>k) l.length 1
  Has.z (Kept.of rfl KT.z KM.z) ⟨Nat.le_refl _,by simp⟩ 21 (by kernel_rfl) ?_
 intro k ⟨hk,he⟩
 have fin:Canon (l.take k)→(digs 65536 (dOf 65536 l))=l.take k:=fun hc=>by
  rw [← he]; exact digs_dOf 65536 (by decide) _ (fun d hd'=>hd d (List.mem_of_mem_take hd')) hc
 have hkl:(l.take k).length=k:=by rw [List.length_take]; omega
 cases k with
 | zero =>
   simp only [go_sem,Int.lt_irrefl]
   rw [fin (by intro h; exact absurd rfl h)]
   exact .refl _
 | succ k =>
   have h2:=wi_nat k (by omega)
   have hk':k<l.length:=by omega
   have hk2:k≤l.length:=by omega
   have htk:=take_snoc hk'
   simp only [go_sem,h2,gU' hk',hk',hk2]
   refine if_split (fun hz=>?_) (fun hz=>?_)
   · simp only [go_sem,h2]
     have hz:=eq_of_beq hz
     refine ⟨k,Kept.of rfl KT.z KM.z,⟨by omega,?_⟩,by omega⟩
     rw [← he,htk,hz,dOf_append]; simp [dOf]
   · have hz:l.getD k 0 ≠ 0:=by simpa using hz
     simp only [go_sem,hk]
     rw [fin (canon_take hk hz),hkl]
     exact .refl _
def rcutS:List AV→Option (Prop × AV)
 | [.nils]=>some (True,(.imm (digs 65536 (0)).length (List.map (fun d:Nat=>AV.int .u32 (d:Int)) (digs 65536 (0)))))
 | [.imm n cs]=>some (cs=(List.map (fun d:Nat=>AV.int .u32 (d:Int)) (cs.map ud))∧n=cs.length∧(∀ d ∈ cs.map ud,d<65536)∧n<4611686018427387904,(.imm (digs 65536 (dOf 65536 (cs.map ud))).length (List.map (fun d:Nat=>AV.int .u32 (d:Int)) (digs 65536 (dOf 65536 (cs.map ud))))))
 | _=>none
theorem rcutS_ok (hP:PrgOk P) (args p r) (h:rcutS args=some (p,r)) (hp:p):CSpec P 130 args r:=by
 unfold rcutS at h
 split at h
 · simp only [Option.some.injEq,Prod.mk.injEq] at h
   obtain ⟨rfl,rfl⟩:=h
   exact (rcut_spec hP [] (by simp) (by decide)).cv (.nilR .nil)
 · simp only [Option.some.injEq,Prod.mk.injEq] at h
   obtain ⟨rfl,rfl⟩:=h
   obtain ⟨h1,h2,h3,h4⟩:=hp
   have:=rcut_spec hP _ h3 (by simp; omega)
   rw [← h1,List.length_map,← h2] at this
   exact this
 · simp at h
attribute [go_sem] rcutS
structure RS where
 m:Nat
 D:OD
 k:Nat
 o:List Nat
theorem rof_step {n D p m:Nat} (h:n=D+p*m):n=D+p*(m % 65536)+p*65536*(m / 65536):=by
 rw [h,Nat.mul_assoc,Nat.add_assoc,← Nat.mul_add,Nat.mod_add_div]
theorem dOf_snocR (l:List Nat) (s:Nat):dOf 65536 (l++[s])=dOf 65536 l+65536^l.length*s:=by
 rw [dOf_append]; simp [dOf]
theorem canon_snoc (l:List Nat) (s:Nat) (h:s ≠ 0):Canon (l++[s]):=fun _=>by simpa using h
theorem rOf_spec (hP:PrgOk P) (n:Nat) (hn:n<18446744073709551616):CSpec P 127 [.int .u64 (n:Int)] (.imm (digs 65536 (n)).length (List.map (fun d:Nat=>AV.int .u32 (d:Int)) (digs 65536 (n)))):=by
 have HE:=Sh_ok hP
 refine CSpec_go (E:=⟨T0,Sh⟩) (fn127 hP) HE hP.mix ?_
 simp only [go_sem]
 refine trX_loopV HE hP.mix (fun q:RS=>oL [] q.D) (fun q=>⟨upd (upd (upd (fun _=>.junk) 0 (.int .u64 (q.m:Int))) 2 .nils) 3 (oV q.D q.k),oM .u32 (fun _=>.unused) q.D q.o,15⟩)
  (fun q=>q.m≤n∧q.o.length=q.k∧(∀ d ∈ q.o,d<65536)∧n=dOf 65536 q.o+65536^q.k*q.m∧(q.m=0→Canon q.o)∧(q.D=none→q.o=[]∧q.k=0)∧(∀ b,q.D ≠ some (true,b))) (fun q=>q.m) ⟨n,none,0,[]⟩ (fun q=>pX 7 q.D)
  (fun x r hr=>absurd rfl hr) (Kept.of rfl KT.z KM.z) ⟨Nat.le_refl _,rfl,by simp,by simp [dOf],fun _ h=>absurd rfl h,fun _=>⟨rfl,rfl⟩,by simp⟩ 15 (by kernel_rfl) ?_
 rintro ⟨m,D,k,o⟩ ⟨h1,h2,h3,h4,h5,h6,h7⟩
 simp only [] at h1 h2 h3 h4 h5 h6 h7
 by_cases hm0:0<m
 · have g1:(m:Int).tmod 65536=((m % 65536:Nat):Int):=rfl
   have g2:IntKind.u32.wrap ((m % 65536:Nat):Int)=((m % 65536:Nat):Int):=by rw [IntKind.wrap_u32]; omega
   have g3:IntKind.u64.wrap ((m:Int).tdiv 65536)=((m / 65536:Nat):Int):=wu_div m 65536 (by omega)
   have hk4:k<4:=by
    have:65536^k*1≤65536^k*m:=Nat.mul_le_mul_left _ hm0
    refine (Nat.pow_lt_pow_iff_right (a:=65536) (by decide)).1 ?_
    have e:(65536:Nat)^4=18446744073709551616:=by decide
    omega
   have hst:∀ o'',o''=o++[m % 65536]→o''.length=k+1∧(∀ d ∈ o'',d<65536)∧n=dOf 65536 o''+65536^(k+1)*(m / 65536)∧(m / 65536=0→Canon o''):=fun o'' e=>by
    subst e
    refine ⟨by simp [h2],fun d hd=>?_,?_,fun e=>canon_snoc _ _ (by omega)⟩
    · rcases List.mem_append.1 hd with hd|hd
      · exact h3 d hd
      · rw [List.mem_singleton.1 hd]; omega
    · rw [dOf_snocR,h2,Nat.pow_succ]; exact rof_step h4
   have c2:(k+1)*4≤1099511627776:=by omega
   rcases D with _|⟨_|_,_|_⟩
   · simp only [oV,oM,oNum,pX]
     simp only [go_sem,hm0,g1,g2,g3,map_snoc,h2,c2]
     obtain ⟨e1,e2⟩:=h6 rfl
     subst e1
     subst e2
     obtain ⟨y1,y2,y3,y4⟩:=hst [m % 65536] rfl
     exact ⟨by decide,⟨by simp,fun _=>trivial⟩,by decide,⟨m / 65536,some (false,false),1,[m % 65536]⟩,Kept.of rfl KT.z KM.z,⟨by simp only []; omega,y1,y2,y3,y4,by simp,by simp⟩,by simp only []; omega⟩
   · simp only [oV,oM,oNum,pX]
     simp only [go_sem,hm0,g1,g2,g3,map_snoc,h2,c2]
     obtain ⟨y1,y2,y3,y4⟩:=hst _ rfl
     exact ⟨by decide,⟨by simp,by simp⟩,by decide,⟨m / 65536,some (false,true),k+1,o++[m % 65536]⟩,Kept.of rfl KT.z KM.z,⟨by simp only []; omega,y1,y2,y3,y4,by simp,by simp⟩,by simp only []; omega⟩
   · simp only [oV,oM,oNum,pX]
     simp only [go_sem,hm0,g1,g2,g3,map_snoc,h2,c2]
     obtain ⟨y1,y2,y3,y4⟩:=hst _ rfl
     exact ⟨by decide,⟨by simp,by simp⟩,by decide,⟨m / 65536,some (false,false),k+1,o++[m % 65536]⟩,Kept.of rfl KT.z KM.z,⟨by simp only []; omega,y1,y2,y3,y4,by simp,by simp⟩,by simp only []; omega⟩
   · exact absurd rfl (h7 false)
   · exact absurd rfl (h7 true)
 · have hm:m=0:=by omega
   subst hm
   have hn':dOf 65536 o=n:=by rw [h4]; simp
   have hd:digs 65536 n=o:=by rw [← hn']; exact digs_dOf 65536 (by decide) o h3 (h5 rfl)
   have htk:o.take k=o:=List.take_of_length_le (by omega)
   rw [hd]
   rcases D with _|⟨_|_,_|_⟩
   · obtain ⟨e1,e2⟩:=h6 rfl
     subst e1
     simp only [oV,oM,oNum]
     simp only [go_sem,hm0]
     exact CvL.conv (.nilR .nil)
   · simp only [oV,oM,oNum]
     simp only [go_sem,hm0,htk,h2]
     exact .refl _
   · simp only [oV,oM,oNum]
     simp only [go_sem,hm0,htk,h2]
     exact .refl _
   · exact absurd rfl (h7 false)
   · exact absurd rfl (h7 true)
def rOfS:List AV→Option (Prop × AV)
 | [.int .u64 n]=>some (0≤n∧n<18446744073709551616,(.imm (digs 65536 (n.toNat)).length (List.map (fun d:Nat=>AV.int .u32 (d:Int)) (digs 65536 (n.toNat)))))
 | _=>none
theorem rOfS_ok (hP:PrgOk P) (args p r) (h:rOfS args=some (p,r)) (hp:p):CSpec P 127 args r:=by
 unfold rOfS at h
 split at h
 · simp only [Option.some.injEq,Prod.mk.injEq] at h
   obtain ⟨rfl,rfl⟩:=h
   rename_i n
   have:=rOf_spec hP n.toNat (by omega)
   rw [nn hp.1] at this; exact this
 · simp at h
attribute [go_sem] rOfS
theorem len4 (a:Nat):4<(digs 65536 a).length ↔ ¬ a<18446744073709551616:=by
 constructor
 · intro h hlt
   have:=digs_length_le 65536 a 4 (by decide) (by rw [show (65536:Nat)^4=18446744073709551616 by decide]; exact hlt)
   omega
 · intro h
   exact digs_length_gt 65536 a 4 (by decide) (by rw [show (65536:Nat)^4=18446744073709551616 by decide]; omega)
theorem Small_spec (hP:PrgOk P) (a:Nat) (hl:(digs 65536 a).length≤1099511627776):CSpec P 170 [(.imm (digs 65536 (a)).length (List.map (fun d:Nat=>AV.int .u32 (d:Int)) (digs 65536 (a))))] (.tup [.int .u64 ((if a<18446744073709551616 then a else 0:Nat):Int),.bool (decide (a<18446744073709551616))]):=by
 have HE:=Sh_ok hP
 have hxd:∀ d ∈ digs 65536 a,d<65536:=digs_lt 65536 a (by decide)
 have hx:=dOf_digs 65536 a (by decide)
 have h4:=len4 a
 refine CSpec_go (E:=⟨T0,Sh⟩) (fn170 hP) HE hP.mix ?_
 generalize digs 65536 a=x at *
 by_cases hb:a<18446744073709551616
 · have hx4:¬ 4<x.length:=fun h=>(h4.1 h) hb
   have hwp:=wi_pred' x.length (by omega)
   rw [if_pos hb,decide_eq_true hb]
   simp only [go_sem,hx4,hwp]
   refine trX_loop HE hP.mix [] (fun q:Nat × Nat=>⟨upd (upd (upd (upd (upd (fun _=>.junk) 0 (.imm x.length (List.map (fun d:Nat=>AV.int .u32 (d:Int)) (x)))) 2 (.int .u64 0)) 3 (.bool false)) 4 (.int .u64 (q.2:Int))) 5 (.int .i64 ((q.1:Int)-1)),fun _=>.unused,25⟩)
    (fun q=>q.1≤x.length∧q.2=dOf 65536 (x.drop q.1)) (fun q=>q.1) (x.length,0) 20 Has.z (Kept.of rfl KT.z KM.z) ⟨Nat.le_refl _,by simp [dOf]⟩ 25 (by kernel_rfl) ?_
   rintro ⟨k,c⟩ ⟨q1,q2⟩
   simp only [] at q1 q2
   cases k with
   | zero =>
     have h0:((0:Int)≤((0:Nat):Int)-1)=False:=by simp
     simp only [go_sem,h0]
     rw [q2,List.drop_zero,hx]; exact .refl _
   | succ k =>
     have hk:k<x.length:=by omega
     have hk2:k≤x.length:=by omega
     have hdk:=hxd _ (getD_mem hk)
     have hdr:=drop_cons hk
     have hwk:=wi_pred' k (by omega)
     have hc:c<65536^3:=by
      rw [q2]
      refine Nat.lt_of_lt_of_le (dOf_lt 65536 _ (fun d hd=>hxd d (List.mem_of_mem_drop hd))) (Nat.pow_le_pow_right (by decide) ?_)
      rw [List.length_drop]; omega
     have e3:(65536:Nat)^3=281474976710656:=by decide
     have f1:IntKind.u64.wrap ((c:Int)*65536)=((c*65536:Nat):Int):=by rw [IntKind.wrap_u64]; omega
     have f2:=u_nat (x.getD k 0) (by omega)
     have f3:=wu_add' (c*65536) (x.getD k 0) (by omega)
     simp only [go_sem,hk,hk2,gU' hk,f1,f2,f3,hwk]
     exact ⟨(k,c*65536+x.getD k 0),Kept.of rfl KT.z KM.z,⟨by simp only []; omega,by simp only []; rw [hdr]; simp only [dOf]; omega⟩,by simp only []; omega⟩
 · have hx4:4<x.length:=h4.2 hb
   rw [if_neg hb,decide_eq_false hb]
   simp only [go_sem,hx4]
   exact .refl _
def SmallS:List AV→Option (Prop × AV):=onR1 fun a=>((digs 65536 a).length≤1099511627776,.tup [.int .u64 ((if a<18446744073709551616 then a else 0:Nat):Int),.bool (decide (a<18446744073709551616))])
theorem SmallS_ok (hP:PrgOk P) (args p r):SmallS args=some (p,r)→p→CSpec P 170 args r:=onR1_ok (fun a h=>by exact Small_spec hP a h) args p r
attribute [go_sem] SmallS
theorem rlen_blen (a:Nat):(digs 65536 a).length≤blen a:=by
 refine digs_length_le 65536 a (blen a) (by decide) (Nat.lt_of_lt_of_le (blen_lt a) (Nat.pow_le_pow_left (by decide) _))
theorem rCmp_spec (hP:PrgOk P) (a b:Nat) (ha:blen a≤68719476736) (hb:blen b≤68719476736):CSpec P 139 [(.imm (digs 65536 (a)).length (List.map (fun d:Nat=>AV.int .u32 (d:Int)) (digs 65536 (a)))),(.imm (digs 65536 (b)).length (List.map (fun d:Nat=>AV.int .u32 (d:Int)) (digs 65536 (b))))] (.int .i64 (cmpI a b)):=by
 have HE:=Sh_ok hP
 have hxd:∀ d ∈ digs 65536 a,d<65536:=digs_lt 65536 a (by decide)
 have hyd:∀ d ∈ digs 65536 b,d<65536:=digs_lt 65536 b (by decide)
 have hx:=dOf_digs 65536 a (by decide)
 have hy:=dOf_digs 65536 b (by decide)
 have hlx:=rlen_blen a
 have hly:=rlen_blen b
 have hlt:=digs_len_lt 65536 a b (by decide)
 have hgt:=digs_len_lt 65536 b a (by decide)
 refine CSpec_go (E:=⟨T0,Sh⟩) (fn139 hP) HE hP.mix ?_
 generalize digs 65536 a=x at *
 generalize digs 65536 b=y at *
 simp only [go_sem]
 refine if_split (fun h=>?_) (fun h=>?_)
 · simp only [go_sem]
   refine if_split (fun h=>?_) (fun h'=>?_)
   · simp only [go_sem]
     rw [cmpI_lt (hlt (of_decide_eq_true h))]; exact .refl _
   · simp only [go_sem]
     have h':=of_decide_eq_false h'
     have h:x.length ≠ y.length:=by simpa using h
     rw [cmpI_gt (hgt (by omega))]; exact .refl _
 · have hxy:y.length=x.length:=by simpa using Eq.symm (by simpa using h)
   have hw:=wi_pred' x.length (by omega)
   simp only [go_sem,hw]
   refine trX_loop HE hP.mix [] (fun k:Nat=>⟨upd (upd (upd (upd (fun _=>.junk) 0 (.imm x.length (List.map (fun d:Nat=>AV.int .u32 (d:Int)) (x)))) 1 (.imm y.length (List.map (fun d:Nat=>AV.int .u32 (d:Int)) (y)))) 4 (.int .i64 0)) 5 (.int .i64 ((k:Int)-1)),fun _=>.unused,41⟩) (fun k=>k≤x.length∧x.drop k=y.drop k) (fun k=>k) x.length 2
    Has.z (Kept.of rfl KT.z KM.z) ⟨Nat.le_refl _,by rw [List.drop_length,← hxy,List.drop_length]⟩ 41 (by kernel_rfl) ?_
   intro k ⟨hk,he⟩
   cases k with
   | zero =>
     have h0:((0:Int)≤((0:Nat):Int)-1)=False:=by simp
     simp only [go_sem,h0]
     have:a=b:=by rw [← hx,← hy]; simp at he; rw [he]
     rw [this,cmpI_eq]; exact .refl _
   | succ k =>
     have k1:k<x.length:=by omega
     have k2:k<y.length:=by omega
     have k3:k≤x.length:=by omega
     have k4:k≤y.length:=by omega
     simp only [go_sem,k1,k2,k3,k4,gU' k1,gU' k2]
     refine if_split (fun h=>?_) (fun h=>?_)
     · simp only [go_sem]
       have:=dOf_cmp 65536 x y hxd k k1 k2 he (of_decide_eq_true h)
       rw [cmpI_lt (by omega)]; exact .refl _
     · simp only [go_sem,k1,k2,k3,k4,gU' k1,gU' k2]
       refine if_split (fun h'=>?_) (fun h'=>?_)
       · simp only [go_sem]
         have:=dOf_cmp 65536 y x hyd k k2 k1 he.symm (of_decide_eq_true h')
         rw [cmpI_gt (by omega)]; exact .refl _
       · have hw:=wi_pred' k (by omega)
         simp only [go_sem,hw]
         refine ⟨k,Kept.of rfl KT.z KM.z,⟨by omega,?_⟩,by omega⟩
         have e1:=List.drop_eq_getElem_cons k1
         have e2:=List.drop_eq_getElem_cons k2
         have h:=of_decide_eq_false h
         have h':=of_decide_eq_false h'
         rw [getD_get k1,getD_get k2] at h
         rw [getD_get k1,getD_get k2] at h'
         rw [e1,e2,he,show x[k]=y[k] by omega]
def rCmpS:List AV→Option (Prop × AV):=onR2 fun a b=>(blen a≤68719476736∧blen b≤68719476736,.int .i64 (cmpI a b))
theorem rCmpS_ok (hP:PrgOk P) (args p r):rCmpS args=some (p,r)→p→CSpec P 139 args r:=onR2_ok (fun a b h=>by exact rCmp_spec hP a b h.1 h.2) args p r
attribute [go_sem] rCmpS
noncomputable def Sk:Nat→List AV→Option (Prop × AV):=addS (addS (addS (addS Sh 130 rcutS) 127 rOfS) 170 SmallS) 139 rCmpS
theorem Sk_ok (hP:PrgOk P):EnvOk P ⟨T0,Sk⟩:=(((((Sh_ok hP).add (rcutS_ok hP)).add (rOfS_ok hP)).add (SmallS_ok hP)).add (rCmpS_ok hP))
theorem Sk_at (f a):Sk f a=(addS (addS (addS (addS Sh 130 rcutS) 127 rOfS) 170 SmallS) 139 rCmpS) f a:=rfl
attribute [go_sem] Sk_at
structure AS where
 i:Nat
 c:Nat
 D:OD
 o:List Nat
theorem take_any (x:List Nat) (i:Nat):dOf 65536 (x.take (i+1))=dOf 65536 (x.take i)+65536^i*x.getD i 0:=by
 by_cases h:i<x.length
 · exact dOf_take_succ 65536 x i h
 · rw [List.take_of_length_le (show x.length≤i by omega),List.take_of_length_le (show x.length≤i+1 by omega),getD_ge (by omega)]; simp
theorem radd_step {O p c X Y x y s:Nat} (h:O+p*c=X+Y) (hs:s=c+x+y):O+p*(s % 65536)+p*65536*(s / 65536)=(X+p*x)+(Y+p*y):=by
 have e:=Nat.mod_add_div s 65536
 have e2:=congrArg (p*·) (e.trans hs)
 simp only [Nat.mul_add,← Nat.mul_assoc] at e2
 omega
theorem rAdd_spec (hP:PrgOk P) (a b:Nat) (ha:blen a≤68719476736) (hb:blen b≤68719476736):CSpec P 138 [(.imm (digs 65536 (a)).length (List.map (fun d:Nat=>AV.int .u32 (d:Int)) (digs 65536 (a)))),(.imm (digs 65536 (b)).length (List.map (fun d:Nat=>AV.int .u32 (d:Int)) (digs 65536 (b))))] (.imm (digs 65536 (a+b)).length (List.map (fun d:Nat=>AV.int .u32 (d:Int)) (digs 65536 (a+b)))):=by
 have HE:=Sk_ok hP
 have hxd:∀ d ∈ digs 65536 a,d<65536:=digs_lt 65536 a (by decide)
 have hyd:∀ d ∈ digs 65536 b,d<65536:=digs_lt 65536 b (by decide)
 have hx:=dOf_digs 65536 a (by decide)
 have hy:=dOf_digs 65536 b (by decide)
 have hlx:=rlen_blen a
 have hly:=rlen_blen b
 have rcut:∀ l:List Nat,(∀ d ∈ l,d<65536)→l.length<4611686018427387904→dOf 65536 l=a+b→CSpec P 130 [.imm l.length (List.map (fun d:Nat=>AV.int .u32 (d:Int)) (l))] (.imm (digs 65536 (a+b)).length (List.map (fun d:Nat=>AV.int .u32 (d:Int)) (digs 65536 (a+b)))):=fun l h1 h2 h3=>h3 ▸ rcut_spec hP l h1 h2
 refine CSpec_go (E:=⟨T0,Sk⟩) (fn138 hP) HE hP.mix ?_
 generalize digs 65536 a=x at *
 generalize digs 65536 b=y at *
 simp only [go_sem]
 refine trX_loopV HE hP.mix (fun q:AS=>oL [] q.D) (fun q=>⟨upd (upd (upd (upd (upd (upd (fun _=>.junk) 0 (.imm x.length (List.map (fun d:Nat=>AV.int .u32 (d:Int)) (x)))) 1 (.imm y.length (List.map (fun d:Nat=>AV.int .u32 (d:Int)) (y)))) 4 .nils) 5 (oV q.D q.i)) 6 (.int .u32 (q.c:Int))) 7 (.int .i64 (q.i:Int)),oM .u32 (fun _=>.unused) q.D q.o,55⟩)
  (fun q=>q.i≤max x.length y.length+1∧q.o.length=q.i∧(∀ d ∈ q.o,d<65536)∧(q.c≤1∧(q.i=max x.length y.length+1→q.c=0))∧dOf 65536 q.o+65536^q.i*q.c=dOf 65536 (x.take q.i)+dOf 65536 (y.take q.i)∧(q.D=none→q.o=[]∧q.i=0)∧(∀ b,q.D ≠ some (true,b))) (fun q=>max x.length y.length+1-q.i) ⟨0,0,none,[]⟩ (fun q=>pX (if q.i<x.length then (if q.i<y.length then 36 else 29) else (if q.i<y.length then 33 else 28)) q.D)
  (fun x r hr=>absurd rfl hr) (Kept.of rfl KT.z KM.z) ⟨Nat.zero_le _,rfl,by simp,⟨by simp,fun _=>rfl⟩,by simp [dOf],fun _=>⟨rfl,rfl⟩,by simp⟩ 55 (by kernel_rfl) ?_
 rintro ⟨i,c,D,o⟩ ⟨h1,h2,h3,⟨h4,h4'⟩,h5,h6,h7⟩
 simp only [] at h1 h2 h3 h4 h4' h5 h6 h7
 obtain ⟨s,hs⟩:∃ s,c+x.getD i 0+y.getD i 0=s:=⟨_,rfl⟩
 have hM1:=Nat.le_max_left x.length y.length
 have hM2:=Nat.le_max_right x.length y.length
 have hM3:max x.length y.length≤68719476736:=Nat.max_le.2 ⟨by omega,by omega⟩
 have hwi:=wi_add1 i (by omega)
 have c2:(i+1)*4≤1099511627776:=by omega
 have hxb:x.getD i 0<65536:=by
  by_cases h:i<x.length
  · exact hxd _ (getD_mem h)
  · rw [getD_ge (by omega)]; decide
 have hyb:y.getD i 0<65536:=by
  by_cases h:i<y.length
  · exact hyd _ (getD_mem h)
  · rw [getD_ge (by omega)]; decide
 have g1:(s:Int).tmod 65536=((s % 65536:Nat):Int):=rfl
 have g2:IntKind.u32.wrap ((s:Int).tdiv 65536)=((s / 65536:Nat):Int):=by
  rw [show (s:Int).tdiv 65536=((s / 65536:Nat):Int) from rfl,IntKind.wrap_u32]; omega
 have hst:i≤max x.length y.length→∀ o'',o''=o++[s % 65536]→i+1≤max x.length y.length+1∧o''.length=i+1∧(∀ d ∈ o'',d<65536)∧(s / 65536≤1∧(i+1=max x.length y.length+1→s / 65536=0))∧dOf 65536 o''+65536^(i+1)*(s / 65536)=dOf 65536 (x.take (i+1))+dOf 65536 (y.take (i+1)):=fun hi o'' e=>by
  subst e
  refine ⟨by omega,by simp [h2],fun d hd=>?_,⟨by omega,fun e=>?_⟩,?_⟩
  · rcases List.mem_append.1 hd with hd|hd
    · exact h3 d hd
    · rw [List.mem_singleton.1 hd]; omega
  · rw [getD_ge (show x.length≤i by omega),getD_ge (show y.length≤i by omega)] at hs; omega
  · rw [dOf_snocR,h2,Nat.pow_succ,take_any,take_any]
    exact radd_step h5 hs.symm
 by_cases hix:i<x.length
 · have k1:i≤x.length:=by omega
   have f1:IntKind.u32.wrap ((c:Int)+((x.getD i 0:Nat):Int))=((c+x.getD i 0:Nat):Int):=by rw [IntKind.wrap_u32]; omega
   have hst:=hst (by omega)
   by_cases hiy:i<y.length
   · have k2:i≤y.length:=by omega
     have f2:IntKind.u32.wrap (((c+x.getD i 0:Nat):Int)+((y.getD i 0:Nat):Int))=(s:Int):=by rw [IntKind.wrap_u32]; omega
     rcases D with _|⟨_|_,_|_⟩
     · simp only [oV,oM,oNum,pX,hix,hiy,if_true,if_false]
       simp only [go_sem,hix,hiy,k1,k2,gU' hix,gU' hiy,f1,f2,g1,g2,hwi,h2,map_snoc,c2]
       obtain ⟨e1,e2⟩:=h6 rfl
       subst e1
       subst e2
       obtain ⟨y1,y2,y3,y4,y5⟩:=hst ([s % 65536]) rfl
       exact ⟨by decide,by first|exact ⟨by simp,fun _=>trivial⟩|exact ⟨by simp,by simp⟩,by decide,⟨0+1,s / 65536,some (false,false),[s % 65536]⟩,Kept.of rfl KT.z KM.z,⟨y1,y2,y3,y4,y5,by simp,by simp⟩,by simp only []; omega⟩
     · simp only [oV,oM,oNum,pX,hix,hiy,if_true,if_false]
       simp only [go_sem,hix,hiy,k1,k2,gU' hix,gU' hiy,f1,f2,g1,g2,hwi,h2,map_snoc,c2]
       obtain ⟨y1,y2,y3,y4,y5⟩:=hst (o++[s % 65536]) rfl
       exact ⟨by decide,by first|exact ⟨by simp,fun _=>trivial⟩|exact ⟨by simp,by simp⟩,by decide,⟨i+1,s / 65536,some (false,true),o++[s % 65536]⟩,Kept.of rfl KT.z KM.z,⟨y1,y2,y3,y4,y5,by simp,by simp⟩,by simp only []; omega⟩
     · simp only [oV,oM,oNum,pX,hix,hiy,if_true,if_false]
       simp only [go_sem,hix,hiy,k1,k2,gU' hix,gU' hiy,f1,f2,g1,g2,hwi,h2,map_snoc,c2]
       obtain ⟨y1,y2,y3,y4,y5⟩:=hst (o++[s % 65536]) rfl
       exact ⟨by decide,by first|exact ⟨by simp,fun _=>trivial⟩|exact ⟨by simp,by simp⟩,by decide,⟨i+1,s / 65536,some (false,false),o++[s % 65536]⟩,Kept.of rfl KT.z KM.z,⟨y1,y2,y3,y4,y5,by simp,by simp⟩,by simp only []; omega⟩
     · exact absurd rfl (h7 false)
     · exact absurd rfl (h7 true)
   · have f1:IntKind.u32.wrap ((c:Int)+((x.getD i 0:Nat):Int))=(s:Int):=by
      rw [getD_ge (show y.length≤i by omega)] at hs; rw [IntKind.wrap_u32]; omega
     rcases D with _|⟨_|_,_|_⟩
     · simp only [oV,oM,oNum,pX,hix,hiy,if_true,if_false]
       simp only [go_sem,hix,hiy,k1,gU' hix,f1,g1,g2,hwi,h2,map_snoc,c2]
       obtain ⟨e1,e2⟩:=h6 rfl
       subst e1
       subst e2
       obtain ⟨y1,y2,y3,y4,y5⟩:=hst ([s % 65536]) rfl
       exact ⟨by decide,by first|exact ⟨by simp,fun _=>trivial⟩|exact ⟨by simp,by simp⟩,by decide,⟨0+1,s / 65536,some (false,false),[s % 65536]⟩,Kept.of rfl KT.z KM.z,⟨y1,y2,y3,y4,y5,by simp,by simp⟩,by simp only []; omega⟩
     · simp only [oV,oM,oNum,pX,hix,hiy,if_true,if_false]
       simp only [go_sem,hix,hiy,k1,gU' hix,f1,g1,g2,hwi,h2,map_snoc,c2]
       obtain ⟨y1,y2,y3,y4,y5⟩:=hst (o++[s % 65536]) rfl
       exact ⟨by decide,by first|exact ⟨by simp,fun _=>trivial⟩|exact ⟨by simp,by simp⟩,by decide,⟨i+1,s / 65536,some (false,true),o++[s % 65536]⟩,Kept.of rfl KT.z KM.z,⟨y1,y2,y3,y4,y5,by simp,by simp⟩,by simp only []; omega⟩
     · simp only [oV,oM,oNum,pX,hix,hiy,if_true,if_false]
       simp only [go_sem,hix,hiy,k1,gU' hix,f1,g1,g2,hwi,h2,map_snoc,c2]
       obtain ⟨y1,y2,y3,y4,y5⟩:=hst (o++[s % 65536]) rfl
       exact ⟨by decide,by first|exact ⟨by simp,fun _=>trivial⟩|exact ⟨by simp,by simp⟩,by decide,⟨i+1,s / 65536,some (false,false),o++[s % 65536]⟩,Kept.of rfl KT.z KM.z,⟨y1,y2,y3,y4,y5,by simp,by simp⟩,by simp only []; omega⟩
     · exact absurd rfl (h7 false)
     · exact absurd rfl (h7 true)
 · by_cases hiy:i<y.length
   · have k2:i≤y.length:=by omega
     have hst:=hst (by omega)
     have f1:IntKind.u32.wrap ((c:Int)+((y.getD i 0:Nat):Int))=(s:Int):=by
      rw [getD_ge (show x.length≤i by omega)] at hs; rw [IntKind.wrap_u32]; omega
     rcases D with _|⟨_|_,_|_⟩
     · simp only [oV,oM,oNum,pX,hix,hiy,if_true,if_false]
       simp only [go_sem,hix,hiy,k2,gU' hiy,f1,g1,g2,hwi,h2,map_snoc,c2]
       obtain ⟨e1,e2⟩:=h6 rfl
       subst e1
       subst e2
       obtain ⟨y1,y2,y3,y4,y5⟩:=hst ([s % 65536]) rfl
       exact ⟨by decide,by first|exact ⟨by simp,fun _=>trivial⟩|exact ⟨by simp,by simp⟩,by decide,⟨0+1,s / 65536,some (false,false),[s % 65536]⟩,Kept.of rfl KT.z KM.z,⟨y1,y2,y3,y4,y5,by simp,by simp⟩,by simp only []; omega⟩
     · simp only [oV,oM,oNum,pX,hix,hiy,if_true,if_false]
       simp only [go_sem,hix,hiy,k2,gU' hiy,f1,g1,g2,hwi,h2,map_snoc,c2]
       obtain ⟨y1,y2,y3,y4,y5⟩:=hst (o++[s % 65536]) rfl
       exact ⟨by decide,by first|exact ⟨by simp,fun _=>trivial⟩|exact ⟨by simp,by simp⟩,by decide,⟨i+1,s / 65536,some (false,true),o++[s % 65536]⟩,Kept.of rfl KT.z KM.z,⟨y1,y2,y3,y4,y5,by simp,by simp⟩,by simp only []; omega⟩
     · simp only [oV,oM,oNum,pX,hix,hiy,if_true,if_false]
       simp only [go_sem,hix,hiy,k2,gU' hiy,f1,g1,g2,hwi,h2,map_snoc,c2]
       obtain ⟨y1,y2,y3,y4,y5⟩:=hst (o++[s % 65536]) rfl
       exact ⟨by decide,by first|exact ⟨by simp,fun _=>trivial⟩|exact ⟨by simp,by simp⟩,by decide,⟨i+1,s / 65536,some (false,false),o++[s % 65536]⟩,Kept.of rfl KT.z KM.z,⟨y1,y2,y3,y4,y5,by simp,by simp⟩,by simp only []; omega⟩
     · exact absurd rfl (h7 false)
     · exact absurd rfl (h7 true)
   · have hsc:s=c:=by
      rw [getD_ge (show x.length≤i by omega),getD_ge (show y.length≤i by omega)] at hs; omega
     by_cases hc:0<c
     · have hst:=hst (by
        rcases Nat.lt_or_ge (max x.length y.length) i with h|h
        · have:=h4' (by omega); omega
        · exact h)
       subst hsc
       rcases D with _|⟨_|_,_|_⟩
       · simp only [oV,oM,oNum,pX,hix,hiy,if_true,if_false]
         simp only [go_sem,hix,hiy,hc,g1,g2,hwi,h2,map_snoc,c2]
         obtain ⟨e1,e2⟩:=h6 rfl
         subst e1
         subst e2
         obtain ⟨y1,y2,y3,y4,y5⟩:=hst ([s % 65536]) rfl
         exact ⟨by decide,by first|exact ⟨by simp,fun _=>trivial⟩|exact ⟨by simp,by simp⟩,by decide,⟨0+1,s / 65536,some (false,false),[s % 65536]⟩,Kept.of rfl KT.z KM.z,⟨y1,y2,y3,y4,y5,by simp,by simp⟩,by simp only []; omega⟩
       · simp only [oV,oM,oNum,pX,hix,hiy,if_true,if_false]
         simp only [go_sem,hix,hiy,hc,g1,g2,hwi,h2,map_snoc,c2]
         obtain ⟨y1,y2,y3,y4,y5⟩:=hst (o++[s % 65536]) rfl
         exact ⟨by decide,by first|exact ⟨by simp,fun _=>trivial⟩|exact ⟨by simp,by simp⟩,by decide,⟨i+1,s / 65536,some (false,true),o++[s % 65536]⟩,Kept.of rfl KT.z KM.z,⟨y1,y2,y3,y4,y5,by simp,by simp⟩,by simp only []; omega⟩
       · simp only [oV,oM,oNum,pX,hix,hiy,if_true,if_false]
         simp only [go_sem,hix,hiy,hc,g1,g2,hwi,h2,map_snoc,c2]
         obtain ⟨y1,y2,y3,y4,y5⟩:=hst (o++[s % 65536]) rfl
         exact ⟨by decide,by first|exact ⟨by simp,fun _=>trivial⟩|exact ⟨by simp,by simp⟩,by decide,⟨i+1,s / 65536,some (false,false),o++[s % 65536]⟩,Kept.of rfl KT.z KM.z,⟨y1,y2,y3,y4,y5,by simp,by simp⟩,by simp only []; omega⟩
       · exact absurd rfl (h7 false)
       · exact absurd rfl (h7 true)
     · have hc0:c=0:=by omega
       rw [hc0,List.take_of_length_le (show x.length≤i by omega),List.take_of_length_le (show y.length≤i by omega),hx,hy,Nat.mul_zero,Nat.add_zero] at h5
       have htk:o.take i=o:=List.take_of_length_le (by omega)
       have hz3:(∀ d ∈ o,d<65536)=True:=eq_true h3
       have hsl:i<4611686018427387904:=by omega
       rcases D with _|⟨_|_,_|_⟩
       · obtain ⟨e1,e2⟩:=h6 rfl
         subst e1
         simp only [oV,oM,oNum]
         simp only [go_sem,hix,hiy,hc]
         rw [← h5]; exact .refl _
       · simp only [oV,oM,oNum]
         simp only [go_sem,hix,hiy,hc,htk,hz3,h2,hsl]
         rw [h5]; exact .refl _
       · simp only [oV,oM,oNum]
         simp only [go_sem,hix,hiy,hc,htk,hz3,h2,hsl]
         rw [h5]; exact .refl _
       · exact absurd rfl (h7 false)
       · exact absurd rfl (h7 true)
def rAddS:List AV→Option (Prop × AV):=onR2 fun a b=>(blen a≤68719476736∧blen b≤68719476736,(.imm (digs 65536 (a+b)).length (List.map (fun d:Nat=>AV.int .u32 (d:Int)) (digs 65536 (a+b)))))
theorem rAddS_ok (hP:PrgOk P) (args p r):rAddS args=some (p,r)→p→CSpec P 138 args r:=onR2_ok (fun a b h=>by exact rAdd_spec hP a b h.1 h.2) args p r
attribute [go_sem] rAddS
theorem rsub_step {O p c X Y x y s:Nat} (h:O+Y=X+p*c) (hs:s+c+y=x+65536) (hs2:s / 65536≤1):O+p*(s % 65536)+(Y+p*y)=(X+p*x)+p*65536*(1-s / 65536):=by
 have e:=Nat.mod_add_div s 65536
 have e3:s % 65536+c+y=x+65536*(1-s / 65536):=by omega
 have e2:=congrArg (p*·) e3
 simp only [Nat.mul_add,← Nat.mul_assoc] at e2
 omega
theorem rSub_spec (hP:PrgOk P) (a b:Nat) (ha:blen a≤68719476736) (hba:b≤a):CSpec P 140 [(.imm (digs 65536 (a)).length (List.map (fun d:Nat=>AV.int .u32 (d:Int)) (digs 65536 (a)))),(.imm (digs 65536 (b)).length (List.map (fun d:Nat=>AV.int .u32 (d:Int)) (digs 65536 (b))))] (.imm (digs 65536 (a-b)).length (List.map (fun d:Nat=>AV.int .u32 (d:Int)) (digs 65536 (a-b)))):=by
 have HE:=Sk_ok hP
 have hb:blen b≤68719476736:=blen_le_of hba ha
 have hxd:∀ d ∈ digs 65536 a,d<65536:=digs_lt 65536 a (by decide)
 have hyd:∀ d ∈ digs 65536 b,d<65536:=digs_lt 65536 b (by decide)
 have hx:=dOf_digs 65536 a (by decide)
 have hy:=dOf_digs 65536 b (by decide)
 have hlx:=rlen_blen a
 have hyx:(digs 65536 b).length≤(digs 65536 a).length:=by
  rcases Nat.lt_or_ge (digs 65536 a).length (digs 65536 b).length with h|h
  · have:=digs_len_lt 65536 a b (by decide) h; omega
  · exact h
 refine CSpec_go (E:=⟨T0,Sk⟩) (fn140 hP) HE hP.mix ?_
 generalize digs 65536 a=x at *
 generalize digs 65536 b=y at *
 simp only [go_sem]
 refine trX_loopV HE hP.mix (fun q:AS=>oL [] q.D) (fun q=>⟨upd (upd (upd (upd (upd (upd (fun _=>.junk) 0 (.imm x.length (List.map (fun d:Nat=>AV.int .u32 (d:Int)) (x)))) 1 (.imm y.length (List.map (fun d:Nat=>AV.int .u32 (d:Int)) (y)))) 4 .nils) 5 (oV q.D q.i)) 6 (.int .u32 (q.c:Int))) 7 (.int .i64 (q.i:Int)),oM .u32 (fun _=>.unused) q.D q.o,42⟩)
  (fun q=>q.i≤x.length∧q.o.length=q.i∧(∀ d ∈ q.o,d<65536)∧q.c≤1∧dOf 65536 q.o+dOf 65536 (y.take q.i)=dOf 65536 (x.take q.i)+65536^q.i*q.c∧(q.D=none→q.o=[]∧q.i=0)∧(∀ b,q.D ≠ some (true,b))) (fun q=>x.length-q.i) ⟨0,0,none,[]⟩ (fun q=>pX (if q.i<y.length then 27 else 20) q.D)
  (fun x r hr=>absurd rfl hr) (Kept.of rfl KT.z KM.z) ⟨Nat.zero_le _,rfl,by simp,by simp,by simp [dOf],fun _=>⟨rfl,rfl⟩,by simp⟩ 42 (by kernel_rfl) ?_
 rintro ⟨i,c,D,o⟩ ⟨h1,h2,h3,h4,h5,h6,h7⟩
 simp only [] at h1 h2 h3 h4 h5 h6 h7
 by_cases hix:i<x.length
 · have hxb:=hxd _ (getD_mem hix)
   have hyb:y.getD i 0<65536:=by
    by_cases h:i<y.length
    · exact hyd _ (getD_mem h)
    · rw [getD_ge (by omega)]; decide
   obtain ⟨s,hs⟩:∃ s,s+c+y.getD i 0=x.getD i 0+65536:=⟨x.getD i 0+65536-c-y.getD i 0,by omega⟩
   have hwi:=wi_add1 i (by omega)
   have k1:i≤x.length:=by omega
   have c2:(i+1)*4≤1099511627776:=by omega
   have g1:(s:Int).tmod 65536=((s % 65536:Nat):Int):=rfl
   have g2:IntKind.u32.wrap ((s:Int).tdiv 65536)=((s / 65536:Nat):Int):=by
    rw [show (s:Int).tdiv 65536=((s / 65536:Nat):Int) from rfl,IntKind.wrap_u32]; omega
   have g3:IntKind.u32.wrap (1-((s / 65536:Nat):Int))=((1-s / 65536:Nat):Int):=by rw [IntKind.wrap_u32]; omega
   have hst:∀ o'',o''=o++[s % 65536]→i+1≤x.length∧o''.length=i+1∧(∀ d ∈ o'',d<65536)∧1-s / 65536≤1∧dOf 65536 o''+dOf 65536 (y.take (i+1))=dOf 65536 (x.take (i+1))+65536^(i+1)*(1-s / 65536):=fun o'' e=>by
    subst e
    refine ⟨by omega,by simp [h2],fun d hd=>?_,by omega,?_⟩
    · rcases List.mem_append.1 hd with hd|hd
      · exact h3 d hd
      · rw [List.mem_singleton.1 hd]; omega
    · rw [dOf_snocR,h2,Nat.pow_succ,take_any,take_any]
      exact rsub_step h5 hs (by omega)
   have f1:IntKind.u32.wrap (((x.getD i 0:Nat):Int)+65536)=((x.getD i 0+65536:Nat):Int):=by rw [IntKind.wrap_u32]; omega
   by_cases hiy:i<y.length
   · have k2:i≤y.length:=by omega
     have f2:IntKind.u32.wrap (((x.getD i 0+65536:Nat):Int)-(c:Int))=((x.getD i 0+65536-c:Nat):Int):=by rw [IntKind.wrap_u32]; omega
     have f3:IntKind.u32.wrap (((x.getD i 0+65536-c:Nat):Int)-((y.getD i 0:Nat):Int))=(s:Int):=by rw [IntKind.wrap_u32]; omega
     rcases D with _|⟨_|_,_|_⟩
     · simp only [oV,oM,oNum,pX,hix,hiy,if_true,if_false]
       simp only [go_sem,hix,hiy,k1,k2,gU' hix,gU' hiy,f1,f2,f3,g1,g2,g3,hwi,h2,map_snoc,c2]
       obtain ⟨e1,e2⟩:=h6 rfl
       subst e1
       subst e2
       obtain ⟨y1,y2,y3,y4,y5⟩:=hst ([s % 65536]) rfl
       exact ⟨by decide,by first|exact ⟨by simp,fun _=>trivial⟩|exact ⟨by simp,by simp⟩,by decide,⟨0+1,1-s / 65536,some (false,false),[s % 65536]⟩,Kept.of rfl KT.z KM.z,⟨y1,y2,y3,y4,y5,by simp,by simp⟩,by simp only []; omega⟩
     · simp only [oV,oM,oNum,pX,hix,hiy,if_true,if_false]
       simp only [go_sem,hix,hiy,k1,k2,gU' hix,gU' hiy,f1,f2,f3,g1,g2,g3,hwi,h2,map_snoc,c2]
       obtain ⟨y1,y2,y3,y4,y5⟩:=hst (o++[s % 65536]) rfl
       exact ⟨by decide,by first|exact ⟨by simp,fun _=>trivial⟩|exact ⟨by simp,by simp⟩,by decide,⟨i+1,1-s / 65536,some (false,true),o++[s % 65536]⟩,Kept.of rfl KT.z KM.z,⟨y1,y2,y3,y4,y5,by simp,by simp⟩,by simp only []; omega⟩
     · simp only [oV,oM,oNum,pX,hix,hiy,if_true,if_false]
       simp only [go_sem,hix,hiy,k1,k2,gU' hix,gU' hiy,f1,f2,f3,g1,g2,g3,hwi,h2,map_snoc,c2]
       obtain ⟨y1,y2,y3,y4,y5⟩:=hst (o++[s % 65536]) rfl
       exact ⟨by decide,by first|exact ⟨by simp,fun _=>trivial⟩|exact ⟨by simp,by simp⟩,by decide,⟨i+1,1-s / 65536,some (false,false),o++[s % 65536]⟩,Kept.of rfl KT.z KM.z,⟨y1,y2,y3,y4,y5,by simp,by simp⟩,by simp only []; omega⟩
     · exact absurd rfl (h7 false)
     · exact absurd rfl (h7 true)
   · have f2:IntKind.u32.wrap (((x.getD i 0+65536:Nat):Int)-(c:Int))=(s:Int):=by
      rw [getD_ge (show y.length≤i by omega)] at hs; rw [IntKind.wrap_u32]; omega
     rcases D with _|⟨_|_,_|_⟩
     · simp only [oV,oM,oNum,pX,hix,hiy,if_true,if_false]
       simp only [go_sem,hix,hiy,k1,gU' hix,f1,f2,g1,g2,g3,hwi,h2,map_snoc,c2]
       obtain ⟨e1,e2⟩:=h6 rfl
       subst e1
       subst e2
       obtain ⟨y1,y2,y3,y4,y5⟩:=hst ([s % 65536]) rfl
       exact ⟨by decide,by first|exact ⟨by simp,fun _=>trivial⟩|exact ⟨by simp,by simp⟩,by decide,⟨0+1,1-s / 65536,some (false,false),[s % 65536]⟩,Kept.of rfl KT.z KM.z,⟨y1,y2,y3,y4,y5,by simp,by simp⟩,by simp only []; omega⟩
     · simp only [oV,oM,oNum,pX,hix,hiy,if_true,if_false]
       simp only [go_sem,hix,hiy,k1,gU' hix,f1,f2,g1,g2,g3,hwi,h2,map_snoc,c2]
       obtain ⟨y1,y2,y3,y4,y5⟩:=hst (o++[s % 65536]) rfl
       exact ⟨by decide,by first|exact ⟨by simp,fun _=>trivial⟩|exact ⟨by simp,by simp⟩,by decide,⟨i+1,1-s / 65536,some (false,true),o++[s % 65536]⟩,Kept.of rfl KT.z KM.z,⟨y1,y2,y3,y4,y5,by simp,by simp⟩,by simp only []; omega⟩
     · simp only [oV,oM,oNum,pX,hix,hiy,if_true,if_false]
       simp only [go_sem,hix,hiy,k1,gU' hix,f1,f2,g1,g2,g3,hwi,h2,map_snoc,c2]
       obtain ⟨y1,y2,y3,y4,y5⟩:=hst (o++[s % 65536]) rfl
       exact ⟨by decide,by first|exact ⟨by simp,fun _=>trivial⟩|exact ⟨by simp,by simp⟩,by decide,⟨i+1,1-s / 65536,some (false,false),o++[s % 65536]⟩,Kept.of rfl KT.z KM.z,⟨y1,y2,y3,y4,y5,by simp,by simp⟩,by simp only []; omega⟩
     · exact absurd rfl (h7 false)
     · exact absurd rfl (h7 true)
 · have hie:i=x.length:=by omega
   have hO:dOf 65536 o=a-b:=by
    rw [List.take_of_length_le (show x.length≤i by omega),List.take_of_length_le (show y.length≤i by omega),hx,hy] at h5
    have hlt:=dOf_lt 65536 o h3
    rw [h2] at hlt
    rcases Nat.le_one_iff_eq_zero_or_eq_one.1 h4 with hc|hc
    · rw [hc,Nat.mul_zero,Nat.add_zero] at h5; omega
    · rw [hc,Nat.mul_one] at h5; omega
   have htk:o.take i=o:=List.take_of_length_le (by omega)
   have hz3:(∀ d ∈ o,d<65536)=True:=eq_true h3
   have hsl:i<4611686018427387904:=by omega
   rcases D with _|⟨_|_,_|_⟩
   · obtain ⟨e1,e2⟩:=h6 rfl
     subst e1
     simp only [oV,oM,oNum]
     simp only [go_sem,hix]
     rw [← hO]; exact .refl _
   · simp only [oV,oM,oNum]
     simp only [go_sem,hix,htk,hz3,h2,hsl]
     rw [hO]; exact .refl _
   · simp only [oV,oM,oNum]
     simp only [go_sem,hix,htk,hz3,h2,hsl]
     rw [hO]; exact .refl _
   · exact absurd rfl (h7 false)
   · exact absurd rfl (h7 true)
def rSubS:List AV→Option (Prop × AV):=onR2 fun a b=>(blen a≤68719476736∧b≤a,(.imm (digs 65536 (a-b)).length (List.map (fun d:Nat=>AV.int .u32 (d:Int)) (digs 65536 (a-b)))))
theorem rSubS_ok (hP:PrgOk P) (args p r):rSubS args=some (p,r)→p→CSpec P 140 args r:=onR2_ok (fun a b h=>by exact rSub_spec hP a b h.1 h.2) args p r
attribute [go_sem] rSubS
noncomputable def Sl:Nat→List AV→Option (Prop × AV):=addS (addS Sk 138 rAddS) 140 rSubS
theorem Sl_ok (hP:PrgOk P):EnvOk P ⟨T0,Sl⟩:=(((Sk_ok hP).add (rAddS_ok hP)).add (rSubS_ok hP))
theorem Sl_at (f a):Sl f a=(addS (addS Sk 138 rAddS) 140 rSubS) f a:=rfl
attribute [go_sem] Sl_at
theorem rmul_bound {p c z X Y:Nat} (hp:65536^(X+Y)≤p) (h:z+p*c<65536^(X+Y)):c=0:=by
 rcases Nat.eq_zero_or_pos c with h0|h0
 · exact h0
 · have:=Nat.mul_le_mul hp h0
   omega
theorem rmul_step {p c z z0 d s A x y:Nat} (h:z+p*c=A) (hs:z0+p*d=z+p*(s % 65536)) (hd:s=d+c+x*y):z0+p*65536*(s / 65536)=A+p*(x*y):=by
 have e:=Nat.mod_add_div s 65536
 have e2:=congrArg (p*·) (e.trans hd)
 simp only [Nat.mul_add,← Nat.mul_assoc] at e2
 simp only [← Nat.mul_assoc]
 omega
theorem rMul_spec (hP:PrgOk P) (a b:Nat) (ha:blen a≤68719476736) (hb:blen b≤68719476736):CSpec P 114 [(.imm (digs 65536 (a)).length (List.map (fun d:Nat=>AV.int .u32 (d:Int)) (digs 65536 (a)))),(.imm (digs 65536 (b)).length (List.map (fun d:Nat=>AV.int .u32 (d:Int)) (digs 65536 (b))))] (.imm (digs 65536 (a*b)).length (List.map (fun d:Nat=>AV.int .u32 (d:Int)) (digs 65536 (a*b)))):=by
 have HE:=Sl_ok hP
 have hxd:∀ d ∈ digs 65536 a,d<65536:=digs_lt 65536 a (by decide)
 have hyd:∀ d ∈ digs 65536 b,d<65536:=digs_lt 65536 b (by decide)
 have hx:=dOf_digs 65536 a (by decide)
 have hy:=dOf_digs 65536 b (by decide)
 have hlx:=rlen_blen a
 have hly:=rlen_blen b
 refine CSpec_go (E:=⟨T0,Sl⟩) (fn114 hP) HE hP.mix ?_
 generalize digs 65536 a=x at *
 generalize digs 65536 b=y at *
 have hi:=wi_add x.length y.length (by omega)
 have hi2:x.length+y.length≤1099511627776:=by omega
 simp only [go_sem,hi,hi2]
 refine trX_loop HE hP.mix [6] (fun q:Nat × List Nat=>⟨upd (upd (upd (upd (fun _=>.junk) 0 (.imm x.length (List.map (fun d:Nat=>AV.int .u32 (d:Int)) (x)))) 1 (.imm y.length (List.map (fun d:Nat=>AV.int .u32 (d:Int)) (y)))) 5 (.sl 6 0 (x.length+y.length) 1)) 6 (.int .i64 (q.1:Int)),upd (fun _=>.unused) 6 (.live (List.map (fun d:Nat=>AV.int .u32 (d:Int)) (q.2))),70⟩)
  (fun q=>q.1≤x.length∧q.2.length=x.length+y.length∧(∀ d ∈ q.2,d<65536)∧dOf 65536 q.2=dOf 65536 (x.take q.1)*dOf 65536 y) (fun q=>x.length-q.1) (0,List.replicate (x.length+y.length) 0) 60
  Has.z (Kept.of rfl KT.z KM.z) ⟨by simp,by simp,by intro d hd; rw [List.eq_of_mem_replicate hd]; decide,by simp [dOf,dOf_zeros]⟩ 70 (by kernel_rfl) ?_
 rintro ⟨i,z⟩ ⟨q1,q2,q3,q5⟩
 simp only [] at q1 q2 q3 q5
 by_cases hk:i<x.length
 · have hxi:=hxd _ (getD_mem hk)
   simp only [go_sem,hk]
   refine trX_loop HE hP.mix [6] (fun q:Nat × List Nat × Nat=>⟨upd (upd (upd (upd (upd (upd (fun _=>.junk) 0 (.imm x.length (List.map (fun d:Nat=>AV.int .u32 (d:Int)) (x)))) 1 (.imm y.length (List.map (fun d:Nat=>AV.int .u32 (d:Int)) (y)))) 5 (.sl 6 0 (x.length+y.length) 1)) 6 (.int .i64 (i:Int))) 7 (.int .u64 (q.2.2:Int))) 8 (.int .i64 (q.1:Int)),upd (fun _=>.unused) 6 (.live (List.map (fun d:Nat=>AV.int .u32 (d:Int)) (q.2.1))),70⟩)
    (fun q=>i+q.1≤x.length+y.length∧q.2.1.length=x.length+y.length∧(∀ d ∈ q.2.1,d<65536)∧q.2.2<65536∧dOf 65536 q.2.1+65536^(i+q.1)*q.2.2=dOf 65536 z+65536^i*x.getD i 0*dOf 65536 (y.take q.1)) (fun q=>x.length+y.length-q.1) (0,z,0) 60
    Has.z (Kept.of rfl KT.z KM.z) ⟨by simp only []; omega,q2,q3,by simp,by simp [dOf]⟩ 70 (by kernel_rfl) ?_
   rintro ⟨j,z',c⟩ ⟨r1,r2,r3,r4,r6⟩
   simp only [] at r1 r2 r3 r4 r6
   have hAB:dOf 65536 z+65536^i*x.getD i 0*dOf 65536 y<65536^(x.length+y.length):=by
    have e1:dOf 65536 z+65536^i*x.getD i 0*dOf 65536 y=dOf 65536 (x.take (i+1))*dOf 65536 y:=by
     rw [q5,dOf_take_succ 65536 x i hk,Nat.add_mul]
    have e2:=dOf_lt 65536 (x.take (i+1)) (fun d hd=>hxd d (List.mem_of_mem_take hd))
    have e3:=dOf_lt 65536 y hyd
    rw [List.length_take,Nat.min_eq_left (by omega)] at e2
    rw [e1,Nat.pow_add]
    have e4:(65536:Nat)^(i+1)≤65536^x.length:=Nat.pow_le_pow_right (by decide) (by omega)
    exact Nat.mul_lt_mul'' (Nat.lt_of_lt_of_le e2 e4) e3
   obtain ⟨s,hs⟩:∃ s,z'.getD (i+j) 0+c+(if j<y.length then x.getD i 0*y.getD j 0 else 0)=s:=⟨_,rfl⟩
   have hst:i+j<x.length+y.length→(if j<y.length then x.getD i 0*y.getD j 0 else 0)=x.getD i 0*y.getD j 0→dOf 65536 (z'.set (i+j) (s % 65536))+65536^(i+(j+1))*(s / 65536)=dOf 65536 z+65536^i*x.getD i 0*dOf 65536 (y.take (j+1)):=fun h he=>by
    have h1:=dOf_set 65536 z' (i+j) (s % 65536) (by omega)
    rw [he] at hs
    have h2:=rmul_step r6 h1 hs.symm
    rw [← Nat.add_assoc,Nat.pow_succ,h2,take_any,Nat.mul_add,← Nat.add_assoc]
    congr 1
    rw [Nat.pow_add]
    generalize x.getD i 0=u; generalize y.getD j 0=v; generalize 65536^i=p1; generalize 65536^j=p2
    simp only [Nat.mul_assoc]; congr 1; rw [← Nat.mul_assoc,← Nat.mul_assoc,Nat.mul_comm p2 u]
   have hmem:i+j<x.length+y.length→s / 65536<65536→dOf 65536 (z'.set (i+j) (s % 65536))+65536^(i+(j+1))*(s / 65536)=dOf 65536 z+65536^i*x.getD i 0*dOf 65536 (y.take (j+1))→i+(j+1)≤x.length+y.length∧(z'.set (i+j) (s % 65536)).length=x.length+y.length∧(∀ d ∈ z'.set (i+j) (s % 65536),d<65536)∧s / 65536<65536∧dOf 65536 (z'.set (i+j) (s % 65536))+65536^(i+(j+1))*(s / 65536)=dOf 65536 z+65536^i*x.getD i 0*dOf 65536 (y.take (j+1)):=fun h1 h2 h3=>by
    refine ⟨by omega,by rw [List.length_set]; exact r2,fun d hd=>?_,h2,h3⟩
    rcases List.mem_or_eq_of_mem_set hd with hd|rfl
    · exact r3 d hd
    · omega
   have hki:i≤x.length:=by omega
   have hw3:=wi_add i j (by omega)
   have hw4:=wi_add1 j (by omega)
   have g1:(s:Int).tmod 65536=((s % 65536:Nat):Int):=rfl
   have g2:(s:Int).tdiv 65536=((s / 65536:Nat):Int):=rfl
   have f4:∀ d<65536,IntKind.u64.wrap ((d:Nat):Int)=(d:Int):=fun d hd=>by rw [IntKind.wrap_u64]; omega
   by_cases hj:j<y.length
   · have hyj:=hyd _ (getD_mem hj)
     have hij:i+j<x.length+y.length:=by omega
     have hz:i+j<z'.length:=by omega
     have hzd:=r3 _ (getD_mem hz)
     have hkj:j≤y.length:=by omega
     rw [if_pos hj] at hs hst
     have hxy:x.getD i 0*y.getD j 0≤65535*65535:=Nat.mul_le_mul (by omega) (by omega)
     have f1:IntKind.u64.wrap (((z'.getD (i+j) 0:Nat):Int)+(c:Int))=((z'.getD (i+j) 0+c:Nat):Int):=by rw [IntKind.wrap_u64]; omega
     have f2:IntKind.u64.wrap (((x.getD i 0:Nat):Int)*((y.getD j 0:Nat):Int))=((x.getD i 0*y.getD j 0:Nat):Int):=by rw [← Int.natCast_mul,IntKind.wrap_u64]; omega
     have f3:IntKind.u64.wrap (((z'.getD (i+j) 0+c:Nat):Int)+((x.getD i 0*y.getD j 0:Nat):Int))=(s:Int):=by rw [IntKind.wrap_u64]; omega
     have f5:IntKind.u32.wrap ((s % 65536:Nat):Int)=((s % 65536:Nat):Int):=by rw [IntKind.wrap_u32]; omega
     simp only [go_sem,hj,hk,hki,hkj,gU' hk,gU' hj,hxi,hyj,hw3,hw4,hij,hz,gU hz,hzd,g1,g2,f1,f2,f3,f4 _ hxi,f4 _ hyj,f4 _ hzd,f5,f4 (s / 65536) (by omega)]
     refine ⟨by decide,by decide,(j+1,z'.set (i+j) (s % 65536),s / 65536),Kept.of rfl KT.z KM.z,hmem (by omega) (by omega) (hst (by omega) rfl),by simp only []; omega⟩
   · rw [if_neg hj,Nat.add_zero] at hs
     have hty:y.take j=y:=List.take_of_length_le (by omega)
     by_cases hc:0<c
     · have hij:i+j<x.length+y.length:=by
        rcases Nat.lt_or_ge (i+j) (x.length+y.length) with h|h
        · exact h
        · have:=rmul_bound (Nat.pow_le_pow_right (by decide) h:65536^(x.length+y.length)≤65536^(i+j)) (c:=c) (z:=dOf 65536 z') (by rw [r6,hty]; exact hAB)
          omega
       have hz:i+j<z'.length:=by omega
       have hzd:=r3 _ (getD_mem hz)
       have f1:IntKind.u64.wrap (((z'.getD (i+j) 0:Nat):Int)+(c:Int))=(s:Int):=by rw [IntKind.wrap_u64]; omega
       have f5:IntKind.u32.wrap ((s % 65536:Nat):Int)=((s % 65536:Nat):Int):=by rw [IntKind.wrap_u32]; omega
       simp only [go_sem,hj,hk,hki,hw3,hw4,hij,hz,gU hz,hzd,g1,g2,f1,f4 _ hzd,f5,f4 (s / 65536) (by omega),hc]
       refine ⟨by decide,by decide,(j+1,z'.set (i+j) (s % 65536),s / 65536),Kept.of rfl KT.z KM.z,hmem (by omega) (by omega) (hst (by omega) (by rw [if_neg hj,getD_ge (show y.length≤j by omega),Nat.mul_zero])),by simp only []; omega⟩
     · have hc0:c=0:=by omega
       have hw2:=wi_add1 i (by omega)
       simp only [go_sem,hj,hc,hw2]
       rw [hc0,Nat.mul_zero,Nat.add_zero,hty] at r6
       refine ⟨(i+1,z'),Kept.of rfl KT.z KM.z,⟨by simp only []; omega,r2,r3,?_⟩,by simp only []; omega⟩
       rw [r6,q5,dOf_take_succ 65536 x i hk,Nat.add_mul]
 · have htk:z.take (x.length+y.length)=z:=List.take_of_length_le (by omega)
   have hsl:x.length+y.length<4611686018427387904:=by omega
   have hz3:(∀ d ∈ z,d<65536)=True:=eq_true q3
   have hti:x.take i=x:=List.take_of_length_le (by omega)
   simp only [go_sem,hk,htk,q2,hz3,hsl]
   rw [q5,hti,hx,hy]; exact .refl _
def rMulS:List AV→Option (Prop × AV):=onR2 fun a b=>(blen a≤68719476736∧blen b≤68719476736,(.imm (digs 65536 (a*b)).length (List.map (fun d:Nat=>AV.int .u32 (d:Int)) (digs 65536 (a*b)))))
theorem rMulS_ok (hP:PrgOk P) (args p r):rMulS args=some (p,r)→p→CSpec P 114 args r:=onR2_ok (fun a b h=>by exact rMul_spec hP a b h.1 h.2) args p r
attribute [go_sem] rMulS
end Go.Proofs.YtapddfjimhohcaaGreatDoor.AM
