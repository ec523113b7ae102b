/- Sides, angles: package pred and the document's. -/
import Derived.Test.YtapddfjimhohcaaGreatDoorB9
namespace Go.Proofs.YtapddfjimhohcaaGreatDoor.AM
set_option linter.all false
set_option autoImplicit true
set_option relaxedAutoImplicit true
open Go Go.Proofs
set_option maxRecDepth 100000
set_option maxHeartbeats 16000000
set_option linter.unusedSimpArgs false
variable {P:Program}
theorem ks {x:Rat} {n:Nat} (h:fl x≤n) (hn:n≤FB):fl x≤FB∧wl x.num≤68719476736:=⟨Nat.le_trans h hn,Nat.le_trans (fl_num h) (Nat.le_trans hn (by decide))⟩
noncomputable def oQ (a b c d:V3):Rat:=qdt (vsbq b a) (vcq (vsbq c a) (vsbq d a))
theorem oQ_D2 (a b c d:V3):oQ a b c d=D2 a b c d:=by unfold oQ D2 vdet; rw [qdt_vdt,vcq_vcr,vsbq_vsb,vsbq_vsb,vsbq_vsb]
theorem pOri_spec (hP:PrgOk P) (a:V3) (b:V3) (c:V3) (d:V3) (hpre:fV a 16384∧fV b 16384∧fV c 16384∧fV d 16384):CSpec P 19 [(.agg [.opq (.frac (a.1)),.pad,.pad,.pad,.pad,.opq (.frac (a.2.1)),.pad,.pad,.pad,.pad,.opq (.frac (a.2.2)),.pad,.pad,.pad,.pad]),(.agg [.opq (.frac (b.1)),.pad,.pad,.pad,.pad,.opq (.frac (b.2.1)),.pad,.pad,.pad,.pad,.opq (.frac (b.2.2)),.pad,.pad,.pad,.pad]),(.agg [.opq (.frac (c.1)),.pad,.pad,.pad,.pad,.opq (.frac (c.2.1)),.pad,.pad,.pad,.pad,.opq (.frac (c.2.2)),.pad,.pad,.pad,.pad]),(.agg [.opq (.frac (d.1)),.pad,.pad,.pad,.pad,.opq (.frac (d.2.1)),.pad,.pad,.pad,.pad,.opq (.frac (d.2.2)),.pad,.pad,.pad,.pad])] (.int .i64 (cmpQ (D2 a b c d) 0)):=by
 have HE:=Kt1_all hP TF hP.tF
 obtain ⟨ha,hb,hc,hd⟩:=hpre
 obtain ⟨u,hu⟩:∃ zz,vsbq b a=zz:=⟨_,rfl⟩
 have fu:=vsbq_fV hb ha
 rw [hu] at fu
 obtain ⟨v,hv⟩:∃ zz,vsbq c a=zz:=⟨_,rfl⟩
 have fv:=vsbq_fV hc ha
 rw [hv] at fv
 obtain ⟨w,hw⟩:∃ zz,vsbq d a=zz:=⟨_,rfl⟩
 have fw:=vsbq_fV hd ha
 rw [hw] at fw
 obtain ⟨t,ht⟩:∃ zz,qdt u (vcq v w)=zz:=⟨_,rfl⟩
 have ft:=qdt_fl fu (vcq_fV fv fw)
 rw [ht] at ft
 have kt:qdt (u.1,u.2.1,u.2.2) (vcq (v.1,v.2.1,v.2.2) (w.1,w.2.1,w.2.2))=t:=ht
 have ho:D2 a b c d=t:=by rw [← oQ_D2]; unfold oQ; rw [hu,hv,hw,ht]
 have B:=(⟨bf ha (by decide),bf hb (by decide),bf hc (by decide),bf hd (by decide),bw fu (by decide),bw fv (by decide),bw fw (by decide),ks ft (by decide)⟩:_∧_∧_∧_∧_∧_∧_∧_)
 rw [ho]
 refine CSpec_go (E:=⟨TF,Kt1⟩) (fn19 hP) HE hP.mix ?_
 simp only [go_sem,B,vsbq_c hu,vsbq_c hv,vsbq_c hw,kt]
 exact fin_z
noncomputable def pOriS:List AV→Option (Prop × AV)
 | [x0,x1,x2,x3]=>(rawV x0).bind fun a=>(rawV x1).bind fun b=>(rawV x2).bind fun c=>(rawV x3).bind fun d=>some ((fV a 16384∧fV b 16384∧fV c 16384∧fV d 16384),.int .i64 (cmpQ (D2 a b c d) 0))
 | _=>none
theorem pOriS_eq (x0 x1 x2 x3):pOriS [x0,x1,x2,x3]=(rawV x0).bind fun a=>(rawV x1).bind fun b=>(rawV x2).bind fun c=>(rawV x3).bind fun d=>some ((fV a 16384∧fV b 16384∧fV c 16384∧fV d 16384),.int .i64 (cmpQ (D2 a b c d) 0)):=rfl
theorem pOriS_ok (hP:PrgOk P) (args p r) (he:pOriS args=some (p,r)) (hp:p):CSpec P 19 args r:=by
 unfold pOriS at he
 split at he
 · simp only [Option.bind_eq_some_iff,Option.some.injEq,Prod.mk.injEq] at he
   obtain ⟨a,hha,b,hhb,c,hhc,d,hhd,rfl,rfl⟩:=he
   rw [rawV_inv hha,rawV_inv hhb,rawV_inv hhc,rawV_inv hhd]
   exact pOri_spec hP a b c d hp
 · simp at he
attribute [go_sem] pOriS_eq
theorem rOri_spec (hP:PrgOk P) (a:V3) (b:V3) (c:V3) (d:V3) (hpre:fV a 16384∧fV b 16384∧fV c 16384∧fV d 16384):CSpec P 18 [(.agg [.opq (.rfrac (a.1)),.pad,.pad,.opq (.rfrac (a.2.1)),.pad,.pad,.opq (.rfrac (a.2.2)),.pad,.pad]),(.agg [.opq (.rfrac (b.1)),.pad,.pad,.opq (.rfrac (b.2.1)),.pad,.pad,.opq (.rfrac (b.2.2)),.pad,.pad]),(.agg [.opq (.rfrac (c.1)),.pad,.pad,.opq (.rfrac (c.2.1)),.pad,.pad,.opq (.rfrac (c.2.2)),.pad,.pad]),(.agg [.opq (.rfrac (d.1)),.pad,.pad,.opq (.rfrac (d.2.1)),.pad,.pad,.opq (.rfrac (d.2.2)),.pad,.pad])] (.int .i64 (cmpQ (D2 a b c d) 0)):=by
 have HE:=Kt1_all hP TF hP.tF
 obtain ⟨ha,hb,hc,hd⟩:=hpre
 obtain ⟨u,hu⟩:∃ zz,vsbq b a=zz:=⟨_,rfl⟩
 have fu:=vsbq_fV hb ha
 rw [hu] at fu
 obtain ⟨v,hv⟩:∃ zz,vsbq c a=zz:=⟨_,rfl⟩
 have fv:=vsbq_fV hc ha
 rw [hv] at fv
 obtain ⟨w,hw⟩:∃ zz,vsbq d a=zz:=⟨_,rfl⟩
 have fw:=vsbq_fV hd ha
 rw [hw] at fw
 obtain ⟨t,ht⟩:∃ zz,qdt u (vcq v w)=zz:=⟨_,rfl⟩
 have ft:=qdt_fl fu (vcq_fV fv fw)
 rw [ht] at ft
 have kt:qdt (u.1,u.2.1,u.2.2) (vcq (v.1,v.2.1,v.2.2) (w.1,w.2.1,w.2.2))=t:=ht
 have ho:D2 a b c d=t:=by rw [← oQ_D2]; unfold oQ; rw [hu,hv,hw,ht]
 have B:=(⟨bf ha (by decide),bf hb (by decide),bf hc (by decide),bf hd (by decide),bw fu (by decide),bw fv (by decide),bw fw (by decide),ks ft (by decide)⟩:_∧_∧_∧_∧_∧_∧_∧_)
 rw [ho]
 refine CSpec_go (E:=⟨TF,Kt1⟩) (fn18 hP) HE hP.mix ?_
 simp only [go_sem,B,vsbq_c hu,vsbq_c hv,vsbq_c hw,kt]
 exact fin_z
noncomputable def rOriS:List AV→Option (Prop × AV)
 | [x0,x1,x2,x3]=>(rawX x0).bind fun a=>(rawX x1).bind fun b=>(rawX x2).bind fun c=>(rawX x3).bind fun d=>some ((fV a 16384∧fV b 16384∧fV c 16384∧fV d 16384),.int .i64 (cmpQ (D2 a b c d) 0))
 | _=>none
theorem rOriS_eq (x0 x1 x2 x3):rOriS [x0,x1,x2,x3]=(rawX x0).bind fun a=>(rawX x1).bind fun b=>(rawX x2).bind fun c=>(rawX x3).bind fun d=>some ((fV a 16384∧fV b 16384∧fV c 16384∧fV d 16384),.int .i64 (cmpQ (D2 a b c d) 0)):=rfl
theorem rOriS_ok (hP:PrgOk P) (args p r) (he:rOriS args=some (p,r)) (hp:p):CSpec P 18 args r:=by
 unfold rOriS at he
 split at he
 · simp only [Option.bind_eq_some_iff,Option.some.injEq,Prod.mk.injEq] at he
   obtain ⟨a,hha,b,hhb,c,hhc,d,hhd,rfl,rfl⟩:=he
   rw [rawX_inv hha,rawX_inv hhb,rawX_inv hhc,rawX_inv hhd]
   exact rOri_spec hP a b c d hp
 · simp at he
attribute [go_sem] rOriS_eq
theorem pCol_spec (hP:PrgOk P) (a:V3) (b:V3) (c:V3) (hpre:fV a 16384∧fV b 16384∧fV c 16384):CSpec P 21 [(.agg [.opq (.frac (a.1)),.pad,.pad,.pad,.pad,.opq (.frac (a.2.1)),.pad,.pad,.pad,.pad,.opq (.frac (a.2.2)),.pad,.pad,.pad,.pad]),(.agg [.opq (.frac (b.1)),.pad,.pad,.pad,.pad,.opq (.frac (b.2.1)),.pad,.pad,.pad,.pad,.opq (.frac (b.2.2)),.pad,.pad,.pad,.pad]),(.agg [.opq (.frac (c.1)),.pad,.pad,.pad,.pad,.opq (.frac (c.2.1)),.pad,.pad,.pad,.pad,.opq (.frac (c.2.2)),.pad,.pad,.pad,.pad])] (.bool (decide (((dm [a,b,c]:Nat):Int)<2))):=by
 have HE:=Kt1_all hP TF hP.tF
 obtain ⟨ha,hb,hc⟩:=hpre
 have B:=(⟨ha,hb,hc⟩:_∧_∧_)
 unfold fV at B
 refine CSpec_go (E:=⟨TF,Kt1⟩) (fn21 hP) HE hP.mix ?_
 simp only [go_sem,B]
 exact fin_z
noncomputable def pColS:List AV→Option (Prop × AV)
 | [x0,x1,x2]=>(rawV x0).bind fun a=>(rawV x1).bind fun b=>(rawV x2).bind fun c=>some ((fV a 16384∧fV b 16384∧fV c 16384),.bool (decide (((dm [a,b,c]:Nat):Int)<2)))
 | _=>none
theorem pColS_eq (x0 x1 x2):pColS [x0,x1,x2]=(rawV x0).bind fun a=>(rawV x1).bind fun b=>(rawV x2).bind fun c=>some ((fV a 16384∧fV b 16384∧fV c 16384),.bool (decide (((dm [a,b,c]:Nat):Int)<2))):=rfl
theorem pColS_ok (hP:PrgOk P) (args p r) (he:pColS args=some (p,r)) (hp:p):CSpec P 21 args r:=by
 unfold pColS at he
 split at he
 · simp only [Option.bind_eq_some_iff,Option.some.injEq,Prod.mk.injEq] at he
   obtain ⟨a,hha,b,hhb,c,hhc,rfl,rfl⟩:=he
   rw [rawV_inv hha,rawV_inv hhb,rawV_inv hhc]
   exact pCol_spec hP a b c hp
 · simp at he
attribute [go_sem] pColS_eq
noncomputable def Kt2:Nat→List AV→Option (Prop × AV):=addS (addS (addS Kt1 19 pOriS) 18 rOriS) 21 pColS
theorem Kt2_all (hP:PrgOk P) (T) (hT:TyOk P T):EnvOk P ⟨T,Kt2⟩:=((((Kt1_all hP T hT).add (pOriS_ok hP)).add (rOriS_ok hP)).add (pColS_ok hP))
theorem Kt2_at (f a):Kt2 f a=(addS (addS (addS Kt1 19 pOriS) 18 rOriS) 21 pColS) f a:=rfl
attribute [go_sem] Kt2_at
theorem pCop_spec (hP:PrgOk P) (a:V3) (b:V3) (c:V3) (d:V3) (hpre:fV a 16384∧fV b 16384∧fV c 16384∧fV d 16384):CSpec P 20 [(.agg [.opq (.frac (a.1)),.pad,.pad,.pad,.pad,.opq (.frac (a.2.1)),.pad,.pad,.pad,.pad,.opq (.frac (a.2.2)),.pad,.pad,.pad,.pad]),(.agg [.opq (.frac (b.1)),.pad,.pad,.pad,.pad,.opq (.frac (b.2.1)),.pad,.pad,.pad,.pad,.opq (.frac (b.2.2)),.pad,.pad,.pad,.pad]),(.agg [.opq (.frac (c.1)),.pad,.pad,.pad,.pad,.opq (.frac (c.2.1)),.pad,.pad,.pad,.pad,.opq (.frac (c.2.2)),.pad,.pad,.pad,.pad]),(.agg [.opq (.frac (d.1)),.pad,.pad,.pad,.pad,.opq (.frac (d.2.1)),.pad,.pad,.pad,.pad,.opq (.frac (d.2.2)),.pad,.pad,.pad,.pad])] (.bool (cmpQ (D2 a b c d) 0 == 0)):=by
 have HE:=Kt2_all hP TF hP.tF
 have B:=hpre
 unfold fV at B
 have e:D2 (a.1,a.2.1,a.2.2) (b.1,b.2.1,b.2.2) (c.1,c.2.1,c.2.2) (d.1,d.2.1,d.2.2)=D2 a b c d:=rfl
 refine CSpec_go (E:=⟨TF,Kt2⟩) (fn20 hP) HE hP.mix ?_
 simp only [go_sem,B,e]
 exact fin_z
noncomputable def pCopS:List AV→Option (Prop × AV)
 | [x0,x1,x2,x3]=>(rawV x0).bind fun a=>(rawV x1).bind fun b=>(rawV x2).bind fun c=>(rawV x3).bind fun d=>some ((fV a 16384∧fV b 16384∧fV c 16384∧fV d 16384),.bool (cmpQ (D2 a b c d) 0 == 0))
 | _=>none
theorem pCopS_eq (x0 x1 x2 x3):pCopS [x0,x1,x2,x3]=(rawV x0).bind fun a=>(rawV x1).bind fun b=>(rawV x2).bind fun c=>(rawV x3).bind fun d=>some ((fV a 16384∧fV b 16384∧fV c 16384∧fV d 16384),.bool (cmpQ (D2 a b c d) 0 == 0)):=rfl
theorem pCopS_ok (hP:PrgOk P) (args p r) (he:pCopS args=some (p,r)) (hp:p):CSpec P 20 args r:=by
 unfold pCopS at he
 split at he
 · simp only [Option.bind_eq_some_iff,Option.some.injEq,Prod.mk.injEq] at he
   obtain ⟨a,hha,b,hhb,c,hhc,d,hhd,rfl,rfl⟩:=he
   rw [rawV_inv hha,rawV_inv hhb,rawV_inv hhc,rawV_inv hhd]
   exact pCop_spec hP a b c d hp
 · simp at he
attribute [go_sem] pCopS_eq
noncomputable def flQ (n a:V3):V3:=vsbq (vscq (qdt n n) a) (vscq (qdt n a) n)
theorem flQ_E (n a:V3):flQ n a=flE n a:=by unfold flQ flE; rw [vsbq_vsb,vscq_vsc,vscq_vsc,qdt_vdt,qdt_vdt]
theorem flE_fV {n a:V3} (hn:fV n 4096) (ha:fV a 4096):fV (flE n a) 65536:=by
 rw [← flQ_E]
 exact fV_mono (vsbq_fV (vscq_fV (qdt_fl hn hn) ha) (vscq_fV (qdt_fl hn ha) hn)) (by decide)
theorem pFlt_spec (hP:PrgOk P) (n a:V3) (hpre:fV n 4096∧fV a 4096):CSpec P 63 [(.agg [.opq (.frac (a.1)),.pad,.pad,.pad,.pad,.opq (.frac (a.2.1)),.pad,.pad,.pad,.pad,.opq (.frac (a.2.2)),.pad,.pad,.pad,.pad]),.fref [.opq (.frac (n.1)),.pad,.pad,.pad,.pad,.opq (.frac (n.2.1)),.pad,.pad,.pad,.pad,.opq (.frac (n.2.2)),.pad,.pad,.pad,.pad]] (.agg [.opq (.frac ((flE n a).1)),.pad,.pad,.pad,.pad,.opq (.frac ((flE n a).2.1)),.pad,.pad,.pad,.pad,.opq (.frac ((flE n a).2.2)),.pad,.pad,.pad,.pad]):=by
 have HE:=Kt2_all hP TF hP.tF
 obtain ⟨hn,ha⟩:=hpre
 obtain ⟨t,ht⟩:∃ zz,qdt n n=zz:=⟨_,rfl⟩
 have ft:=qdt_fl hn hn
 rw [ht] at ft
 obtain ⟨s,hs⟩:∃ zz,qdt n a=zz:=⟨_,rfl⟩
 have fs:=qdt_fl hn ha
 rw [hs] at fs
 obtain ⟨u,hu⟩:∃ zz,vscq t a=zz:=⟨_,rfl⟩
 have fu:=vscq_fV ft ha
 rw [hu] at fu
 obtain ⟨v,hv⟩:∃ zz,vscq s n=zz:=⟨_,rfl⟩
 have fv:=vscq_fV fs hn
 rw [hv] at fv
 have kF:flE n a=vsbq u v:=by rw [← flQ_E]; unfold flQ; rw [ht,hs,hu,hv]
 have kt:qdt (n.1,n.2.1,n.2.2) (n.1,n.2.1,n.2.2)=t:=ht
 have kk:qdt (n.1,n.2.1,n.2.2) (a.1,a.2.1,a.2.2)=s:=hs
 have B:=(⟨bt hn (by decide),bt ha (by decide),bf fu (by decide),bf fv (by decide),ks ft (by decide),ks fs (by decide)⟩:_∧_∧_∧_∧_∧_)
 rw [kF]
 unfold vsbq
 refine CSpec_go (E:=⟨TF,Kt2⟩) (fn63 hP) HE hP.mix ?_
 simp only [go_sem,B,kt,kk,vscq_c hu,vscq_c hv]
 exact fin_z
noncomputable def pFltS:List AV→Option (Prop × AV)
 | [x,.fref y]=>(rawV x).bind fun a=>(cells3 y).bind fun n=>some (fV n 4096∧fV a 4096,(.agg [.opq (.frac ((flE n a).1)),.pad,.pad,.pad,.pad,.opq (.frac ((flE n a).2.1)),.pad,.pad,.pad,.pad,.opq (.frac ((flE n a).2.2)),.pad,.pad,.pad,.pad]))
 | _=>none
theorem pFltS_eq (x y):pFltS [x,.fref y]=(rawV x).bind fun a=>(cells3 y).bind fun n=>some (fV n 4096∧fV a 4096,(.agg [.opq (.frac ((flE n a).1)),.pad,.pad,.pad,.pad,.opq (.frac ((flE n a).2.1)),.pad,.pad,.pad,.pad,.opq (.frac ((flE n a).2.2)),.pad,.pad,.pad,.pad])):=rfl
theorem pFltS_ok (hP:PrgOk P) (args p r) (he:pFltS args=some (p,r)) (hp:p):CSpec P 63 args r:=by
 unfold pFltS at he
 split at he
 · simp only [Option.bind_eq_some_iff,Option.some.injEq,Prod.mk.injEq] at he
   obtain ⟨a,h1,n,h2,rfl,rfl⟩:=he
   rw [rawV_inv h1,cells3_inv h2]
   exact pFlt_spec hP n a hp
 · simp at he
theorem rSee_spec (hP:PrgOk P) (n:V3) (a:V3) (hpre:fV n 4096∧fV a 4096):CSpec P 66 [(.agg [.opq (.rfrac (n.1)),.pad,.pad,.opq (.rfrac (n.2.1)),.pad,.pad,.opq (.rfrac (n.2.2)),.pad,.pad]),(.agg [.opq (.rfrac (a.1)),.pad,.pad,.opq (.rfrac (a.2.1)),.pad,.pad,.opq (.rfrac (a.2.2)),.pad,.pad])] ((.agg [.opq (.rfrac ((flE n a).1)),.pad,.pad,.opq (.rfrac ((flE n a).2.1)),.pad,.pad,.opq (.rfrac ((flE n a).2.2)),.pad,.pad])):=by
 have HE:=Kt2_all hP TF hP.tF
 obtain ⟨hn,ha⟩:=hpre
 obtain ⟨t,ht⟩:∃ zz,qdt n n=zz:=⟨_,rfl⟩
 have ft:=qdt_fl hn hn
 rw [ht] at ft
 obtain ⟨s,hs⟩:∃ zz,qdt n a=zz:=⟨_,rfl⟩
 have fs:=qdt_fl hn ha
 rw [hs] at fs
 obtain ⟨u,hu⟩:∃ zz,vscq t a=zz:=⟨_,rfl⟩
 have fu:=vscq_fV ft ha
 rw [hu] at fu
 obtain ⟨v,hv⟩:∃ zz,vscq s n=zz:=⟨_,rfl⟩
 have fv:=vscq_fV fs hn
 rw [hv] at fv
 have kF:flE n a=vsbq u v:=by rw [← flQ_E]; unfold flQ; rw [ht,hs,hu,hv]
 have kt:qdt (n.1,n.2.1,n.2.2) (n.1,n.2.1,n.2.2)=t:=ht
 have kk:qdt (n.1,n.2.1,n.2.2) (a.1,a.2.1,a.2.2)=s:=hs
 have B:=(⟨bt hn (by decide),bt ha (by decide),bf fu (by decide),bf fv (by decide),ks ft (by decide),ks fs (by decide)⟩:_∧_∧_∧_∧_∧_)
 rw [kF]
 unfold vsbq
 refine CSpec_go (E:=⟨TF,Kt2⟩) (fn66 hP) HE hP.mix ?_
 simp only [go_sem,B,kt,kk,vscq_c hu,vscq_c hv]
 exact fin_z
noncomputable def rSeeS:List AV→Option (Prop × AV)
 | [x0,x1]=>(rawX x0).bind fun n=>(rawX x1).bind fun a=>some ((fV n 4096∧fV a 4096),(.agg [.opq (.rfrac ((flE n a).1)),.pad,.pad,.opq (.rfrac ((flE n a).2.1)),.pad,.pad,.opq (.rfrac ((flE n a).2.2)),.pad,.pad]))
 | _=>none
theorem rSeeS_eq (x0 x1):rSeeS [x0,x1]=(rawX x0).bind fun n=>(rawX x1).bind fun a=>some ((fV n 4096∧fV a 4096),(.agg [.opq (.rfrac ((flE n a).1)),.pad,.pad,.opq (.rfrac ((flE n a).2.1)),.pad,.pad,.opq (.rfrac ((flE n a).2.2)),.pad,.pad])):=rfl
theorem rSeeS_ok (hP:PrgOk P) (args p r) (he:rSeeS args=some (p,r)) (hp:p):CSpec P 66 args r:=by
 unfold rSeeS at he
 split at he
 · simp only [Option.bind_eq_some_iff,Option.some.injEq,Prod.mk.injEq] at he
   obtain ⟨n,hhn,a,hha,rfl,rfl⟩:=he
   rw [rawX_inv hhn,rawX_inv hha]
   exact rSee_spec hP n a hp
 · simp at he
attribute [go_sem] rSeeS_eq
theorem c3v (t:Rat):cmpQ t 0 = -1∨cmpQ t 0=0∨cmpQ t 0=1:=cmpQ_3 t
theorem pHlf_spec (hP:PrgOk P) (n f a:V3) (hpre:fV n 4096∧fV f 65536∧fV a 65536):CSpec P 65 [(.agg [.opq (.frac (a.1)),.pad,.pad,.pad,.pad,.opq (.frac (a.2.1)),.pad,.pad,.pad,.pad,.opq (.frac (a.2.2)),.pad,.pad,.pad,.pad]),.fref [.opq (.frac (n.1)),.pad,.pad,.pad,.pad,.opq (.frac (n.2.1)),.pad,.pad,.pad,.pad,.opq (.frac (n.2.2)),.pad,.pad,.pad,.pad],.fref [.opq (.frac (f.1)),.pad,.pad,.pad,.pad,.opq (.frac (f.2.1)),.pad,.pad,.pad,.pad,.opq (.frac (f.2.2)),.pad,.pad,.pad,.pad]] (.int .i64 (hfE n f a)):=by
 have HE:=Kt2_all hP TF hP.tF
 obtain ⟨hn,hf,ha⟩:=hpre
 obtain ⟨t,ht⟩:∃ zz,qdt n (vcq f a)=zz:=⟨_,rfl⟩
 have ft:=qdt_fl hn (vcq_fV hf ha)
 rw [ht] at ft
 obtain ⟨s,hs⟩:∃ zz,qdt f a=zz:=⟨_,rfl⟩
 have fs:=qdt_fl hf ha
 rw [hs] at fs
 have kt:qdt (n.1,n.2.1,n.2.2) (vcq (f.1,f.2.1,f.2.2) (a.1,a.2.1,a.2.2))=t:=ht
 have kk:qdt (f.1,f.2.1,f.2.2) (a.1,a.2.1,a.2.2)=s:=hs
 have kd:vdet n f a=t:=by unfold vdet; rw [← ht,qdt_vdt,vcq_vcr]
 have ke:vdt f a=s:=by rw [← hs,qdt_vdt]
 have B:=(⟨bw hn (by decide),bw hf (by decide),bw ha (by decide),ks ft (by decide),ks fs (by decide)⟩:_∧_∧_∧_∧_)
 unfold hfE
 rw [kd,ke]
 simp only [← cmpQ_iff_pos,← cmpQ_iff_0]
 rcases c3v t with e1|e1|e1<;>rcases c3v s with e2|e2|e2<;>rw [e1,e2]
 all_goals
  refine CSpec_go (E:=⟨TF,Kt2⟩) (fn65 hP) HE hP.mix ?_
  simp only [go_sem,B,kt,kk,e1,e2]
  exact fin_z
noncomputable def pHlfS:List AV→Option (Prop × AV)
 | [x,.fref y,.fref z]=>(rawV x).bind fun a=>(cells3 y).bind fun n=>(cells3 z).bind fun f=>some (fV n 4096∧fV f 65536∧fV a 65536,.int .i64 (hfE n f a))
 | _=>none
theorem pHlfS_eq (x y z):pHlfS [x,.fref y,.fref z]=(rawV x).bind fun a=>(cells3 y).bind fun n=>(cells3 z).bind fun f=>some (fV n 4096∧fV f 65536∧fV a 65536,.int .i64 (hfE n f a)):=rfl
theorem pHlfS_ok (hP:PrgOk P) (args p r) (he:pHlfS args=some (p,r)) (hp:p):CSpec P 65 args r:=by
 unfold pHlfS at he
 split at he
 · simp only [Option.bind_eq_some_iff,Option.some.injEq,Prod.mk.injEq] at he
   obtain ⟨a,h1,n,h2,f,h3,rfl,rfl⟩:=he
   rw [rawV_inv h1,cells3_inv h2,cells3_inv h3]
   exact pHlf_spec hP n f a hp
 · simp at he
theorem rFar_spec (hP:PrgOk P) (n:V3) (f:V3) (a:V3) (hpre:fV n 4096∧fV f 65536∧fV a 65536):CSpec P 67 [(.agg [.opq (.rfrac (n.1)),.pad,.pad,.opq (.rfrac (n.2.1)),.pad,.pad,.opq (.rfrac (n.2.2)),.pad,.pad]),(.agg [.opq (.rfrac (f.1)),.pad,.pad,.opq (.rfrac (f.2.1)),.pad,.pad,.opq (.rfrac (f.2.2)),.pad,.pad]),(.agg [.opq (.rfrac (a.1)),.pad,.pad,.opq (.rfrac (a.2.1)),.pad,.pad,.opq (.rfrac (a.2.2)),.pad,.pad])] (.int .i64 (hfE n f a)):=by
 have HE:=Kt2_all hP TF hP.tF
 obtain ⟨hn,hf,ha⟩:=hpre
 obtain ⟨t,ht⟩:∃ zz,qdt n (vcq f a)=zz:=⟨_,rfl⟩
 have ft:=qdt_fl hn (vcq_fV hf ha)
 rw [ht] at ft
 obtain ⟨s,hs⟩:∃ zz,qdt f a=zz:=⟨_,rfl⟩
 have fs:=qdt_fl hf ha
 rw [hs] at fs
 have kt:qdt (n.1,n.2.1,n.2.2) (vcq (f.1,f.2.1,f.2.2) (a.1,a.2.1,a.2.2))=t:=ht
 have kk:qdt (f.1,f.2.1,f.2.2) (a.1,a.2.1,a.2.2)=s:=hs
 have kd:vdet n f a=t:=by unfold vdet; rw [← ht,qdt_vdt,vcq_vcr]
 have ke:vdt f a=s:=by rw [← hs,qdt_vdt]
 have B:=(⟨bw hn (by decide),bw hf (by decide),bw ha (by decide),ks ft (by decide),ks fs (by decide)⟩:_∧_∧_∧_∧_)
 unfold hfE
 rw [kd,ke]
 simp only [← cmpQ_iff_pos,← cmpQ_iff_0]
 rcases c3v t with e1|e1|e1<;>rcases c3v s with e2|e2|e2<;>rw [e1,e2]
 all_goals
  refine CSpec_go (E:=⟨TF,Kt2⟩) (fn67 hP) HE hP.mix ?_
  simp only [go_sem,B,kt,kk,e1,e2]
  exact fin_z
noncomputable def rFarS:List AV→Option (Prop × AV)
 | [x0,x1,x2]=>(rawX x0).bind fun n=>(rawX x1).bind fun f=>(rawX x2).bind fun a=>some ((fV n 4096∧fV f 65536∧fV a 65536),.int .i64 (hfE n f a))
 | _=>none
theorem rFarS_eq (x0 x1 x2):rFarS [x0,x1,x2]=(rawX x0).bind fun n=>(rawX x1).bind fun f=>(rawX x2).bind fun a=>some ((fV n 4096∧fV f 65536∧fV a 65536),.int .i64 (hfE n f a)):=rfl
theorem rFarS_ok (hP:PrgOk P) (args p r) (he:rFarS args=some (p,r)) (hp:p):CSpec P 67 args r:=by
 unfold rFarS at he
 split at he
 · simp only [Option.bind_eq_some_iff,Option.some.injEq,Prod.mk.injEq] at he
   obtain ⟨n,hhn,f,hhf,a,hha,rfl,rfl⟩:=he
   rw [rawX_inv hhn,rawX_inv hhf,rawX_inv hha]
   exact rFar_spec hP n f a hp
 · simp at he
attribute [go_sem] rFarS_eq
attribute [go_sem] pFltS_eq pHlfS_eq
noncomputable def Kt3:Nat→List AV→Option (Prop × AV):=addS (addS (addS (addS (addS Kt2 20 pCopS) 63 pFltS) 66 rSeeS) 65 pHlfS) 67 rFarS
theorem Kt3_all (hP:PrgOk P) (T) (hT:TyOk P T):EnvOk P ⟨T,Kt3⟩:=((((((Kt2_all hP T hT).add (pCopS_ok hP)).add (pFltS_ok hP)).add (rSeeS_ok hP)).add (pHlfS_ok hP)).add (rFarS_ok hP))
theorem Kt3_at (f a):Kt3 f a=(addS (addS (addS (addS (addS Kt2 20 pCopS) 63 pFltS) 66 rSeeS) 65 pHlfS) 67 rFarS) f a:=rfl
attribute [go_sem] Kt3_at
theorem hf01 (n f a:V3):hfE n f a=0∨hfE n f a=1:=by unfold hfE; split<;>simp
theorem pAng_spec (hP:PrgOk P) (n:V3) (f:V3) (u:V3) (v:V3) (hpre:fV n 4096∧fV f 4096∧fV u 4096∧fV v 4096):CSpec P 27 [(.agg [.opq (.frac (n.1)),.pad,.pad,.pad,.pad,.opq (.frac (n.2.1)),.pad,.pad,.pad,.pad,.opq (.frac (n.2.2)),.pad,.pad,.pad,.pad]),(.agg [.opq (.frac (f.1)),.pad,.pad,.pad,.pad,.opq (.frac (f.2.1)),.pad,.pad,.pad,.pad,.opq (.frac (f.2.2)),.pad,.pad,.pad,.pad]),(.agg [.opq (.frac (u.1)),.pad,.pad,.pad,.pad,.opq (.frac (u.2.1)),.pad,.pad,.pad,.pad,.opq (.frac (u.2.2)),.pad,.pad,.pad,.pad]),(.agg [.opq (.frac (v.1)),.pad,.pad,.pad,.pad,.opq (.frac (v.2.1)),.pad,.pad,.pad,.pad,.opq (.frac (v.2.2)),.pad,.pad,.pad,.pad])] (.int .i64 (anE n f u v)):=by
 have HE:=Kt3_all hP TF hP.tF
 obtain ⟨hn,hf,hu,hv⟩:=hpre
 obtain ⟨F,hF⟩:∃ zz,flE n f=zz:=⟨_,rfl⟩
 have fF:=flE_fV hn hf
 rw [hF] at fF
 obtain ⟨U,hU⟩:∃ zz,flE n u=zz:=⟨_,rfl⟩
 have fU:=flE_fV hn hu
 rw [hU] at fU
 obtain ⟨W,hW⟩:∃ zz,flE n v=zz:=⟨_,rfl⟩
 have fW:=flE_fV hn hv
 rw [hW] at fW
 have k1:flE (n.1,n.2.1,n.2.2) (f.1,f.2.1,f.2.2)=F:=hF
 have k2:flE (n.1,n.2.1,n.2.2) (u.1,u.2.1,u.2.2)=U:=hU
 have k3:flE (n.1,n.2.1,n.2.2) (v.1,v.2.1,v.2.2)=W:=hW
 unfold anE anF
 rw [hF,hU,hW]
 obtain ⟨t,ht⟩:∃ zz,qdt n (vcq U W)=zz:=⟨_,rfl⟩
 have ft:=qdt_fl hn (vcq_fV fU fW)
 rw [ht] at ft
 have kt:qdt (n.1,n.2.1,n.2.2) (vcq (U.1,U.2.1,U.2.2) (W.1,W.2.1,W.2.2))=t:=ht
 have kd:vdet n U W=t:=by unfold vdet; rw [← ht,qdt_vdt,vcq_vcr]
 rw [kd]
 have z1:decide (((n.1,n.2.1,n.2.2):V3)=v0)=decide (n=v0):=rfl
 have z2:decide (((F.1,F.2.1,F.2.2):V3)=v0)=decide (F=v0):=rfl
 have z3:decide (((U.1,U.2.1,U.2.2):V3)=v0)=decide (U=v0):=rfl
 have z4:decide (((W.1,W.2.1,W.2.2):V3)=v0)=decide (W=v0):=rfl
 obtain ⟨x,hx⟩:∃ x,hfE n F U=x:=⟨_,rfl⟩
 obtain ⟨y,hy⟩:∃ y,hfE n F W=y:=⟨_,rfl⟩
 have g1:hfE (n.1,n.2.1,n.2.2) (F.1,F.2.1,F.2.2) (U.1,U.2.1,U.2.2)=x:=hx
 have g2:hfE (n.1,n.2.1,n.2.2) (F.1,F.2.1,F.2.2) (W.1,W.2.1,W.2.2)=y:=hy
 have B:=(⟨bw hn (by decide),bw fF (by decide),bw fU (by decide),bw fW (by decide),b16 fF (by decide),b16 fU (by decide),b16 fW (by decide),ks ft (by decide),hn.1,hn.2.1,hn.2.2,hf.1,hf.2.1,hf.2.2,hu.1,hu.2.1,hu.2.2,hv.1,hv.2.1,hv.2.2⟩:_∧_∧_∧_∧_∧_∧_∧_∧_∧_∧_∧_∧_∧_∧_∧_∧_∧_∧_∧_)
 have w:IntKind.i64.wrap (0-1) = -1∧IntKind.i64.wrap (1-0)=1∧IntKind.i64.wrap (0 - -1)=1∧IntKind.i64.wrap (0-0)=0:=⟨rfl,rfl,rfl,rfl⟩
 rw [hx,hy]
 refine CSpec_go (E:=⟨TF,Kt3⟩) (fn27 hP) HE hP.mix ?_
 by_cases h1:n=v0
 · rw [if_pos (.inl h1)]
   simp only [go_sem,B,k1,k2,k3,z1,z2,z3,z4,decide_eq_true h1]
   exact fin_z
 by_cases h2:F=v0
 · rw [if_pos (.inr (.inl h2))]
   simp only [go_sem,B,k1,k2,k3,z1,z2,z3,z4,decide_eq_false h1,decide_eq_true h2]
   exact fin_z
 by_cases h3:U=v0
 · rw [if_pos (.inr (.inr (.inl h3)))]
   simp only [go_sem,B,k1,k2,k3,z1,z2,z3,z4,decide_eq_false h1,decide_eq_false h2,decide_eq_true h3]
   exact fin_z
 by_cases h4:W=v0
 · rw [if_pos (.inr (.inr (.inr h4)))]
   simp only [go_sem,B,k1,k2,k3,z1,z2,z3,z4,decide_eq_false h1,decide_eq_false h2,decide_eq_false h3,decide_eq_true h4]
   exact fin_z
 rw [if_neg (by rintro (h|h|h|h)<;>contradiction)]
 simp only [go_sem,B,k1,k2,k3,z1,z2,z3,z4,decide_eq_false h1,decide_eq_false h2,decide_eq_false h3,decide_eq_false h4,g1,g2,kt]
 have hx':=hx ▸ hf01 n F U
 have hy':=hy ▸ hf01 n F W
 clear hx hy g1 g2
 rcases hx' with rfl|rfl<;>rcases hy' with rfl|rfl
 · rcases c3v t with e1|e1|e1<;>rw [e1]<;>simp only [go_sem,B,w,kt,e1]<;>exact fin_z
 · simp only [go_sem,B,w]
   exact fin_z
 · simp only [go_sem,B,w]
   exact fin_z
 · rcases c3v t with e1|e1|e1<;>rw [e1]<;>simp only [go_sem,B,w,kt,e1]<;>exact fin_z
noncomputable def pAngS:List AV→Option (Prop × AV)
 | [x0,x1,x2,x3]=>(rawV x0).bind fun n=>(rawV x1).bind fun f=>(rawV x2).bind fun u=>(rawV x3).bind fun v=>some ((fV n 4096∧fV f 4096∧fV u 4096∧fV v 4096),.int .i64 (anE n f u v))
 | _=>none
theorem pAngS_eq (x0 x1 x2 x3):pAngS [x0,x1,x2,x3]=(rawV x0).bind fun n=>(rawV x1).bind fun f=>(rawV x2).bind fun u=>(rawV x3).bind fun v=>some ((fV n 4096∧fV f 4096∧fV u 4096∧fV v 4096),.int .i64 (anE n f u v)):=rfl
theorem pAngS_ok (hP:PrgOk P) (args p r) (he:pAngS args=some (p,r)) (hp:p):CSpec P 27 args r:=by
 unfold pAngS at he
 split at he
 · simp only [Option.bind_eq_some_iff,Option.some.injEq,Prod.mk.injEq] at he
   obtain ⟨n,hhn,f,hhf,u,hhu,v,hhv,rfl,rfl⟩:=he
   rw [rawV_inv hhn,rawV_inv hhf,rawV_inv hhu,rawV_inv hhv]
   exact pAng_spec hP n f u v hp
 · simp at he
attribute [go_sem] pAngS_eq
theorem rAng_spec (hP:PrgOk P) (n:V3) (f:V3) (u:V3) (v:V3) (hpre:fV n 4096∧fV f 4096∧fV u 4096∧fV v 4096):CSpec P 28 [(.agg [.opq (.rfrac (n.1)),.pad,.pad,.opq (.rfrac (n.2.1)),.pad,.pad,.opq (.rfrac (n.2.2)),.pad,.pad]),(.agg [.opq (.rfrac (f.1)),.pad,.pad,.opq (.rfrac (f.2.1)),.pad,.pad,.opq (.rfrac (f.2.2)),.pad,.pad]),(.agg [.opq (.rfrac (u.1)),.pad,.pad,.opq (.rfrac (u.2.1)),.pad,.pad,.opq (.rfrac (u.2.2)),.pad,.pad]),(.agg [.opq (.rfrac (v.1)),.pad,.pad,.opq (.rfrac (v.2.1)),.pad,.pad,.opq (.rfrac (v.2.2)),.pad,.pad])] (.int .i64 (anE n f u v)):=by
 have HE:=Kt3_all hP TF hP.tF
 obtain ⟨hn,hf,hu,hv⟩:=hpre
 obtain ⟨F,hF⟩:∃ zz,flE n f=zz:=⟨_,rfl⟩
 have fF:=flE_fV hn hf
 rw [hF] at fF
 obtain ⟨U,hU⟩:∃ zz,flE n u=zz:=⟨_,rfl⟩
 have fU:=flE_fV hn hu
 rw [hU] at fU
 obtain ⟨W,hW⟩:∃ zz,flE n v=zz:=⟨_,rfl⟩
 have fW:=flE_fV hn hv
 rw [hW] at fW
 have k1:flE (n.1,n.2.1,n.2.2) (f.1,f.2.1,f.2.2)=F:=hF
 have k2:flE (n.1,n.2.1,n.2.2) (u.1,u.2.1,u.2.2)=U:=hU
 have k3:flE (n.1,n.2.1,n.2.2) (v.1,v.2.1,v.2.2)=W:=hW
 unfold anE anF
 rw [hF,hU,hW]
 obtain ⟨t,ht⟩:∃ zz,qdt n (vcq U W)=zz:=⟨_,rfl⟩
 have ft:=qdt_fl hn (vcq_fV fU fW)
 rw [ht] at ft
 have kt:qdt (n.1,n.2.1,n.2.2) (vcq (U.1,U.2.1,U.2.2) (W.1,W.2.1,W.2.2))=t:=ht
 have kd:vdet n U W=t:=by unfold vdet; rw [← ht,qdt_vdt,vcq_vcr]
 rw [kd]
 have z1:decide (((n.1,n.2.1,n.2.2):V3)=v0)=decide (n=v0):=rfl
 have z2:decide (((F.1,F.2.1,F.2.2):V3)=v0)=decide (F=v0):=rfl
 have z3:decide (((U.1,U.2.1,U.2.2):V3)=v0)=decide (U=v0):=rfl
 have z4:decide (((W.1,W.2.1,W.2.2):V3)=v0)=decide (W=v0):=rfl
 obtain ⟨x,hx⟩:∃ x,hfE n F U=x:=⟨_,rfl⟩
 obtain ⟨y,hy⟩:∃ y,hfE n F W=y:=⟨_,rfl⟩
 have g1:hfE (n.1,n.2.1,n.2.2) (F.1,F.2.1,F.2.2) (U.1,U.2.1,U.2.2)=x:=hx
 have g2:hfE (n.1,n.2.1,n.2.2) (F.1,F.2.1,F.2.2) (W.1,W.2.1,W.2.2)=y:=hy
 have B:=(⟨bw hn (by decide),bw fF (by decide),bw fU (by decide),bw fW (by decide),b16 fF (by decide),b16 fU (by decide),b16 fW (by decide),ks ft (by decide),hn.1,hn.2.1,hn.2.2,hf.1,hf.2.1,hf.2.2,hu.1,hu.2.1,hu.2.2,hv.1,hv.2.1,hv.2.2⟩:_∧_∧_∧_∧_∧_∧_∧_∧_∧_∧_∧_∧_∧_∧_∧_∧_∧_∧_∧_)
 have w:IntKind.i64.wrap (0-1) = -1∧IntKind.i64.wrap (1-0)=1∧IntKind.i64.wrap (0 - -1)=1∧IntKind.i64.wrap (0-0)=0:=⟨rfl,rfl,rfl,rfl⟩
 rw [hx,hy]
 refine CSpec_go (E:=⟨TF,Kt3⟩) (fn28 hP) HE hP.mix ?_
 by_cases h1:n=v0
 · rw [if_pos (.inl h1)]
   simp only [go_sem,B,k1,k2,k3,z1,z2,z3,z4,decide_eq_true h1]
   exact fin_z
 by_cases h2:F=v0
 · rw [if_pos (.inr (.inl h2))]
   simp only [go_sem,B,k1,k2,k3,z1,z2,z3,z4,decide_eq_false h1,decide_eq_true h2]
   exact fin_z
 by_cases h3:U=v0
 · rw [if_pos (.inr (.inr (.inl h3)))]
   simp only [go_sem,B,k1,k2,k3,z1,z2,z3,z4,decide_eq_false h1,decide_eq_false h2,decide_eq_true h3]
   exact fin_z
 by_cases h4:W=v0
 · rw [if_pos (.inr (.inr (.inr h4)))]
   simp only [go_sem,B,k1,k2,k3,z1,z2,z3,z4,decide_eq_false h1,decide_eq_false h2,decide_eq_false h3,decide_eq_true h4]
   exact fin_z
 rw [if_neg (by rintro (h|h|h|h)<;>contradiction)]
 simp only [go_sem,B,k1,k2,k3,z1,z2,z3,z4,decide_eq_false h1,decide_eq_false h2,decide_eq_false h3,decide_eq_false h4,g1,g2,kt]
 have hx':=hx ▸ hf01 n F U
 have hy':=hy ▸ hf01 n F W
 clear hx hy g1 g2
 rcases hx' with rfl|rfl<;>rcases hy' with rfl|rfl
 · rcases c3v t with e1|e1|e1<;>rw [e1]<;>simp only [go_sem,B,w,kt,e1]<;>exact fin_z
 · simp only [go_sem,B,w]
   exact fin_z
 · simp only [go_sem,B,w]
   exact fin_z
 · rcases c3v t with e1|e1|e1<;>rw [e1]<;>simp only [go_sem,B,w,kt,e1]<;>exact fin_z
noncomputable def rAngS:List AV→Option (Prop × AV)
 | [x0,x1,x2,x3]=>(rawX x0).bind fun n=>(rawX x1).bind fun f=>(rawX x2).bind fun u=>(rawX x3).bind fun v=>some ((fV n 4096∧fV f 4096∧fV u 4096∧fV v 4096),.int .i64 (anE n f u v))
 | _=>none
theorem rAngS_eq (x0 x1 x2 x3):rAngS [x0,x1,x2,x3]=(rawX x0).bind fun n=>(rawX x1).bind fun f=>(rawX x2).bind fun u=>(rawX x3).bind fun v=>some ((fV n 4096∧fV f 4096∧fV u 4096∧fV v 4096),.int .i64 (anE n f u v)):=rfl
theorem rAngS_ok (hP:PrgOk P) (args p r) (he:rAngS args=some (p,r)) (hp:p):CSpec P 28 args r:=by
 unfold rAngS at he
 split at he
 · simp only [Option.bind_eq_some_iff,Option.some.injEq,Prod.mk.injEq] at he
   obtain ⟨n,hhn,f,hhf,u,hhu,v,hhv,rfl,rfl⟩:=he
   rw [rawX_inv hhn,rawX_inv hhf,rawX_inv hhu,rawX_inv hhv]
   exact rAng_spec hP n f u v hp
 · simp at he
attribute [go_sem] rAngS_eq
noncomputable def Kt4:Nat→List AV→Option (Prop × AV):=addS (addS Kt3 27 pAngS) 28 rAngS
theorem Kt4_all (hP:PrgOk P) (T) (hT:TyOk P T):EnvOk P ⟨T,Kt4⟩:=(((Kt3_all hP T hT).add (pAngS_ok hP)).add (rAngS_ok hP))
theorem Kt4_at (f a):Kt4 f a=(addS (addS Kt3 27 pAngS) 28 rAngS) f a:=rfl
attribute [go_sem] Kt4_at
end Go.Proofs.YtapddfjimhohcaaGreatDoor.AM
/- Borders: plain facts for the walks. -/
namespace Go.Proofs.YtapddfjimhohcaaGreatDoor.AM
set_option linter.all false
set_option autoImplicit true
set_option relaxedAutoImplicit true
open Go Go.Proofs
set_option maxRecDepth 100000
set_option maxHeartbeats 4000000
set_option linter.unusedSimpArgs false
theorem cmpQ_le {a b:Rat}:cmpQ a b≤0 ↔ a≤b:=by
 rcases cmpQ_cases a b with ⟨h,e⟩|⟨h,e⟩|⟨h,e⟩<;>rw [e]<;>constructor<;>intro h'<;>first|(exfalso; revert h'; decide)|decide|grind
theorem cmpQ_ge {a:Rat}:0≤cmpQ a 0 ↔ 0≤a:=by
 rcases cmpQ_cases a 0 with ⟨h,e⟩|⟨h,e⟩|⟨h,e⟩<;>rw [e]<;>constructor<;>intro h'<;>first|(exfalso; revert h'; decide)|decide|grind
theorem fVm_at {m:Nat} {l:List V3} (h:fVm m l) {i:Nat} (hi:i<l.length):fV (atL l i) m:=fVm_mem h _ (atL_in hi)
theorem atL_drop {l:List V3} {i:Nat} (h:i<l.length):l.drop i=atL l i::l.drop (i+1):=by
 rw [List.drop_eq_getElem_cons h]; unfold atL; rw [List.getD_eq_getElem?_getD,List.getElem?_eq_getElem h]; rfl
theorem atL_take {l:List V3} {i:Nat} (h:i<l.length):l.take (i+1)=l.take i++[atL l i]:=by
 rw [List.take_add_one,List.getElem?_eq_getElem h]; unfold atL; rw [List.getD_eq_getElem?_getD,List.getElem?_eq_getElem h]; rfl
theorem getV {l:List V3} {i:Nat} (h:i<l.length):(cl cV l).drop (i*15)=[.opq (.frac ((atL l i).1)),.pad,.pad,.pad,.pad,.opq (.frac ((atL l i).2.1)),.pad,.pad,.pad,.pad,.opq (.frac ((atL l i).2.2)),.pad,.pad,.pad,.pad]++cl cV (l.drop (i+1))∧(cl cV (l.drop (i+1))).length=(l.length-(i+1))*15∧AV.head (cl cV (l.drop (i+1)))=true∧i*15≤l.length*15∧i<l.length:=by
 refine ⟨?_,by rw [cl_len,List.length_drop],cl_head,by omega,h⟩
 rw [cl_drop,atL_drop h,cl_cons]; rfl
theorem getW {l:List V3} {i:Nat} (h:i<l.length):(cl cW l).drop (i*9)=[.opq (.rfrac ((atL l i).1)),.pad,.pad,.opq (.rfrac ((atL l i).2.1)),.pad,.pad,.opq (.rfrac ((atL l i).2.2)),.pad,.pad]++cl cW (l.drop (i+1))∧(cl cW (l.drop (i+1))).length=(l.length-(i+1))*9∧AV.head (cl cW (l.drop (i+1)))=true∧i*9≤l.length*9∧i<l.length:=by
 refine ⟨?_,by rw [cl_len,List.length_drop],cl_head,by omega,h⟩
 rw [cl_drop,atL_drop h,cl_cons]; rfl
theorem fstN_or (l:List V3):fstN l=v0∨fstN l ∈ l:=by
 by_cases h:∃ n ∈ l,n ≠ v0
 · exact .inr (fstN_in h).1
 · left
   induction l with
   | nil=>rfl
   | cons a t ih =>
     unfold fstN
     have ha:a=v0:=Classical.byContradiction fun e=>h ⟨a,List.mem_cons_self,e⟩
     rw [if_pos ha]
     exact ih fun ⟨n,hn,e⟩=>h ⟨n,List.mem_cons_of_mem _ hn,e⟩
theorem fV_v0 (n:Nat):fV v0 (n+1):=⟨fl_zero _,fl_zero _,fl_zero _⟩
theorem vsb_fV {a b:V3} {n m:Nat} (ha:fV a n) (hb:fV b m):fV (vsb a b) (n+m+1):=by rw [← vsbq_vsb]; exact vsbq_fV ha hb
theorem vcr_fV {a b:V3} {n m:Nat} (ha:fV a n) (hb:fV b m):fV (vcr a b) (n+m+(n+m)+1):=by rw [← vcq_vcr]; exact vcq_fV ha hb
theorem headD_fV {l:List V3} (h:fVm 16384 l):fV (l.headD v0) 16384:=by
 cases l with
 | nil=>exact fV_v0 16383
 | cons a t=>exact h.1
theorem nmL_fV {l:List V3} (h:fVm 16384 l):fV (nmL l) 131077:=by
 unfold nmL
 rcases fstN_or (l.flatMap fun a=>l.map fun b=>vcr (vsb a (l.headD v0)) (vsb b (l.headD v0))) with e|e
 · rw [e]; exact fV_v0 131076
 · rw [List.mem_flatMap] at e
   obtain ⟨a,ha,e⟩:=e
   obtain ⟨b,hb,e⟩:=List.mem_map.1 e
   rw [← e]
   exact fV_mono (vcr_fV (vsb_fV (fVm_mem h a ha) (headD_fV h)) (vsb_fV (fVm_mem h b hb) (headD_fV h))) (by decide)
theorem crossN_fV {d:Nat} {l:List V3} {a b c:V3} (h:fVm 16384 l) (ha:fV a 16384) (hb:fV b 16384) (hc:fV c 16384):fV (crossN d l a b c) 1048576:=by
 unfold crossN
 split
 · exact fV_mono (vsb_fV hb ha) (by decide)
 · split
   · exact fV_mono (vcr_fV (nmL_fV h) (vsb_fV hb ha)) (by decide)
   · exact fV_mono (vcr_fV (vsb_fV hb ha) (vsb_fV hc ha)) (by decide)
theorem cN_fV {l:List V3} {i j k:Nat} (h:fVm 16384 l) (hi:i<l.length) (hj:j<l.length) (hk:k<l.length):fV (cN l i j k) 1048576:=crossN_fV h (fVm_at h hi) (fVm_at h hj) (fVm_at h hk)
theorem cN_0 {l:List V3} {i j k:Nat} (h:dm l=0) (hi:i<l.length) (hj:j<l.length):cN l i j k=v0:=by
 have h0:A0 l:=(dm_1 l).1 (by omega)
 unfold cN crossN
 rw [if_neg (by omega),if_neg (by omega),vsb_0.2 (h0 _ (atL_in hj) _ (atL_in hi))]; exact vcr_v0l _
theorem dm_last (p:V3) (l:List V3):dm (l++[p])=dm (p::l):=dm_same fun x=>by simp [or_comm]
theorem Jw_none {sk:Nat→Nat→Nat→Bool} {p:V3} {l:List V3} {w:Int} (h0:¬ dm l<dm (p::l)) (h1:dm l=0) (hj:Jw sk p l l.length 0 0 w):wIn p l=w:=by
 obtain ⟨g1,_,g3⟩:=hj
 unfold wIn
 rw [if_neg h0,if_pos h1]
 rcases g1 with rfl|rfl
 · obtain ⟨i,j,k,hj,hk,hbe,hg,e⟩:=g3.1 rfl
   have hi:i<l.length:=by unfold bef at hbe; omega
   exact absurd (cN_0 h1 hi hj) hg.2.1
 · rfl
theorem Jw_doc {p:V3} {l:List V3} {w:Int} (h0:¬ dm l<dm (p::l)) (hj:Jw (fun _ _ _=>false) p l l.length 0 0 w):wIn p l=w:=by
 by_cases h1:dm l=0
 · exact Jw_none h0 h1 hj
 · exact Jw_end allB_r h0 h1 hj
def cx (l:List V3) (a b:V3):V3:=vcr (vsb a (l.headD v0)) (vsb b (l.headD v0))
def nmR (l:List V3) (i j:Nat):V3:=fstN ((l.drop j).map (cx l (atL l i))++(l.drop (i+1)).flatMap fun a=>l.map (cx l a))
def nmO (l:List V3) (i:Nat):V3:=fstN ((l.drop i).flatMap fun a=>l.map (cx l a))
theorem nmO_R {l:List V3} {i:Nat} (h:i<l.length):nmO l i=nmR l i 0:=by
 unfold nmO nmR; rw [atL_drop h,List.flatMap_cons]; rfl
theorem nmR_z {l:List V3} {i j:Nat} (hj:j<l.length) (h:cx l (atL l i) (atL l j)=v0):nmR l i j=nmR l i (j+1):=by
 unfold nmR; rw [atL_drop hj,List.map_cons,List.cons_append]
 conv=>lhs; unfold fstN
 rw [if_pos h]
theorem nmR_n {l:List V3} {i j:Nat} (hj:j<l.length) (h:cx l (atL l i) (atL l j) ≠ v0):nmR l i j=cx l (atL l i) (atL l j):=by
 unfold nmR; rw [atL_drop hj,List.map_cons,List.cons_append]
 conv=>lhs; unfold fstN
 rw [if_neg h]
theorem nmR_end (l:List V3) (i:Nat):nmR l i l.length=nmO l (i+1):=by
 unfold nmR nmO; rw [List.drop_of_length_le (Nat.le_refl _)]; rfl
theorem nmO_end (l:List V3):nmO l l.length=v0:=by unfold nmO; rw [List.drop_of_length_le (Nat.le_refl _)]; rfl
end Go.Proofs.YtapddfjimhohcaaGreatDoor.AM
/- Borders: ways across,and what they hold. -/
namespace Go.Proofs.YtapddfjimhohcaaGreatDoor.AM
set_option linter.all false
set_option autoImplicit true
set_option relaxedAutoImplicit true
open Go Go.Proofs
set_option maxRecDepth 100000
set_option maxHeartbeats 16000000
set_option linter.unusedSimpArgs false
variable {P:Program}
theorem get0V {l:List V3} (h:0<l.length):(cl cV l).take 15=[.opq (.frac ((l.headD v0).1)),.pad,.pad,.pad,.pad,.opq (.frac ((l.headD v0).2.1)),.pad,.pad,.pad,.pad,.opq (.frac ((l.headD v0).2.2)),.pad,.pad,.pad,.pad]∧AV.head (List.drop 15 (cl cV l))=true∧AV.head (cl cV l)=true∧(15≤l.length*15)=True∧(0<l.length)=True:=by
 cases l with
 | nil=>simp at h
 | cons a t=>exact ⟨rfl,by rw [cl_cons]; exact cl_head,cl_head,eq_true (by simp [List.length_cons]; omega),eq_true h⟩
theorem get0W {l:List V3} (h:0<l.length):(cl cW l).take 9=[.opq (.rfrac ((l.headD v0).1)),.pad,.pad,.opq (.rfrac ((l.headD v0).2.1)),.pad,.pad,.opq (.rfrac ((l.headD v0).2.2)),.pad,.pad]∧AV.head (List.drop 9 (cl cW l))=true∧AV.head (cl cW l)=true∧(9≤l.length*9)=True∧(0<l.length)=True:=by
 cases l with
 | nil=>simp at h
 | cons a t=>exact ⟨rfl,by rw [cl_cons]; exact cl_head,cl_head,eq_true (by simp [List.length_cons]; omega),eq_true h⟩
theorem KT.y {L:List Nat} {t t':Nat→AV} (h:KT L t t':=by repeat (first|exact KT.nil|refine KT.upd rfl (by first|rfl|simp [AV.only,onlyL,cl_only]) ?_)):KT L t t':=h
theorem KM.y {L:List Nat} {m m':Nat→AObj} (h:KMp L L m m':=by repeat (first|exact KMp.nil|refine KMp.upd rfl (by first|rfl|simp [objOnly,AV.only,onlyL,cl_only]) ?_)):KM L m m':=h
theorem pNrm_spec (hP:PrgOk P) (l:List V3) (hpre:(1≤l.length∧l.length≤5)∧fVm 16384 l):CSpec P 84 [(.imm (l).length (cl cV (l)))] ((.agg [.opq (.frac ((nmL l).1)),.pad,.pad,.pad,.pad,.opq (.frac ((nmL l).2.1)),.pad,.pad,.pad,.pad,.opq (.frac ((nmL l).2.2)),.pad,.pad,.pad,.pad])):=by
 have HE:=Kt4_all hP TF hP.tF
 obtain ⟨⟨h1,h5⟩,hb⟩:=hpre
 have hgo:groundL [.imm l.length (cl cV l)]=true:=by simp only [groundL,onlyL,AV.only,cl_only,Bool.and_true]
 have hro:∀ f,(AV.imm l.length (cl cV l)).only f=true:=fun f=>by simp only [AV.only,cl_only]
 have g0:=get0V (l:=l) (by omega)
 refine CSpec_vc (E:=⟨TF,Kt4⟩) (fn84 hP) HE hP.mix rfl hgo rfl (Nat.le_of_ble_eq_true rfl) ?_
 simp only [go_sem,cl_len]
 refine trX_loopV HE hP.mix (fun _:Nat=>[0]) (fun i=>⟨upd (upd (upd (upd (upd (fun _=>.junk) 0 (.imm l.length (cl cV l))) 2 (.ref 0 0)) 8 (.imm l.length (cl cV l))) 9 (.int .i64 (l.length:Int))) 10 (.int .i64 (i:Int)),upd (fun _=>.unused) 0 (.live [.opq (.frac (0)),.pad,.pad,.pad,.pad,.opq (.frac (0)),.pad,.pad,.pad,.pad,.opq (.frac (0)),.pad,.pad,.pad,.pad]),38⟩) (fun i=>i≤l.length∧nmO l i=nmL l) (fun i=>l.length-i) 0 (fun _=>100) (fun _=>Has.z) (Kept.of rfl KT.y KM.y) ⟨Nat.zero_le _,rfl⟩ 38 (by kernel_rfl) ?_
 rintro i ⟨hi,hs⟩
 by_cases h:i<l.length
 · have g:=getV h
   have wi:=wi_add1 i (by omega)
   rw [nmO_R h] at hs
   simp only [go_sem,g,cl_len]
   refine trX_loopV HE hP.mix (fun _:Nat=>[103,0]) (fun j=>⟨upd (upd (upd (upd (upd (upd (upd (upd (upd (fun _=>.junk) 0 (.imm l.length (cl cV l))) 2 (.ref 0 0)) 4 (.ref 103 0)) 8 (.imm l.length (cl cV l))) 9 (.int .i64 (l.length:Int))) 10 (.int .i64 (i:Int))) 14 (.imm l.length (cl cV l))) 15 (.int .i64 (l.length:Int))) 16 (.int .i64 (j:Int)),upd (upd (fun _=>.unused) 0 (.live [.opq (.frac (0)),.pad,.pad,.pad,.pad,.opq (.frac (0)),.pad,.pad,.pad,.pad,.opq (.frac (0)),.pad,.pad,.pad,.pad])) 103 (.live [.opq (.frac ((atL l i).1)),.pad,.pad,.pad,.pad,.opq (.frac ((atL l i).2.1)),.pad,.pad,.pad,.pad,.opq (.frac ((atL l i).2.2)),.pad,.pad,.pad,.pad]),38⟩) (fun j=>j≤l.length∧nmR l i j=nmL l) (fun j=>l.length-j) 0 (fun _=>200) (fun _=>Has.z) (Kept.of rfl KT.y KM.y) ⟨Nat.zero_le _,hs⟩ 38 (by kernel_rfl) ?_
   rintro j ⟨hj,hr⟩
   by_cases h':j<l.length
   · have g':=getV h'
     have wj:=wi_add1 j (by omega)
     have fh:=headD_fV hb
     have fa:=fVm_at hb h
     have fb:=fVm_at hb h'
     obtain ⟨u,hu⟩:∃ zz,vsbq (atL l i) (l.headD v0)=zz:=⟨_,rfl⟩
     have fu:=vsbq_fV fa fh
     rw [hu] at fu
     obtain ⟨w,hw⟩:∃ zz,vsbq (atL l j) (l.headD v0)=zz:=⟨_,rfl⟩
     have fw:=vsbq_fV fb fh
     rw [hw] at fw
     obtain ⟨x,hx⟩:∃ zz,vcq u w=zz:=⟨_,rfl⟩
     have fx:=vcq_fV fu fw
     rw [hx] at fx
     have hc:cx l (atL l i) (atL l j)=x:=by unfold cx; rw [← hx,← hu,← hw,vcq_vcr,vsbq_vsb,vsbq_vsb]
     have B:=(⟨bf fh (by decide),bf fa (by decide),bf fb (by decide),bx fu (by decide),bx fw (by decide),bf fx (by decide),vsbq_c hu,vsbq_c hw,vcq_c hx⟩:_∧_∧_∧_∧_∧_∧_∧_∧_)
     have kz:decide (((x.1,x.2.1,x.2.2):V3)=v0)=decide (x=v0):=rfl
     by_cases z:x=v0
     · simp only [go_sem,g',g0,cl_len,B,kz,decide_eq_true z,wj]
       refine ⟨j+1,Kept.of rfl KT.y KM.y,⟨h',by rw [← nmR_z h' (hc.trans z)]; exact hr⟩,by show l.length-(j+1)<l.length-j; omega⟩
     · rw [← hr,nmR_n h' (by rw [hc]; exact z),hc]
       simp only [go_sem,g',g0,cl_len,B,kz,decide_eq_false z]
       exact fin_z
   · have e:j=l.length:=by omega
     subst e
     rw [nmR_end] at hr
     simp only [go_sem,cl_len,wi,Nat.lt_irrefl]
     refine ⟨i+1,Kept.of rfl KT.y KM.y,⟨h,hr⟩,by show l.length-(i+1)<l.length-i; omega⟩
 · have e:i=l.length:=by omega
   subst e
   rw [nmO_end] at hs
   rw [← hs]
   simp only [go_sem,cl_len,Nat.lt_irrefl]
   exact fin_z
noncomputable def pNrmS:List AV→Option (Prop × AV)
 | [x0]=>(rawLV x0).bind fun l=>some (((1≤l.length∧l.length≤5)∧fVm 16384 l),(.agg [.opq (.frac ((nmL l).1)),.pad,.pad,.pad,.pad,.opq (.frac ((nmL l).2.1)),.pad,.pad,.pad,.pad,.opq (.frac ((nmL l).2.2)),.pad,.pad,.pad,.pad]))
 | _=>none
theorem pNrmS_eq (x0):pNrmS [x0]=(rawLV x0).bind fun l=>some (((1≤l.length∧l.length≤5)∧fVm 16384 l),(.agg [.opq (.frac ((nmL l).1)),.pad,.pad,.pad,.pad,.opq (.frac ((nmL l).2.1)),.pad,.pad,.pad,.pad,.opq (.frac ((nmL l).2.2)),.pad,.pad,.pad,.pad])):=rfl
theorem pNrmS_ok (hP:PrgOk P) (args p r) (he:pNrmS args=some (p,r)) (hp:p):CSpec P 84 args r:=by
 unfold pNrmS at he
 split at he
 · simp only [Option.bind_eq_some_iff,Option.some.injEq,Prod.mk.injEq] at he
   obtain ⟨l,hhl,rfl,rfl⟩:=he
   rw [rawLV_inv hhl]
   exact pNrm_spec hP l hp
 · simp at he
attribute [go_sem] pNrmS_eq
theorem rPln_spec (hP:PrgOk P) (l:List V3) (hpre:(1≤l.length∧l.length≤5)∧fVm 16384 l):CSpec P 85 [(.imm (l).length (cl cW (l)))] ((.agg [.opq (.rfrac ((nmL l).1)),.pad,.pad,.opq (.rfrac ((nmL l).2.1)),.pad,.pad,.opq (.rfrac ((nmL l).2.2)),.pad,.pad])):=by
 have HE:=Kt4_all hP TF hP.tF
 obtain ⟨⟨h1,h5⟩,hb⟩:=hpre
 have hgo:groundL [.imm l.length (cl cW l)]=true:=by simp only [groundL,onlyL,AV.only,cl_only,Bool.and_true]
 have hro:∀ f,(AV.imm l.length (cl cW l)).only f=true:=fun f=>by simp only [AV.only,cl_only]
 have g0:=get0W (l:=l) (by omega)
 refine CSpec_vc (E:=⟨TF,Kt4⟩) (fn85 hP) HE hP.mix rfl hgo rfl (Nat.le_of_ble_eq_true rfl) ?_
 simp only [go_sem,cl_len]
 refine trX_loopV HE hP.mix (fun _:Nat=>[0]) (fun i=>⟨upd (upd (upd (fun _=>.junk) 0 (.imm l.length (cl cW l))) 2 (.ref 0 0)) 3 (.int .i64 (i:Int)),upd (fun _=>.unused) 0 (.live [.bool false,.nils,.nils,.bool false,.nils,.nils,.bool false,.nils,.nils]),40⟩) (fun i=>i≤l.length∧nmO l i=nmL l) (fun i=>l.length-i) 0 (fun _=>100) (fun _=>Has.z) (Kept.of rfl KT.y KM.y) ⟨Nat.zero_le _,rfl⟩ 40 (by kernel_rfl) ?_
 rintro i ⟨hi,hs⟩
 by_cases h:i<l.length
 · have g:=getW h
   have wi:=wi_add1 i (by omega)
   rw [nmO_R h] at hs
   simp only [go_sem,g,cl_len]
   refine trX_loopV HE hP.mix (fun _:Nat=>[0]) (fun j=>⟨upd (upd (upd (upd (fun _=>.junk) 0 (.imm l.length (cl cW l))) 2 (.ref 0 0)) 3 (.int .i64 (i:Int))) 4 (.int .i64 (j:Int)),upd (fun _=>.unused) 0 (.live [.bool false,.nils,.nils,.bool false,.nils,.nils,.bool false,.nils,.nils]),40⟩) (fun j=>j≤l.length∧nmR l i j=nmL l) (fun j=>l.length-j) 0 (fun _=>200) (fun _=>Has.z) (Kept.of rfl KT.y KM.y) ⟨Nat.zero_le _,hs⟩ 40 (by kernel_rfl) ?_
   rintro j ⟨hj,hr⟩
   by_cases h':j<l.length
   · have g':=getW h'
     have wj:=wi_add1 j (by omega)
     have fh:=headD_fV hb
     have fa:=fVm_at hb h
     have fb:=fVm_at hb h'
     obtain ⟨u,hu⟩:∃ zz,vsbq (atL l i) (l.headD v0)=zz:=⟨_,rfl⟩
     have fu:=vsbq_fV fa fh
     rw [hu] at fu
     obtain ⟨w,hw⟩:∃ zz,vsbq (atL l j) (l.headD v0)=zz:=⟨_,rfl⟩
     have fw:=vsbq_fV fb fh
     rw [hw] at fw
     obtain ⟨x,hx⟩:∃ zz,vcq u w=zz:=⟨_,rfl⟩
     have fx:=vcq_fV fu fw
     rw [hx] at fx
     have hc:cx l (atL l i) (atL l j)=x:=by unfold cx; rw [← hx,← hu,← hw,vcq_vcr,vsbq_vsb,vsbq_vsb]
     have B:=(⟨bf fh (by decide),bf fa (by decide),bf fb (by decide),bx fu (by decide),bx fw (by decide),bf fx (by decide),vsbq_c hu,vsbq_c hw,vcq_c hx⟩:_∧_∧_∧_∧_∧_∧_∧_∧_)
     have kz:decide (((x.1,x.2.1,x.2.2):V3)=v0)=decide (x=v0):=rfl
     by_cases z:x=v0
     · simp only [go_sem,g,g',g0,cl_len,B,kz,decide_eq_true z,wj]
       refine ⟨j+1,Kept.of rfl KT.y KM.y,⟨h',by rw [← nmR_z h' (hc.trans z)]; exact hr⟩,by show l.length-(j+1)<l.length-j; omega⟩
     · rw [← hr,nmR_n h' (by rw [hc]; exact z),hc]
       simp only [go_sem,g,g',g0,cl_len,B,kz,decide_eq_false z]
       exact fin_z
   · have e:j=l.length:=by omega
     subst e
     rw [nmR_end] at hr
     simp only [go_sem,cl_len,wi,Nat.lt_irrefl]
     refine ⟨i+1,Kept.of rfl KT.y KM.y,⟨h,hr⟩,by show l.length-(i+1)<l.length-i; omega⟩
 · have e:i=l.length:=by omega
   subst e
   rw [nmO_end] at hs
   rw [← hs]
   simp only [go_sem,cl_len,Nat.lt_irrefl]
   exact fin_z
noncomputable def rPlnS:List AV→Option (Prop × AV)
 | [x0]=>(rawLX x0).bind fun l=>some (((1≤l.length∧l.length≤5)∧fVm 16384 l),(.agg [.opq (.rfrac ((nmL l).1)),.pad,.pad,.opq (.rfrac ((nmL l).2.1)),.pad,.pad,.opq (.rfrac ((nmL l).2.2)),.pad,.pad]))
 | _=>none
theorem rPlnS_eq (x0):rPlnS [x0]=(rawLX x0).bind fun l=>some (((1≤l.length∧l.length≤5)∧fVm 16384 l),(.agg [.opq (.rfrac ((nmL l).1)),.pad,.pad,.opq (.rfrac ((nmL l).2.1)),.pad,.pad,.opq (.rfrac ((nmL l).2.2)),.pad,.pad])):=rfl
theorem rPlnS_ok (hP:PrgOk P) (args p r) (he:rPlnS args=some (p,r)) (hp:p):CSpec P 85 args r:=by
 unfold rPlnS at he
 split at he
 · simp only [Option.bind_eq_some_iff,Option.some.injEq,Prod.mk.injEq] at he
   obtain ⟨l,hhl,rfl,rfl⟩:=he
   rw [rawLX_inv hhl]
   exact rPln_spec hP l hp
 · simp at he
attribute [go_sem] rPlnS_eq
def hdB (l:List V3) (a n:V3):Bool:=l.all fun q=>decide (0≤vdt n (vsb q a))
theorem hdB_iff (l:List V3) (a n:V3):hdB l a n=true ↔ ∀ q ∈ l,0≤vdt n (vsb q a):=by unfold hdB; simp only [List.all_eq_true,decide_eq_true_eq]
theorem hdB_cons (q:V3) (l:List V3) (a n:V3):hdB (q::l) a n=(decide (0≤vdt n (vsb q a)) && hdB l a n):=rfl
theorem rHol_spec (hP:PrgOk P) (l:List V3) (a:V3) (n:V3) (hpre:l.length≤5∧fVm 16384 l∧fV a 16384∧fV n 1048576):CSpec P 40 [(.imm (l).length (cl cW (l))),(.agg [.opq (.rfrac (a.1)),.pad,.pad,.opq (.rfrac (a.2.1)),.pad,.pad,.opq (.rfrac (a.2.2)),.pad,.pad]),(.agg [.opq (.rfrac (n.1)),.pad,.pad,.opq (.rfrac (n.2.1)),.pad,.pad,.opq (.rfrac (n.2.2)),.pad,.pad])] (.bool (hdB l a n)):=by
 have HE:=Kt4_all hP TF hP.tF
 obtain ⟨h5,hb,ha,hn⟩:=hpre
 have hgo:groundL [.imm l.length (cl cW l),(.agg [.opq (.rfrac ((a).1)),.pad,.pad,.opq (.rfrac ((a).2.1)),.pad,.pad,.opq (.rfrac ((a).2.2)),.pad,.pad]),(.agg [.opq (.rfrac ((n).1)),.pad,.pad,.opq (.rfrac ((n).2.1)),.pad,.pad,.opq (.rfrac ((n).2.2)),.pad,.pad])]=true:=by simp only [groundL,onlyL,AV.only,cl_only,Bool.and_true]
 have hro:∀ f,(AV.imm l.length (cl cW l)).only f=true:=fun f=>by simp only [AV.only,cl_only]
 refine CSpec_vc (E:=⟨TF,Kt4⟩) (fn40 hP) HE hP.mix rfl hgo rfl (Nat.le_of_ble_eq_true rfl) ?_
 simp only [go_sem,cl_len]
 refine trX_loopV HE hP.mix (fun _:Nat=>[1,0]) (fun i=>⟨upd (upd (upd (upd (fun _=>.junk) 0 (.imm l.length (cl cW l))) 4 (.ref 0 0)) 5 (.ref 1 0)) 7 (.int .i64 (i:Int)),upd (upd (fun _=>.unused) 0 (.live [.opq (.rfrac (a.1)),.pad,.pad,.opq (.rfrac (a.2.1)),.pad,.pad,.opq (.rfrac (a.2.2)),.pad,.pad])) 1 (.live [.opq (.rfrac (n.1)),.pad,.pad,.opq (.rfrac (n.2.1)),.pad,.pad,.opq (.rfrac (n.2.2)),.pad,.pad]),24⟩) (fun i=>i≤l.length∧hdB (l.drop i) a n=hdB l a n) (fun i=>l.length-i) 0 (fun _=>100) (fun _=>Has.z) (Kept.of rfl KT.y KM.y) ⟨Nat.zero_le _,rfl⟩ 24 (by kernel_rfl) ?_
 rintro i ⟨hi,hs⟩
 by_cases h:i<l.length
 · have g:=getW h
   have wi:=wi_add1 i (by omega)
   have fb:=fVm_at hb h
   obtain ⟨u,hu⟩:∃ zz,vsbq (atL l i) a=zz:=⟨_,rfl⟩
   have fu:=vsbq_fV fb ha
   rw [hu] at fu
   obtain ⟨t,ht⟩:∃ zz,qdt n u=zz:=⟨_,rfl⟩
   have ft:=qdt_fl hn fu
   rw [ht] at ft
   have kt:qdt (n.1,n.2.1,n.2.2) (u.1,u.2.1,u.2.2)=t:=ht
   have hd:vdt n (vsb (atL l i) a)=t:=by rw [← ht,← hu,vsbq_vsb,qdt_vdt]
   have B:=(⟨bf ha (by decide),bf fb (by decide),bt hn (by decide),bt fu (by decide),ks ft (by decide),vsbq_c hu,kt⟩:_∧_∧_∧_∧_∧_∧_)
   rw [atL_drop h,hdB_cons,hd] at hs
   by_cases z:0≤t
   · have c:(cmpQ t 0<0)=False:=eq_false (by have:=cmpQ_ge.2 z; omega)
     rw [decide_eq_true z,Bool.true_and] at hs
     simp only [go_sem,g,cl_len,B,c,wi]
     refine ⟨i+1,Kept.of rfl KT.y KM.y,⟨h,hs⟩,by show l.length-(i+1)<l.length-i; omega⟩
   · have c:(cmpQ t 0<0)=True:=eq_true (by have:=mt cmpQ_ge.1 z; omega)
     rw [decide_eq_false z,Bool.false_and] at hs
     rw [← hs]
     simp only [go_sem,g,cl_len,B,c]
     exact fin_z
 · have e:i=l.length:=by omega
   subst e
   rw [List.drop_of_length_le (Nat.le_refl _)] at hs
   rw [← hs]
   simp only [go_sem,cl_len,Nat.lt_irrefl]
   exact fin_z
noncomputable def rHolS:List AV→Option (Prop × AV)
 | [x0,x1,x2]=>(rawLX x0).bind fun l=>(rawX x1).bind fun a=>(rawX x2).bind fun n=>some ((l.length≤5∧fVm 16384 l∧fV a 16384∧fV n 1048576),.bool (hdB l a n))
 | _=>none
theorem rHolS_eq (x0 x1 x2):rHolS [x0,x1,x2]=(rawLX x0).bind fun l=>(rawX x1).bind fun a=>(rawX x2).bind fun n=>some ((l.length≤5∧fVm 16384 l∧fV a 16384∧fV n 1048576),.bool (hdB l a n)):=rfl
theorem rHolS_ok (hP:PrgOk P) (args p r) (he:rHolS args=some (p,r)) (hp:p):CSpec P 40 args r:=by
 unfold rHolS at he
 split at he
 · simp only [Option.bind_eq_some_iff,Option.some.injEq,Prod.mk.injEq] at he
   obtain ⟨l,hhl,a,hha,n,hhn,rfl,rfl⟩:=he
   rw [rawLX_inv hhl,rawX_inv hha,rawX_inv hhn]
   exact rHol_spec hP l a n hp
 · simp at he
attribute [go_sem] rHolS_eq
noncomputable def Kt5:Nat→List AV→Option (Prop × AV):=addS (addS (addS Kt4 84 pNrmS) 85 rPlnS) 40 rHolS
theorem Kt5_all (hP:PrgOk P) (T) (hT:TyOk P T):EnvOk P ⟨T,Kt5⟩:=((((Kt4_all hP T hT).add (pNrmS_ok hP)).add (rPlnS_ok hP)).add (rHolS_ok hP))
theorem Kt5_at (f a):Kt5 f a=(addS (addS (addS Kt4 84 pNrmS) 85 rPlnS) 40 rHolS) f a:=rfl
attribute [go_sem] Kt5_at
def rawNn:AV→Option Nat
 | .int .i64 (.ofNat n)=>some n
 | _=>none
theorem rawNn_eq (n:Nat):rawNn (.int .i64 (n:Int))=some n:=rfl
theorem rawNn_inv {x:AV} {n:Nat} (h:rawNn x=some n):x = .int .i64 (n:Int):=by
 unfold rawNn at h
 split at h
 · obtain rfl:=Option.some.inj h; rfl
 · simp at h
attribute [go_sem] rawNn_eq
theorem eqN (a b:Nat):((a:Int) == (b:Int))=decide (a=b):=by
 rw [Bool.eq_iff_iff]; simp only [beq_iff_eq,decide_eq_true_eq]; omega
noncomputable def cnQ (d:Nat) (l:List V3) (a b c:V3):V3:=if d=1 then vsbq b a else if d=2 then vcq (nmL l) (vsbq b a) else vcq (vsbq b a) (vsbq c a)
theorem cnQ_N (d:Nat) (l:List V3) (a b c:V3):cnQ d l a b c=crossN d l a b c:=by unfold cnQ crossN; simp only [vsbq_vsb,vcq_vcr]
theorem acr_spec (hP:PrgOk P) (l:List V3) (a b c:V3) (h1:1≤l.length) (h5:l.length≤5) (hb:fVm 16384 l) (fa:fV a 16384) (fb:fV b 16384) (fc:fV c 16384) :
 CSpec P 83 [(.agg [.opq (.frac ((a).1)),.pad,.pad,.pad,.pad,.opq (.frac ((a).2.1)),.pad,.pad,.pad,.pad,.opq (.frac ((a).2.2)),.pad,.pad,.pad,.pad]),(.agg [.opq (.frac ((b).1)),.pad,.pad,.pad,.pad,.opq (.frac ((b).2.1)),.pad,.pad,.pad,.pad,.opq (.frac ((b).2.2)),.pad,.pad,.pad,.pad]),(.agg [.opq (.frac ((c).1)),.pad,.pad,.pad,.pad,.opq (.frac ((c).2.1)),.pad,.pad,.pad,.pad,.opq (.frac ((c).2.2)),.pad,.pad,.pad,.pad]),.fref [.int .i64 ((dm l:Nat):Int)],.fref [.imm l.length (cl cV l)]] (.agg [.opq (.frac ((crossN (dm l) l a b c).1)),.pad,.pad,.pad,.pad,.opq (.frac ((crossN (dm l) l a b c).2.1)),.pad,.pad,.pad,.pad,.opq (.frac ((crossN (dm l) l a b c).2.2)),.pad,.pad,.pad,.pad]):=by
 have HE:=Kt5_all hP TF hP.tF
 have hgo:groundL [(.agg [.opq (.frac ((a).1)),.pad,.pad,.pad,.pad,.opq (.frac ((a).2.1)),.pad,.pad,.pad,.pad,.opq (.frac ((a).2.2)),.pad,.pad,.pad,.pad]),(.agg [.opq (.frac ((b).1)),.pad,.pad,.pad,.pad,.opq (.frac ((b).2.1)),.pad,.pad,.pad,.pad,.opq (.frac ((b).2.2)),.pad,.pad,.pad,.pad]),(.agg [.opq (.frac ((c).1)),.pad,.pad,.pad,.pad,.opq (.frac ((c).2.1)),.pad,.pad,.pad,.pad,.opq (.frac ((c).2.2)),.pad,.pad,.pad,.pad]),.fref [.int .i64 ((dm l:Nat):Int)],.fref [.imm l.length (cl cV l)]]=true:=by simp only [groundL,onlyL,AV.only,cl_only,Bool.and_true]
 obtain ⟨d,hd⟩:∃ d,dm l=d:=⟨_,rfl⟩
 have fn:=nmL_fV hb
 obtain ⟨u,hu⟩:∃ zz,vsbq b a=zz:=⟨_,rfl⟩
 have fu:=vsbq_fV fb fa
 rw [hu] at fu
 obtain ⟨w,hw⟩:∃ zz,vsbq c a=zz:=⟨_,rfl⟩
 have fw:=vsbq_fV fc fa
 rw [hw] at fw
 obtain ⟨N,hN⟩:∃ n,nmL l=n:=⟨_,rfl⟩
 rw [hN] at fn
 have B:=(⟨bf fa (by decide),bf fb (by decide),bf fc (by decide),bx fu (by decide),bx fw (by decide),bx fn (by decide),vsbq_c hu,vsbq_c hw,hN⟩:_∧_∧_∧_∧_∧_∧_∧_∧_)
 rw [← cnQ_N,hd]
 unfold cnQ
 rw [hu,hw,hN]
 refine CSpec_vc (E:=⟨TF,Kt5⟩) (fn83 hP) HE hP.mix rfl hgo rfl (Nat.le_of_ble_eq_true rfl) ?_
 by_cases d1:d=1
 · subst d1
   rw [if_pos rfl]
   simp only [go_sem,hd,B,h1,h5,hb]
   exact fin_z
 have e1:((d:Int) == 1)=false:=(eqN d 1).trans (decide_eq_false d1)
 by_cases d2:d=2
 · subst d2
   rw [if_neg (by decide),if_pos rfl]
   simp only [go_sem,hd,B,h1,h5,hb]
   exact fin_z
 have e2:((d:Int) == 2)=false:=(eqN d 2).trans (decide_eq_false d2)
 rw [if_neg d1,if_neg d2]
 simp only [go_sem,hd,B,h1,h5,hb,e1,e2]
 exact fin_z
noncomputable def acrS:List AV→Option (Prop × AV)
 | [x,y,z,.fref [w],.fref [v]]=>(rawV x).bind fun a=>(rawV y).bind fun b=>(rawV z).bind fun c=>(rawNn w).bind fun d=>(rawLV v).bind fun l=>some (d=dm l∧(1≤l.length∧l.length≤5)∧fVm 16384 l∧fV a 16384∧fV b 16384∧fV c 16384,(.agg [.opq (.frac ((crossN (dm l) l a b c).1)),.pad,.pad,.pad,.pad,.opq (.frac ((crossN (dm l) l a b c).2.1)),.pad,.pad,.pad,.pad,.opq (.frac ((crossN (dm l) l a b c).2.2)),.pad,.pad,.pad,.pad]))
 | _=>none
theorem acrS_eq (x y z w v):acrS [x,y,z,.fref [w],.fref [v]]=(rawV x).bind fun a=>(rawV y).bind fun b=>(rawV z).bind fun c=>(rawNn w).bind fun d=>(rawLV v).bind fun l=>some (d=dm l∧(1≤l.length∧l.length≤5)∧fVm 16384 l∧fV a 16384∧fV b 16384∧fV c 16384,(.agg [.opq (.frac ((crossN (dm l) l a b c).1)),.pad,.pad,.pad,.pad,.opq (.frac ((crossN (dm l) l a b c).2.1)),.pad,.pad,.pad,.pad,.opq (.frac ((crossN (dm l) l a b c).2.2)),.pad,.pad,.pad,.pad])):=rfl
theorem acrS_ok (hP:PrgOk P) (args p r) (he:acrS args=some (p,r)) (hp:p):CSpec P 83 args r:=by
 unfold acrS at he
 split at he
 · simp only [Option.bind_eq_some_iff,Option.some.injEq,Prod.mk.injEq] at he
   obtain ⟨a,h1,b,h2,c,h3,d,h4,l,h5,rfl,rfl⟩:=he
   rw [rawV_inv h1,rawV_inv h2,rawV_inv h3,rawNn_inv h4,rawLV_inv h5,hp.1]
   exact acr_spec hP l a b c hp.2.1.1 hp.2.1.2 hp.2.2.1 hp.2.2.2.1 hp.2.2.2.2.1 hp.2.2.2.2.2
 · simp at he
attribute [go_sem] acrS_eq
theorem rBor_spec (hP:PrgOk P) (l:List V3) (d:Nat) (i:Nat) (j:Nat) (k:Nat) (hpre:d=dm l∧(i<l.length∧j<l.length∧k<l.length∧l.length≤5)∧fVm 16384 l):CSpec P 38 [(.imm (l).length (cl cW (l))),(.int .i64 ((d:Nat):Int)),(.int .i64 ((i:Nat):Int)),(.int .i64 ((j:Nat):Int)),(.int .i64 ((k:Nat):Int))] ((.agg [.opq (.rfrac ((cN l i j k).1)),.pad,.pad,.opq (.rfrac ((cN l i j k).2.1)),.pad,.pad,.opq (.rfrac ((cN l i j k).2.2)),.pad,.pad])):=by
 have HE:=Kt5_all hP TF hP.tF
 obtain ⟨he,⟨hi,hj,hk,h5⟩,hb⟩:=hpre
 subst he
 have h1:1≤l.length:=by omega
 have gi:=getW hi
 have gj:=getW hj
 have gk:=getW hk
 have fa:=fVm_at hb hi
 have fb:=fVm_at hb hj
 have fc:=fVm_at hb hk
 have hz:dm l=0→cN l i j k=v0:=fun h=>cN_0 h hi hj
 unfold cN at hz ⊢
 obtain ⟨a,ha⟩:∃ a,atL l i=a:=⟨_,rfl⟩
 obtain ⟨b,hb'⟩:∃ a,atL l j=a:=⟨_,rfl⟩
 obtain ⟨c,hc⟩:∃ a,atL l k=a:=⟨_,rfl⟩
 rw [ha] at gi fa hz ⊢
 rw [hb'] at gj fb hz ⊢
 rw [hc] at gk fc hz ⊢
 have hgo:groundL [.imm l.length (cl cW l),.int .i64 ((dm l:Nat):Int),.int .i64 (i:Int),.int .i64 (j:Int),.int .i64 (k:Int)]=true:=by simp only [groundL,onlyL,AV.only,cl_only,Bool.and_true]
 have d3:=dm_le l
 rw [← cnQ_N] at hz
 obtain ⟨d,hd⟩:∃ d,dm l=d:=⟨_,rfl⟩
 have fn:=nmL_fV hb
 obtain ⟨u,hu⟩:∃ zz,vsbq b a=zz:=⟨_,rfl⟩
 have fu:=vsbq_fV fb fa
 rw [hu] at fu
 obtain ⟨w,hw⟩:∃ zz,vsbq c a=zz:=⟨_,rfl⟩
 have fw:=vsbq_fV fc fa
 rw [hw] at fw
 obtain ⟨N,hN⟩:∃ n,nmL l=n:=⟨_,rfl⟩
 rw [hN] at fn
 have B:=(⟨bf fa (by decide),bf fb (by decide),bf fc (by decide),bx fu (by decide),bx fw (by decide),bx fn (by decide),vsbq_c hu,vsbq_c hw,hN⟩:_∧_∧_∧_∧_∧_∧_∧_∧_)
 rw [← cnQ_N,hd]
 unfold cnQ
 rw [hu,hw,hN]
 rw [hd] at hz d3
 unfold cnQ at hz
 rw [hu,hw,hN] at hz
 refine CSpec_vc (E:=⟨TF,Kt5⟩) (fn38 hP) HE hP.mix rfl hgo rfl (Nat.le_of_ble_eq_true rfl) ?_
 rcases (show d=0∨d=1∨d=2∨d=3 by omega) with rfl|rfl|rfl|rfl
 · rw [hz rfl]
   simp only [go_sem,hd,B,h1,h5,hb,gi,gj,gk,cl_len]
   exact fin_z
 · rw [if_pos rfl]
   simp only [go_sem,hd,B,h1,h5,hb,gi,gj,gk,cl_len]
   exact fin_z
 · rw [if_neg (by decide),if_pos rfl]
   simp only [go_sem,hd,B,h1,h5,hb,gi,gj,gk,cl_len]
   exact fin_z
 · rw [if_neg (by decide),if_neg (by decide)]
   simp only [go_sem,hd,B,h1,h5,hb,gi,gj,gk,cl_len]
   exact fin_z
noncomputable def rBorS:List AV→Option (Prop × AV)
 | [x0,x1,x2,x3,x4]=>(rawLX x0).bind fun l=>(rawNn x1).bind fun d=>(rawNn x2).bind fun i=>(rawNn x3).bind fun j=>(rawNn x4).bind fun k=>some ((d=dm l∧(i<l.length∧j<l.length∧k<l.length∧l.length≤5)∧fVm 16384 l),(.agg [.opq (.rfrac ((cN l i j k).1)),.pad,.pad,.opq (.rfrac ((cN l i j k).2.1)),.pad,.pad,.opq (.rfrac ((cN l i j k).2.2)),.pad,.pad]))
 | _=>none
theorem rBorS_eq (x0 x1 x2 x3 x4):rBorS [x0,x1,x2,x3,x4]=(rawLX x0).bind fun l=>(rawNn x1).bind fun d=>(rawNn x2).bind fun i=>(rawNn x3).bind fun j=>(rawNn x4).bind fun k=>some ((d=dm l∧(i<l.length∧j<l.length∧k<l.length∧l.length≤5)∧fVm 16384 l),(.agg [.opq (.rfrac ((cN l i j k).1)),.pad,.pad,.opq (.rfrac ((cN l i j k).2.1)),.pad,.pad,.opq (.rfrac ((cN l i j k).2.2)),.pad,.pad])):=rfl
theorem rBorS_ok (hP:PrgOk P) (args p r) (he:rBorS args=some (p,r)) (hp:p):CSpec P 38 args r:=by
 unfold rBorS at he
 split at he
 · simp only [Option.bind_eq_some_iff,Option.some.injEq,Prod.mk.injEq] at he
   obtain ⟨l,hhl,d,hhd,i,hhi,j,hhj,k,hhk,rfl,rfl⟩:=he
   rw [rawLX_inv hhl,rawNn_inv hhd,rawNn_inv hhi,rawNn_inv hhj,rawNn_inv hhk]
   exact rBor_spec hP l d i j k hp
 · simp at he
attribute [go_sem] rBorS_eq
noncomputable def Kt6:Nat→List AV→Option (Prop × AV):=addS (addS Kt5 83 acrS) 38 rBorS
theorem Kt6_all (hP:PrgOk P) (T) (hT:TyOk P T):EnvOk P ⟨T,Kt6⟩:=(((Kt5_all hP T hT).add (acrS_ok hP)).add (rBorS_ok hP))
theorem Kt6_at (f a):Kt6 f a=(addS (addS Kt5 83 acrS) 38 rBorS) f a:=rfl
attribute [go_sem] Kt6_at
theorem i16 {x:V3} {n:Nat} (h:fV x n) (hn:n≤16384):fl x.1≤16384∧fl x.2.1≤16384∧fl x.2.2≤16384:=fV_mono h hn
theorem i52 {x:V3} {n:Nat} (h:fV x n) (hn:n≤524288):fl x.1≤524288∧fl x.2.1≤524288∧fl x.2.2≤524288:=fV_mono h hn
theorem i3w (t:Rat):(cmpQ t 0 = -1∧t<0)∨(cmpQ t 0=0∧t=0)∨(cmpQ t 0=1∧0<t):=by
 rcases cmpQ_cases t 0 with ⟨h,e⟩|⟨h,e⟩|⟨h,e⟩
 · exact .inl ⟨e,h⟩
 · exact .inr (.inl ⟨by rw [h]; exact cmpQ_self 0,h⟩)
 · exact .inr (.inr ⟨e,h⟩)
theorem fVm_up {n m:Nat} (h:n≤m):∀ {l:List V3},fVm n l→fVm m l
 | [],_=>trivial
 | _::_,hl=>⟨fV_mono hl.1 h,fVm_up h hl.2⟩
theorem fVm_snoc {m:Nat} {p:V3}:∀ {l:List V3},fVm m l→fV p m→fVm m (l++[p])
 | [],_,hp=>⟨hp,trivial⟩
 | _::_,hl,hp=>⟨hl.1,fVm_snoc hl.2 hp⟩
theorem cl_snocW (l:List V3) (p:V3):cl cW l++[.opq (.rfrac (p.1)),.pad,.pad,.opq (.rfrac (p.2.1)),.pad,.pad,.opq (.rfrac (p.2.2)),.pad,.pad]=cl cW (l++[p]):=cl_snoc (f:=cW)
theorem rIn_spec (hP:PrgOk P) (p:V3) (l:List V3) (hpre:(2≤l.length∧l.length≤4)∧fVm 16384 l∧fV p 524288):CSpec P 16 [(.agg [.opq (.rfrac (p.1)),.pad,.pad,.opq (.rfrac (p.2.1)),.pad,.pad,.opq (.rfrac (p.2.2)),.pad,.pad]),(.imm (l).length (cl cW (l)))] (.int .i64 (wIn p l)):=by
 have HE:=Kt6_all hP TF hP.tF
 obtain ⟨⟨h2,h4⟩,hb,fp⟩:=hpre
 have hgo:groundL [(.agg [.opq (.rfrac ((p).1)),.pad,.pad,.opq (.rfrac ((p).2.1)),.pad,.pad,.opq (.rfrac ((p).2.2)),.pad,.pad]),.imm l.length (cl cW l)]=true:=by simp only [groundL,onlyL,AV.only,cl_only,Bool.and_true]
 have hro:∀ f,(AV.imm l.length (cl cW l)).only f=true:=fun f=>by simp only [AV.only,cl_only]
 have hb5:=fVm_up (show 16384≤524288 by decide) hb
 have hbp:=fVm_snoc hb5 fp
 have h5:l.length≤5:=by omega
 have hz:(0<l.length)=True∧(l.length*168≤1099511627776)=True∧((l.length+1)*168≤1099511627776)=True:=⟨eq_true (by omega),eq_true (by omega),eq_true (by omega)⟩
 have hl2:(l++[p]).length=l.length+1∧(2≤l.length+1)=True∧(l.length+1≤5)=True:=⟨by simp,eq_true (by omega),eq_true (by omega)⟩
 have ct:List.take ((l.length+1)*9) (cl cW (l++[p]))=cl cW (l++[p])∧AV.head (List.drop ((l.length+1)*9) (cl cW (l++[p])))=true:=⟨cl_all (by simp),by rw [cl_drop]; exact cl_head⟩
 refine CSpec_vc (E:=⟨TF,Kt6⟩) (fn16 hP) HE hP.mix rfl hgo rfl (Nat.le_of_ble_eq_true rfl) ?_
 by_cases ho:dm l<dm (p::l)
 · have ho':((dm (l++[p]):Nat):Int) > ((dm l:Nat):Int):=by rw [dm_last]; omega
   have e:wIn p l = -1:=by unfold wIn; rw [if_pos ho]
   rw [e]
   simp only [go_sem,cl_len,h2,h5,hb5,hbp,hl2,cl_snocW,cl_ck,cl_head,ct,hz,Option.some.injEq,false_implies,true_implies,ho']
   exact fin_z
 have ho':¬ ((dm (l++[p]):Nat):Int) > ((dm l:Nat):Int):=by rw [dm_last]; omega
 simp only [go_sem,cl_len,h2,h5,hb5,hbp,hl2,cl_snocW,cl_ck,cl_head,ct,hz,Option.some.injEq,false_implies,true_implies,ho']
 have sp:Jw (fun _ _ _=>false) p l 0 0 0 1:=Jw_0
 refine trX_loopV HE hP.mix (fun _:Nat × Int=>[10,9,5,0]) (fun x=>⟨upd (upd (upd (upd (upd (fun _=>.junk) 1 (.imm l.length (cl cW l))) 2 (.ref 0 0)) 6 (.int .i64 ((dm l:Nat):Int))) 7 (.int .i64 x.2)) 8 (.int .i64 (x.1:Int)),upd (upd (upd (upd (fun _=>.unused) 0 (.live [.opq (.rfrac (p.1)),.pad,.pad,.opq (.rfrac (p.2.1)),.pad,.pad,.opq (.rfrac (p.2.2)),.pad,.pad])) 5 .gone) 9 (.live [.opq (.rfrac (p.1)),.pad,.pad,.opq (.rfrac (p.2.1)),.pad,.pad,.opq (.rfrac (p.2.2)),.pad,.pad])) 10 (.ro (cl cW (l++[p]))),76⟩) (fun x=>x.1≤l.length∧Jw (fun _ _ _=>false) p l x.1 0 0 x.2) (fun x=>l.length-x.1) (0,1) (fun _=>1000) (fun _=>Has.z) (Kept.of rfl KT.y KM.y) ⟨Nat.zero_le _,sp⟩ 76 (by kernel_rfl) ?_
 rintro ⟨i,w⟩ ⟨hi,hj⟩
 simp only [] at hi hj
 by_cases h:i<l.length
 case neg =>
  have e:i=l.length:=by omega
  subst e
  rw [Jw_doc ho hj]
  simp only [go_sem,cl_len,Nat.lt_irrefl]
  exact fin_z
 have wi:=wi_add1 i (by omega)
 simp only [go_sem,cl_len,h]
 refine trX_loopV HE hP.mix (fun _:Nat × Int=>[10,9,5,0]) (fun x=>⟨upd (upd (upd (upd (upd (upd (fun _=>.junk) 1 (.imm l.length (cl cW l))) 2 (.ref 0 0)) 6 (.int .i64 ((dm l:Nat):Int))) 7 (.int .i64 x.2)) 8 (.int .i64 (i:Int))) 9 (.int .i64 (x.1:Int)),upd (upd (upd (upd (fun _=>.unused) 0 (.live [.opq (.rfrac (p.1)),.pad,.pad,.opq (.rfrac (p.2.1)),.pad,.pad,.opq (.rfrac (p.2.2)),.pad,.pad])) 5 .gone) 9 (.live [.opq (.rfrac (p.1)),.pad,.pad,.opq (.rfrac (p.2.1)),.pad,.pad,.opq (.rfrac (p.2.2)),.pad,.pad])) 10 (.ro (cl cW (l++[p]))),76⟩) (fun x=>x.1≤l.length∧Jw (fun _ _ _=>false) p l i x.1 0 x.2) (fun x=>l.length-x.1) (0,w) (fun _=>2000) (fun _=>Has.z) (Kept.of rfl KT.y KM.y) ⟨Nat.zero_le _,hj⟩ 76 (by kernel_rfl) ?_
 rintro ⟨j,w⟩ ⟨hi',hj⟩
 simp only [] at hi' hj
 by_cases h':j<l.length
 case neg =>
  have e:j=l.length:=by omega
  subst e
  simp only [go_sem,cl_len,Nat.lt_irrefl,wi]
  exact ⟨(i+1,w),Kept.of rfl KT.y KM.y,⟨h,Jw_rol2 hj⟩,by show l.length-(i+1)<l.length-i; omega⟩
 have wj:=wi_add1 j (by omega)
 simp only [go_sem,cl_len,h']
 refine trX_loopV HE hP.mix (fun _:Nat × Int=>[10,9,5,0]) (fun x=>⟨upd (upd (upd (upd (upd (upd (upd (fun _=>.junk) 1 (.imm l.length (cl cW l))) 2 (.ref 0 0)) 6 (.int .i64 ((dm l:Nat):Int))) 7 (.int .i64 x.2)) 8 (.int .i64 (i:Int))) 9 (.int .i64 (j:Int))) 10 (.int .i64 (x.1:Int)),upd (upd (upd (upd (fun _=>.unused) 0 (.live [.opq (.rfrac (p.1)),.pad,.pad,.opq (.rfrac (p.2.1)),.pad,.pad,.opq (.rfrac (p.2.2)),.pad,.pad])) 5 .gone) 9 (.live [.opq (.rfrac (p.1)),.pad,.pad,.opq (.rfrac (p.2.1)),.pad,.pad,.opq (.rfrac (p.2.2)),.pad,.pad])) 10 (.ro (cl cW (l++[p]))),76⟩) (fun x=>x.1≤l.length∧Jw (fun _ _ _=>false) p l i j x.1 x.2) (fun x=>l.length-x.1) (0,w) (fun _=>3000) (fun _=>Has.z) (Kept.of rfl KT.y KM.y) ⟨Nat.zero_le _,hj⟩ 76 (by kernel_rfl) ?_
 rintro ⟨k,w⟩ ⟨hi'',hj⟩
 simp only [] at hi'' hj
 by_cases h'':k<l.length
 case neg =>
  have e:k=l.length:=by omega
  subst e
  simp only [go_sem,cl_len,Nat.lt_irrefl,wj]
  exact ⟨(j+1,w),Kept.of rfl KT.y KM.y,⟨h',Jw_roll hj⟩,by show l.length-(j+1)<l.length-j; omega⟩
 have wk:=wi_add1 k (by omega)
 have g:=getW h
 have fa:=fVm_at hb h
 obtain ⟨N,hN⟩:∃ n,cN l i j k=n:=⟨_,rfl⟩
 have fN:=cN_fV hb h h' h''
 rw [hN] at fN
 obtain ⟨u,hu⟩:∃ zz,vsbq p (atL l i)=zz:=⟨_,rfl⟩
 have fu:=vsbq_fV fp fa
 rw [hu] at fu
 obtain ⟨t,ht⟩:∃ zz,qdt N u=zz:=⟨_,rfl⟩
 have ft:=qdt_fl fN fu
 rw [ht] at ft
 have kt:qdt (N.1,N.2.1,N.2.2) (u.1,u.2.1,u.2.2)=t:=ht
 have kz:decide (((N.1,N.2.1,N.2.2):V3)=v0)=decide (N=v0):=rfl
 have kv:vdt (cN l i j k) (vsb p (atL l i))=t:=by rw [hN,← ht,← hu,vsbq_vsb,qdt_vdt]
 have B:=(⟨i16 fa (by decide),bf fa (by decide),bm fN (by decide),bt fN (by decide),bt fu (by decide),bf fp (by decide),vsbq_c hu,kt,kz,hN⟩:_∧_∧_∧_∧_∧_∧_∧_∧_∧_)
 by_cases z:N=v0
 · simp only [go_sem,cl_len,g,h',h'',h5,hb,B,decide_eq_true z,wk]
   exact ⟨(k+1,w),Kept.of rfl KT.y KM.y,⟨h'',Jw_skip hj fun hg=>hg.2.1 (hN.trans z)⟩,by show l.length-(k+1)<l.length-k; omega⟩
 obtain ⟨b,hd⟩:∃ b,hdB l (atL l i) N=b:=⟨_,rfl⟩
 have kd:hdB l ((atL l i).1,(atL l i).2.1,(atL l i).2.2) (N.1,N.2.1,N.2.2)=b:=hd
 have hG:Gd (fun _ _ _=>false) l i j k ↔ b=true:=by
  rw [← hd,hdB_iff]; unfold Gd; rw [hN]
  exact ⟨fun h=>h.2.2,fun h=>⟨rfl,z,h⟩⟩
 cases b
 · simp only [go_sem,cl_len,g,h',h'',h5,hb,B,decide_eq_false z,kd,wk]
   exact ⟨(k+1,w),Kept.of rfl KT.y KM.y,⟨h'',Jw_skip hj fun hg=>absurd (hG.1 hg) (by decide)⟩,by show l.length-(k+1)<l.length-k; omega⟩
 have hg:=hG.2 rfl
 rcases i3w t with ⟨e,ht'⟩|⟨e,ht'⟩|⟨e,ht'⟩
 · have e0:dm l ≠ 0:=fun e0=>hg.2.1 (cN_0 e0 h h')
   rw [Jw_out ho e0 h h' h'' hg (kv ▸ ht')]
   simp only [go_sem,cl_len,g,h',h'',h5,hb,B,decide_eq_false z,kd,e]
   exact fin_z
 · simp only [go_sem,cl_len,g,h',h'',h5,hb,B,decide_eq_false z,kd,e,wk]
   exact ⟨(k+1,0),Kept.of rfl KT.y KM.y,⟨h'',Jw_zero hj h' h'' hg (kv.trans ht')⟩,by show l.length-(k+1)<l.length-k; omega⟩
 · simp only [go_sem,cl_len,g,h',h'',h5,hb,B,decide_eq_false z,kd,e,wk]
   exact ⟨(k+1,w),Kept.of rfl KT.y KM.y,⟨h'',Jw_pos hj (kv ▸ ht')⟩,by show l.length-(k+1)<l.length-k; omega⟩
noncomputable def rInS:List AV→Option (Prop × AV)
 | [x0,x1]=>(rawX x0).bind fun p=>(rawLX x1).bind fun l=>some (((2≤l.length∧l.length≤4)∧fVm 16384 l∧fV p 524288),.int .i64 (wIn p l))
 | _=>none
theorem rInS_eq (x0 x1):rInS [x0,x1]=(rawX x0).bind fun p=>(rawLX x1).bind fun l=>some (((2≤l.length∧l.length≤4)∧fVm 16384 l∧fV p 524288),.int .i64 (wIn p l)):=rfl
theorem rInS_ok (hP:PrgOk P) (args p r) (he:rInS args=some (p,r)) (hp:p):CSpec P 16 args r:=by
 unfold rInS at he
 split at he
 · simp only [Option.bind_eq_some_iff,Option.some.injEq,Prod.mk.injEq] at he
   obtain ⟨p,hhp,l,hhl,rfl,rfl⟩:=he
   rw [rawX_inv hhp,rawLX_inv hhl]
   exact rIn_spec hP p l hp
 · simp at he
attribute [go_sem] rInS_eq
noncomputable def Kt6':Nat→List AV→Option (Prop × AV):=addS Kt6 16 rInS
theorem Kt6'_all (hP:PrgOk P) (T) (hT:TyOk P T):EnvOk P ⟨T,Kt6'⟩:=((Kt6_all hP T hT)).add (rInS_ok hP)
attribute [go_sem] Kt6'
theorem pWit_spec (hP:PrgOk P) (p:V3) (l:List V3) (hpre:(2≤l.length∧l.length≤4)∧fVm 16384 l∧fV p 16384):CSpec P 37 [(.agg [.opq (.frac (p.1)),.pad,.pad,.pad,.pad,.opq (.frac (p.2.1)),.pad,.pad,.pad,.pad,.opq (.frac (p.2.2)),.pad,.pad,.pad,.pad]),(.imm (l).length (cl cV (l)))] (.int .i64 (wIn p l)):=by
 have HE:=Kt6'_all hP TF hP.tF
 obtain ⟨⟨h2,h4⟩,hb,fp⟩:=hpre
 have hgo:groundL [(.agg [.opq (.frac ((p).1)),.pad,.pad,.pad,.pad,.opq (.frac ((p).2.1)),.pad,.pad,.pad,.pad,.opq (.frac ((p).2.2)),.pad,.pad,.pad,.pad]),.imm l.length (cl cV l)]=true:=by simp only [groundL,onlyL,AV.only,cl_only,Bool.and_true]
 have h5:l.length≤5:=by omega
 have kp:(AV.opq (.frac p.1) :: .pad :: .pad :: .pad :: .pad :: .opq (.frac p.2.1) :: .pad :: .pad :: .pad :: .pad :: .opq (.frac p.2.2) :: .pad :: .pad :: .pad :: .pad::cl cV l)=cl cV (p::l):=rfl
 have hz:((0<l.length)=True∧(l.length*216≤1099511627776)=True∧((1+l.length)*216≤1099511627776)=True)∧((1+l.length=l.length+1)=True∧(2≤l.length+1)=True∧(l.length+1≤5)=True∧((1+l.length)*15≤(l.length+1)*15)=True) :=
  ⟨⟨eq_true (by omega),eq_true (by omega),eq_true (by omega)⟩,eq_true (by omega),eq_true (by omega),eq_true (by omega),eq_true (by omega)⟩
 have ct:List.take ((1+l.length)*15) (cl cV (p::l))=cl cV (p::l)∧AV.head (List.drop ((1+l.length)*15) (cl cV (p::l)))=true:=⟨cl_all (by simp; omega),by rw [cl_drop]; exact cl_head⟩
 refine CSpec_vc (E:=⟨TF,Kt6'⟩) (fn37 hP) HE hP.mix rfl hgo rfl (Nat.le_of_ble_eq_true rfl) ?_
 by_cases ho:dm l<dm (p::l)
 · have ho':((dm (p::l):Nat):Int) > ((dm l:Nat):Int):=by omega
   have e:wIn p l = -1:=by unfold wIn; rw [if_pos ho]
   rw [e]
   simp only [go_sem,cl_len,List.length_cons,h2,h5,hb,fp,kp,hz,ct,cl_ck,cl_head,Option.some.injEq,false_implies,true_implies,ho']
   exact fin_z
 have ho':¬ ((dm (p::l):Nat):Int) > ((dm l:Nat):Int):=by omega
 by_cases e0:dm l=0
 · have e:wIn p l=1:=by unfold wIn; rw [if_neg ho,if_pos e0]
   have d0:(((dm l:Nat):Int) == 0)=true:=(eqN (dm l) 0).trans (decide_eq_true e0)
   rw [e]
   simp only [go_sem,cl_len,List.length_cons,h2,h5,hb,fp,kp,hz,ct,cl_ck,cl_head,Option.some.injEq,false_implies,true_implies,ho',d0]
   exact fin_z
 have d0:(((dm l:Nat):Int) == 0)=false:=(eqN (dm l) 0).trans (decide_eq_false e0)
 simp only [go_sem,cl_len,List.length_cons,h2,h5,hb,fp,kp,hz,ct,cl_ck,cl_head,Option.some.injEq,false_implies,true_implies,ho',d0]
 have h1:(1≤l.length)=True:=eq_true (by omega)
 have sp:Jw (skP (dm l)) p l 0 0 0 1:=Jw_0
 refine trX_frz [5,1] ?_
 refine trX_loopV HE hP.mix (fun _:Nat × Int=>[10,8,5,1,0]) (fun x=>⟨upd (upd (upd (upd (upd (upd (upd (upd (fun _=>.junk) 2 (.ref 0 0)) 3 (.ref 1 0)) 5 (.ref 5 0)) 6 (.fn 83 [] [.ref 5 0,.ref 1 0])) 7 (.int .i64 x.2)) 30 (.imm l.length (cl cV l))) 31 (.int .i64 (l.length:Int))) 32 (.int .i64 ((x.1:Nat):Int)),upd (upd (upd (upd (upd (fun _=>.unused) 0 (.live [.opq (.frac (p.1)),.pad,.pad,.pad,.pad,.opq (.frac (p.2.1)),.pad,.pad,.pad,.pad,.opq (.frac (p.2.2)),.pad,.pad,.pad,.pad])) 1 (.ro [.imm l.length (cl cV l)])) 5 (.ro [.int .i64 ((dm l:Nat):Int)])) 8 .gone) 10 (.ro (cl cV (p::l))),111⟩) (fun x=>x.1≤l.length∧Jw (skP (dm l)) p l x.1 0 0 x.2) (fun x=>l.length-x.1) (0,1) (fun _=>1000) (fun _=>Has.frz Has.z) (Kept.of rfl KT.y KM.y) ⟨Nat.zero_le _,Jw_0⟩ 111 (by kernel_rfl) ?_
 rintro ⟨i,w⟩ ⟨hi,hj⟩
 simp only [] at hi hj
 by_cases h:i<l.length
 case neg =>
  have e:i=l.length:=by omega
  subst e
  rw [Jw_end (allB_p e0) ho e0 hj]
  simp only [go_sem,cl_len,Nat.lt_irrefl]
  exact fin_z
 have wi:=wi_add1 i (by omega)
 have g:=getV h
 simp only [go_sem,cl_len,g]
 refine trX_loopV HE hP.mix (fun _:Nat × Int=>[1004,10,8,5,1,0]) (fun x=>⟨upd (upd (upd (upd (upd (upd (upd (upd (upd (upd (upd (upd (upd (fun _=>.junk) 2 (.ref 0 0)) 3 (.ref 1 0)) 5 (.ref 5 0)) 6 (.fn 83 [] [.ref 5 0,.ref 1 0])) 7 (.int .i64 x.2)) 30 (.imm l.length (cl cV l))) 31 (.int .i64 (l.length:Int))) 32 (.int .i64 ((i:Nat):Int))) 8 (.int .i64 ((i:Nat):Int))) 9 (.ref 1004 0)) 37 (.imm l.length (cl cV l))) 38 (.int .i64 (l.length:Int))) 39 (.int .i64 ((x.1:Nat):Int)),upd (upd (upd (upd (upd (upd (fun _=>.unused) 0 (.live [.opq (.frac (p.1)),.pad,.pad,.pad,.pad,.opq (.frac (p.2.1)),.pad,.pad,.pad,.pad,.opq (.frac (p.2.2)),.pad,.pad,.pad,.pad])) 1 (.ro [.imm l.length (cl cV l)])) 5 (.ro [.int .i64 ((dm l:Nat):Int)])) 8 .gone) 10 (.ro (cl cV (p::l)))) 1004 (.live [.opq (.frac ((atL l i).1)),.pad,.pad,.pad,.pad,.opq (.frac ((atL l i).2.1)),.pad,.pad,.pad,.pad,.opq (.frac ((atL l i).2.2)),.pad,.pad,.pad,.pad]),111⟩) (fun x=>x.1≤l.length∧Jw (skP (dm l)) p l i x.1 0 x.2) (fun x=>l.length-x.1) (0,w) (fun _=>2000) (fun _=>Has.z) (Kept.of rfl KT.y KM.y) ⟨Nat.zero_le _,hj⟩ 111 (by kernel_rfl) ?_
 rintro ⟨j,w⟩ ⟨hi',hj⟩
 simp only [] at hi' hj
 by_cases h':j<l.length
 case neg =>
  have e:j=l.length:=by omega
  subst e
  simp only [go_sem,cl_len,Nat.lt_irrefl,wi]
  exact ⟨(i+1,w),Kept.of rfl KT.y KM.y,⟨h,Jw_rol2 hj⟩,by show l.length-(i+1)<l.length-i; omega⟩
 have wj:=wi_add1 j (by omega)
 have g':=getV h'
 simp only [go_sem,cl_len,g']
 refine trX_loopV HE hP.mix (fun _:Nat × Int=>[2004,1004,10,8,5,1,0]) (fun x=>⟨upd (upd (upd (upd (upd (upd (upd (upd (upd (upd (upd (upd (upd (upd (upd (upd (upd (upd (fun _=>.junk) 2 (.ref 0 0)) 3 (.ref 1 0)) 5 (.ref 5 0)) 6 (.fn 83 [] [.ref 5 0,.ref 1 0])) 7 (.int .i64 x.2)) 30 (.imm l.length (cl cV l))) 31 (.int .i64 (l.length:Int))) 32 (.int .i64 ((i:Nat):Int))) 8 (.int .i64 ((i:Nat):Int))) 9 (.ref 1004 0)) 37 (.imm l.length (cl cV l))) 38 (.int .i64 (l.length:Int))) 39 (.int .i64 ((j:Nat):Int))) 10 (.int .i64 ((j:Nat):Int))) 11 (.ref 2004 0)) 44 (.imm l.length (cl cV l))) 45 (.int .i64 (l.length:Int))) 46 (.int .i64 ((x.1:Nat):Int)),upd (upd (upd (upd (upd (upd (upd (fun _=>.unused) 0 (.live [.opq (.frac (p.1)),.pad,.pad,.pad,.pad,.opq (.frac (p.2.1)),.pad,.pad,.pad,.pad,.opq (.frac (p.2.2)),.pad,.pad,.pad,.pad])) 1 (.ro [.imm l.length (cl cV l)])) 5 (.ro [.int .i64 ((dm l:Nat):Int)])) 8 .gone) 10 (.ro (cl cV (p::l)))) 1004 (.live [.opq (.frac ((atL l i).1)),.pad,.pad,.pad,.pad,.opq (.frac ((atL l i).2.1)),.pad,.pad,.pad,.pad,.opq (.frac ((atL l i).2.2)),.pad,.pad,.pad,.pad])) 2004 (.live [.opq (.frac ((atL l j).1)),.pad,.pad,.pad,.pad,.opq (.frac ((atL l j).2.1)),.pad,.pad,.pad,.pad,.opq (.frac ((atL l j).2.2)),.pad,.pad,.pad,.pad]),111⟩) (fun x=>x.1≤l.length∧Jw (skP (dm l)) p l i j x.1 x.2) (fun x=>l.length-x.1) (0,w) (fun _=>3000) (fun _=>Has.z) (Kept.of rfl KT.y KM.y) ⟨Nat.zero_le _,hj⟩ 111 (by kernel_rfl) ?_
 rintro ⟨k,w⟩ ⟨hi'',hj⟩
 simp only [] at hi'' hj
 by_cases h'':k<l.length
 case neg =>
  have e:k=l.length:=by omega
  subst e
  simp only [go_sem,cl_len,Nat.lt_irrefl,wj]
  exact ⟨(j+1,w),Kept.of rfl KT.y KM.y,⟨h',Jw_roll hj⟩,by show l.length-(j+1)<l.length-j; omega⟩
 have wk:=wi_add1 k (by omega)
 have g'':=getV h''
 have fa:=fVm_at hb h
 have fb:=fVm_at hb h'
 have fc:=fVm_at hb h''
 obtain ⟨N,hN⟩:∃ n,cN l i j k=n:=⟨_,rfl⟩
 have fN:=cN_fV hb h h' h''
 rw [hN] at fN
 obtain ⟨u,hu⟩:∃ zz,vsbq p (atL l i)=zz:=⟨_,rfl⟩
 have fu:=vsbq_fV fp fa
 rw [hu] at fu
 obtain ⟨t,ht⟩:∃ zz,qdt N u=zz:=⟨_,rfl⟩
 have ft:=qdt_fl fN fu
 rw [ht] at ft
 have kt:qdt (N.1,N.2.1,N.2.2) (u.1,u.2.1,u.2.2)=t:=ht
 have kz:decide (((N.1,N.2.1,N.2.2):V3)=v0)=decide (N=v0):=rfl
 have kv:vdt (cN l i j k) (vsb p (atL l i))=t:=by rw [hN,← ht,← hu,vsbq_vsb,qdt_vdt]
 have kN:crossN (dm l) l ((atL l i).1,(atL l i).2.1,(atL l i).2.2) ((atL l j).1,(atL l j).2.1,(atL l j).2.2) ((atL l k).1,(atL l k).2.1,(atL l k).2.2)=N:=hN
 have B:=(⟨i16 fa (by decide),i16 fb (by decide),i16 fc (by decide),bf fa (by decide),bf fN (by decide),bt fN (by decide),bt fu (by decide),bf fp (by decide),ks ft (by decide),vsbq_c hu,kt,kz,kN,hN⟩:_∧_∧_∧_∧_∧_∧_∧_∧_∧_∧_∧_∧_∧_)
 have d3:=dm_le l
 by_cases ij:i=j
 case pos =>
  have f1:((i:Int) == (j:Int))=true:=(eqN i j).trans (decide_eq_true ij)
  have hsk:skP (dm l) i j k=true:=by unfold skP; simp [ij]
  simp only [go_sem,cl_len,g'',f1,wk]
  exact ⟨(k+1,w),Kept.of rfl KT.y KM.y,⟨h'',Jw_skip hj fun hg=>absurd hg.1 (by rw [hsk]; decide)⟩,by show l.length-(k+1)<l.length-k; omega⟩
 have f1:((i:Int) == (j:Int))=false:=(eqN i j).trans (decide_eq_false ij)
 by_cases c3:dm l=3
 case pos =>
  have f2:(((dm l:Nat):Int) == 3)=true:=(eqN (dm l) 3).trans (decide_eq_true c3)
  by_cases ki:k=i
  case pos =>
   have f3:((k:Int) == (i:Int))=true:=(eqN k i).trans (decide_eq_true ki)
   have hsk:skP (dm l) i j k=true:=by unfold skP; simp [c3,ki]
   simp only [go_sem,cl_len,g'',f1,f2,f3,wk]
   exact ⟨(k+1,w),Kept.of rfl KT.y KM.y,⟨h'',Jw_skip hj fun hg=>absurd hg.1 (by rw [hsk]; decide)⟩,by show l.length-(k+1)<l.length-k; omega⟩
  have f3:((k:Int) == (i:Int))=false:=(eqN k i).trans (decide_eq_false ki)
  by_cases kj:k=j
  case pos =>
   have f4:((k:Int) == (j:Int))=true:=(eqN k j).trans (decide_eq_true kj)
   have hsk:skP (dm l) i j k=true:=by unfold skP; simp [c3,kj]
   simp only [go_sem,cl_len,g'',f1,f2,f3,f4,wk]
   exact ⟨(k+1,w),Kept.of rfl KT.y KM.y,⟨h'',Jw_skip hj fun hg=>absurd hg.1 (by rw [hsk]; decide)⟩,by show l.length-(k+1)<l.length-k; omega⟩
  have f4:((k:Int) == (j:Int))=false:=(eqN k j).trans (decide_eq_false kj)
  have f5:(((dm l:Nat):Int)<3)=False:=eq_false (by omega)
  have hsk:skP (dm l) i j k=false:=by unfold skP; simp [ij,c3,ki,kj]
  by_cases z:N=v0
  · simp only [go_sem,cl_len,h1,h2,h5,hb,f1,f2,f3,f4,f5,g'',B,decide_eq_true z,wk]
    exact ⟨(k+1,w),Kept.of rfl KT.y KM.y,⟨h'',Jw_skip hj fun hg=>hg.2.1 (hN.trans z)⟩,by show l.length-(k+1)<l.length-k; omega⟩
  simp only [go_sem,cl_len,h1,h2,h5,hb,f1,f2,f3,f4,f5,g'',B,decide_eq_false z]
  refine trX_loopV HE hP.mix (fun _:Nat=>[3035,3004,2004,1004,10,8,5,1,0]) (fun x=>⟨upd (upd (upd (upd (upd (upd (upd (upd (upd (upd (upd (upd (upd (upd (upd (upd (upd (upd (upd (upd (upd (upd (fun _=>.junk) 2 (.ref 0 0)) 3 (.ref 1 0)) 5 (.ref 5 0)) 6 (.fn 83 [] [.ref 5 0,.ref 1 0])) 7 (.int .i64 w)) 30 (.imm l.length (cl cV l))) 31 (.int .i64 (l.length:Int))) 32 (.int .i64 ((i:Nat):Int))) 8 (.int .i64 ((i:Nat):Int))) 9 (.ref 1004 0)) 37 (.imm l.length (cl cV l))) 38 (.int .i64 (l.length:Int))) 39 (.int .i64 ((j:Nat):Int))) 10 (.int .i64 ((j:Nat):Int))) 11 (.ref 2004 0)) 44 (.imm l.length (cl cV l))) 45 (.int .i64 (l.length:Int))) 46 (.int .i64 ((k:Nat):Int))) 14 (.ref 3035 0)) 83 (.imm l.length (cl cV l))) 84 (.int .i64 (l.length:Int))) 85 (.int .i64 ((x:Nat):Int)),upd (upd (upd (upd (upd (upd (upd (upd (upd (fun _=>.unused) 0 (.live [.opq (.frac (p.1)),.pad,.pad,.pad,.pad,.opq (.frac (p.2.1)),.pad,.pad,.pad,.pad,.opq (.frac (p.2.2)),.pad,.pad,.pad,.pad])) 1 (.ro [.imm l.length (cl cV l)])) 5 (.ro [.int .i64 ((dm l:Nat):Int)])) 8 .gone) 10 (.ro (cl cV (p::l)))) 1004 (.live [.opq (.frac ((atL l i).1)),.pad,.pad,.pad,.pad,.opq (.frac ((atL l i).2.1)),.pad,.pad,.pad,.pad,.opq (.frac ((atL l i).2.2)),.pad,.pad,.pad,.pad])) 2004 (.live [.opq (.frac ((atL l j).1)),.pad,.pad,.pad,.pad,.opq (.frac ((atL l j).2.1)),.pad,.pad,.pad,.pad,.opq (.frac ((atL l j).2.2)),.pad,.pad,.pad,.pad])) 3004 (.live [.opq (.frac ((atL l k).1)),.pad,.pad,.pad,.pad,.opq (.frac ((atL l k).2.1)),.pad,.pad,.pad,.pad,.opq (.frac ((atL l k).2.2)),.pad,.pad,.pad,.pad])) 3035 (.live [.opq (.frac (N.1)),.pad,.pad,.pad,.pad,.opq (.frac (N.2.1)),.pad,.pad,.pad,.pad,.opq (.frac (N.2.2)),.pad,.pad,.pad,.pad]),111⟩) (fun x=>x≤l.length∧∀ q ∈ l.take x,0≤vdt N (vsb q (atL l i))) (fun x=>l.length-x) 0 (fun _=>4000) (fun _=>Has.z) (Kept.of rfl KT.y KM.y) ⟨Nat.zero_le _,fun q hq=>by simp at hq⟩ 111 (by kernel_rfl) ?_
  rintro m ⟨hm,hall⟩
  by_cases h3:m<l.length
  case pos =>
   have g3:=getV h3
   have fq:=fVm_at hb h3
   obtain ⟨u3,hu3⟩:∃ zz,vsbq (atL l m) (atL l i)=zz:=⟨_,rfl⟩
   have fu3:=vsbq_fV fq fa
   rw [hu3] at fu3
   obtain ⟨t3,ht3⟩:∃ zz,qdt N u3=zz:=⟨_,rfl⟩
   have ft3:=qdt_fl fN fu3
   rw [ht3] at ft3
   have kt3:qdt (N.1,N.2.1,N.2.2) (u3.1,u3.2.1,u3.2.2)=t3:=ht3
   have kv3:vdt N (vsb (atL l m) (atL l i))=t3:=by rw [← ht3,← hu3,vsbq_vsb,qdt_vdt]
   have wm:=wi_add1 m (by omega)
   have B3:=(⟨bf fq (by decide),bt fu3 (by decide),ks ft3 (by decide),vsbq_c hu3,kt3⟩:_∧_∧_∧_∧_)
   by_cases z3:0≤t3
   · have c:(cmpQ t3 0<0)=False:=eq_false (by have:=cmpQ_ge.2 z3; omega)
     simp only [go_sem,cl_len,g3,B,B3,c,wm]
     refine ⟨m+1,Kept.of rfl KT.y KM.y,⟨h3,fun q hq=>?_⟩,by show l.length-(m+1)<l.length-m; omega⟩
     rw [atL_take h3] at hq
     rcases List.mem_append.1 hq with hq|hq
     · exact hall q hq
     · rw [List.mem_singleton.1 hq,kv3]; exact z3
   · have c:(cmpQ t3 0<0)=True:=eq_true (by have:=mt cmpQ_ge.1 z3; omega)
     simp only [go_sem,cl_len,g3,B,B3,c,wk]
     exact ⟨(k+1,w),Kept.of rfl KT.y KM.y,⟨h'',Jw_skip hj fun hg=>z3 (by have:=hg.2.2 _ (atL_in h3); rw [hN,kv3] at this; exact this)⟩,by show l.length-(k+1)<l.length-k; omega⟩
  have em:m=l.length:=by omega
  subst em
  rw [List.take_of_length_le (Nat.le_refl _)] at hall
  have hg:Gd (skP (dm l)) l i j k:=⟨hsk,by rw [hN]; exact z,by rw [hN]; exact hall⟩
  rcases i3w t with ⟨e,ht'⟩|⟨e,ht'⟩|⟨e,ht'⟩
  · rw [Jw_out ho e0 h h' h'' hg (kv ▸ ht')]
    simp only [go_sem,cl_len,Nat.lt_irrefl,B,e]
    exact fin_z
  · simp only [go_sem,cl_len,Nat.lt_irrefl,B,e,wk]
    exact ⟨(k+1,0),Kept.of rfl KT.y KM.y,⟨h'',Jw_zero hj h' h'' hg (kv.trans ht')⟩,by show l.length-(k+1)<l.length-k; omega⟩
  · simp only [go_sem,cl_len,Nat.lt_irrefl,B,e,wk]
    exact ⟨(k+1,w),Kept.of rfl KT.y KM.y,⟨h'',Jw_pos hj (kv ▸ ht')⟩,by show l.length-(k+1)<l.length-k; omega⟩
 have f2:(((dm l:Nat):Int) == 3)=false:=(eqN (dm l) 3).trans (decide_eq_false c3)
 have f5:(((dm l:Nat):Int)<3)=True:=eq_true (by omega)
 by_cases k0:0<k
 case pos =>
  have f6:((k:Int) > 0)=True:=eq_true (by omega)
  have hsk:skP (dm l) i j k=true:=by unfold skP; simp [show dm l<3 by omega,k0]
  simp only [go_sem,cl_len,g'',f1,f2,f5,f6,wk]
  exact ⟨(k+1,w),Kept.of rfl KT.y KM.y,⟨h'',Jw_skip hj fun hg=>absurd hg.1 (by rw [hsk]; decide)⟩,by show l.length-(k+1)<l.length-k; omega⟩
 have f6:((k:Int) > 0)=False:=eq_false (by omega)
 have hsk:skP (dm l) i j k=false:=by unfold skP; simp [ij,c3,k0]
 by_cases z:N=v0
 · simp only [go_sem,cl_len,h1,h2,h5,hb,f1,f2,f5,f6,g'',B,decide_eq_true z,wk]
   exact ⟨(k+1,w),Kept.of rfl KT.y KM.y,⟨h'',Jw_skip hj fun hg=>hg.2.1 (hN.trans z)⟩,by show l.length-(k+1)<l.length-k; omega⟩
 simp only [go_sem,cl_len,h1,h2,h5,hb,f1,f2,f5,f6,g'',B,decide_eq_false z]
 refine trX_loopV HE hP.mix (fun _:Nat=>[3029,3004,2004,1004,10,8,5,1,0]) (fun x=>⟨upd (upd (upd (upd (upd (upd (upd (upd (upd (upd (upd (upd (upd (upd (upd (upd (upd (upd (upd (upd (upd (upd (fun _=>.junk) 2 (.ref 0 0)) 3 (.ref 1 0)) 5 (.ref 5 0)) 6 (.fn 83 [] [.ref 5 0,.ref 1 0])) 7 (.int .i64 w)) 30 (.imm l.length (cl cV l))) 31 (.int .i64 (l.length:Int))) 32 (.int .i64 ((i:Nat):Int))) 8 (.int .i64 ((i:Nat):Int))) 9 (.ref 1004 0)) 37 (.imm l.length (cl cV l))) 38 (.int .i64 (l.length:Int))) 39 (.int .i64 ((j:Nat):Int))) 10 (.int .i64 ((j:Nat):Int))) 11 (.ref 2004 0)) 44 (.imm l.length (cl cV l))) 45 (.int .i64 (l.length:Int))) 46 (.int .i64 ((k:Nat):Int))) 14 (.ref 3029 0)) 83 (.imm l.length (cl cV l))) 84 (.int .i64 (l.length:Int))) 85 (.int .i64 ((x:Nat):Int)),upd (upd (upd (upd (upd (upd (upd (upd (upd (fun _=>.unused) 0 (.live [.opq (.frac (p.1)),.pad,.pad,.pad,.pad,.opq (.frac (p.2.1)),.pad,.pad,.pad,.pad,.opq (.frac (p.2.2)),.pad,.pad,.pad,.pad])) 1 (.ro [.imm l.length (cl cV l)])) 5 (.ro [.int .i64 ((dm l:Nat):Int)])) 8 .gone) 10 (.ro (cl cV (p::l)))) 1004 (.live [.opq (.frac ((atL l i).1)),.pad,.pad,.pad,.pad,.opq (.frac ((atL l i).2.1)),.pad,.pad,.pad,.pad,.opq (.frac ((atL l i).2.2)),.pad,.pad,.pad,.pad])) 2004 (.live [.opq (.frac ((atL l j).1)),.pad,.pad,.pad,.pad,.opq (.frac ((atL l j).2.1)),.pad,.pad,.pad,.pad,.opq (.frac ((atL l j).2.2)),.pad,.pad,.pad,.pad])) 3004 (.live [.opq (.frac ((atL l k).1)),.pad,.pad,.pad,.pad,.opq (.frac ((atL l k).2.1)),.pad,.pad,.pad,.pad,.opq (.frac ((atL l k).2.2)),.pad,.pad,.pad,.pad])) 3029 (.live [.opq (.frac (N.1)),.pad,.pad,.pad,.pad,.opq (.frac (N.2.1)),.pad,.pad,.pad,.pad,.opq (.frac (N.2.2)),.pad,.pad,.pad,.pad]),111⟩) (fun x=>x≤l.length∧∀ q ∈ l.take x,0≤vdt N (vsb q (atL l i))) (fun x=>l.length-x) 0 (fun _=>4000) (fun _=>Has.z) (Kept.of rfl KT.y KM.y) ⟨Nat.zero_le _,fun q hq=>by simp at hq⟩ 111 (by kernel_rfl) ?_
 rintro m ⟨hm,hall⟩
 by_cases h3:m<l.length
 case pos =>
  have g3:=getV h3
  have fq:=fVm_at hb h3
  obtain ⟨u3,hu3⟩:∃ zz,vsbq (atL l m) (atL l i)=zz:=⟨_,rfl⟩
  have fu3:=vsbq_fV fq fa
  rw [hu3] at fu3
  obtain ⟨t3,ht3⟩:∃ zz,qdt N u3=zz:=⟨_,rfl⟩
  have ft3:=qdt_fl fN fu3
  rw [ht3] at ft3
  have kt3:qdt (N.1,N.2.1,N.2.2) (u3.1,u3.2.1,u3.2.2)=t3:=ht3
  have kv3:vdt N (vsb (atL l m) (atL l i))=t3:=by rw [← ht3,← hu3,vsbq_vsb,qdt_vdt]
  have wm:=wi_add1 m (by omega)
  have B3:=(⟨bf fq (by decide),bt fu3 (by decide),ks ft3 (by decide),vsbq_c hu3,kt3⟩:_∧_∧_∧_∧_)
  by_cases z3:0≤t3
  · have c:(cmpQ t3 0<0)=False:=eq_false (by have:=cmpQ_ge.2 z3; omega)
    simp only [go_sem,cl_len,g3,B,B3,c,wm]
    refine ⟨m+1,Kept.of rfl KT.y KM.y,⟨h3,fun q hq=>?_⟩,by show l.length-(m+1)<l.length-m; omega⟩
    rw [atL_take h3] at hq
    rcases List.mem_append.1 hq with hq|hq
    · exact hall q hq
    · rw [List.mem_singleton.1 hq,kv3]; exact z3
  · have c:(cmpQ t3 0<0)=True:=eq_true (by have:=mt cmpQ_ge.1 z3; omega)
    simp only [go_sem,cl_len,g3,B,B3,c,wk]
    exact ⟨(k+1,w),Kept.of rfl KT.y KM.y,⟨h'',Jw_skip hj fun hg=>z3 (by have:=hg.2.2 _ (atL_in h3); rw [hN,kv3] at this; exact this)⟩,by show l.length-(k+1)<l.length-k; omega⟩
 have em:m=l.length:=by omega
 subst em
 rw [List.take_of_length_le (Nat.le_refl _)] at hall
 have hg:Gd (skP (dm l)) l i j k:=⟨hsk,by rw [hN]; exact z,by rw [hN]; exact hall⟩
 rcases i3w t with ⟨e,ht'⟩|⟨e,ht'⟩|⟨e,ht'⟩
 · rw [Jw_out ho e0 h h' h'' hg (kv ▸ ht')]
   simp only [go_sem,cl_len,Nat.lt_irrefl,B,e]
   exact fin_z
 · simp only [go_sem,cl_len,Nat.lt_irrefl,B,e,wk]
   exact ⟨(k+1,0),Kept.of rfl KT.y KM.y,⟨h'',Jw_zero hj h' h'' hg (kv.trans ht')⟩,by show l.length-(k+1)<l.length-k; omega⟩
 · simp only [go_sem,cl_len,Nat.lt_irrefl,B,e,wk]
   exact ⟨(k+1,w),Kept.of rfl KT.y KM.y,⟨h'',Jw_pos hj (kv ▸ ht')⟩,by show l.length-(k+1)<l.length-k; omega⟩
noncomputable def pWitS:List AV→Option (Prop × AV)
 | [x0,x1]=>(rawV x0).bind fun p=>(rawLV x1).bind fun l=>some (((2≤l.length∧l.length≤4)∧fVm 16384 l∧fV p 16384),.int .i64 (wIn p l))
 | _=>none
theorem pWitS_eq (x0 x1):pWitS [x0,x1]=(rawV x0).bind fun p=>(rawLV x1).bind fun l=>some (((2≤l.length∧l.length≤4)∧fVm 16384 l∧fV p 16384),.int .i64 (wIn p l)):=rfl
theorem pWitS_ok (hP:PrgOk P) (args p r) (he:pWitS args=some (p,r)) (hp:p):CSpec P 37 args r:=by
 unfold pWitS at he
 split at he
 · simp only [Option.bind_eq_some_iff,Option.some.injEq,Prod.mk.injEq] at he
   obtain ⟨p,hhp,l,hhl,rfl,rfl⟩:=he
   rw [rawV_inv hhp,rawLV_inv hhl]
   exact pWit_spec hP p l hp
 · simp at he
attribute [go_sem] pWitS_eq
noncomputable def Kt7:Nat→List AV→Option (Prop × AV):=addS Kt6' 37 pWitS
theorem Kt7_all (hP:PrgOk P) (T) (hT:TyOk P T):EnvOk P ⟨T,Kt7⟩:=((Kt6'_all hP T hT).add (pWitS_ok hP))
theorem Kt7_at (f a):Kt7 f a=(addS Kt6' 37 pWitS) f a:=rfl
attribute [go_sem] Kt7_at
noncomputable def btB (a p b:V3):Bool:=wIn p [a,b] != -1
theorem btB_iff (a p b:V3):btB a p b=true ↔ Btw a p b:=by unfold btB Btw; simp
theorem pBtw_spec (hP:PrgOk P) (a:V3) (p:V3) (b:V3) (hpre:fV a 16384∧fV p 16384∧fV b 16384):CSpec P 13 [(.agg [.opq (.frac (a.1)),.pad,.pad,.pad,.pad,.opq (.frac (a.2.1)),.pad,.pad,.pad,.pad,.opq (.frac (a.2.2)),.pad,.pad,.pad,.pad]),(.agg [.opq (.frac (p.1)),.pad,.pad,.pad,.pad,.opq (.frac (p.2.1)),.pad,.pad,.pad,.pad,.opq (.frac (p.2.2)),.pad,.pad,.pad,.pad]),(.agg [.opq (.frac (b.1)),.pad,.pad,.pad,.pad,.opq (.frac (b.2.1)),.pad,.pad,.pad,.pad,.opq (.frac (b.2.2)),.pad,.pad,.pad,.pad])] (.bool (btB a p b)):=by
 have HE:=Kt7_all hP TF hP.tF
 obtain ⟨ha,hp,hb⟩:=hpre
 have B:=(⟨i16 ha (by decide),i16 hp (by decide),i16 hb (by decide)⟩:_∧_∧_)
 refine CSpec_go (E:=⟨TF,Kt7⟩) (fn13 hP) HE hP.mix ?_
 simp only [go_sem,B]
 exact fin_z
noncomputable def pBtwS:List AV→Option (Prop × AV)
 | [x0,x1,x2]=>(rawV x0).bind fun a=>(rawV x1).bind fun p=>(rawV x2).bind fun b=>some ((fV a 16384∧fV p 16384∧fV b 16384),.bool (btB a p b))
 | _=>none
theorem pBtwS_eq (x0 x1 x2):pBtwS [x0,x1,x2]=(rawV x0).bind fun a=>(rawV x1).bind fun p=>(rawV x2).bind fun b=>some ((fV a 16384∧fV p 16384∧fV b 16384),.bool (btB a p b)):=rfl
theorem pBtwS_ok (hP:PrgOk P) (args p r) (he:pBtwS args=some (p,r)) (hp:p):CSpec P 13 args r:=by
 unfold pBtwS at he
 split at he
 · simp only [Option.bind_eq_some_iff,Option.some.injEq,Prod.mk.injEq] at he
   obtain ⟨a,hha,p,hhp,b,hhb,rfl,rfl⟩:=he
   rw [rawV_inv hha,rawV_inv hhp,rawV_inv hhb]
   exact pBtw_spec hP a p b hp
 · simp at he
attribute [go_sem] pBtwS_eq
theorem rBtw_spec (hP:PrgOk P) (a:V3) (p:V3) (b:V3) (hpre:fV a 16384∧fV p 524288∧fV b 16384):CSpec P 14 [(.agg [.opq (.rfrac (a.1)),.pad,.pad,.opq (.rfrac (a.2.1)),.pad,.pad,.opq (.rfrac (a.2.2)),.pad,.pad]),(.agg [.opq (.rfrac (p.1)),.pad,.pad,.opq (.rfrac (p.2.1)),.pad,.pad,.opq (.rfrac (p.2.2)),.pad,.pad]),(.agg [.opq (.rfrac (b.1)),.pad,.pad,.opq (.rfrac (b.2.1)),.pad,.pad,.opq (.rfrac (b.2.2)),.pad,.pad])] (.bool (btB a p b)):=by
 have HE:=Kt7_all hP TF hP.tF
 obtain ⟨ha,hp,hb⟩:=hpre
 have B:=(⟨i16 ha (by decide),i52 hp (by decide),i16 hb (by decide)⟩:_∧_∧_)
 refine CSpec_go (E:=⟨TF,Kt7⟩) (fn14 hP) HE hP.mix ?_
 simp only [go_sem,B]
 exact fin_z
noncomputable def rBtwS:List AV→Option (Prop × AV)
 | [x0,x1,x2]=>(rawX x0).bind fun a=>(rawX x1).bind fun p=>(rawX x2).bind fun b=>some ((fV a 16384∧fV p 524288∧fV b 16384),.bool (btB a p b))
 | _=>none
theorem rBtwS_eq (x0 x1 x2):rBtwS [x0,x1,x2]=(rawX x0).bind fun a=>(rawX x1).bind fun p=>(rawX x2).bind fun b=>some ((fV a 16384∧fV p 524288∧fV b 16384),.bool (btB a p b)):=rfl
theorem rBtwS_ok (hP:PrgOk P) (args p r) (he:rBtwS args=some (p,r)) (hp:p):CSpec P 14 args r:=by
 unfold rBtwS at he
 split at he
 · simp only [Option.bind_eq_some_iff,Option.some.injEq,Prod.mk.injEq] at he
   obtain ⟨a,hha,p,hhp,b,hhb,rfl,rfl⟩:=he
   rw [rawX_inv hha,rawX_inv hhp,rawX_inv hhb]
   exact rBtw_spec hP a p b hp
 · simp at he
attribute [go_sem] rBtwS_eq
theorem pTri_spec (hP:PrgOk P) (p:V3) (a:V3) (b:V3) (c:V3) (hpre:fV p 16384∧fV a 16384∧fV b 16384∧fV c 16384):CSpec P 15 [(.agg [.opq (.frac (p.1)),.pad,.pad,.pad,.pad,.opq (.frac (p.2.1)),.pad,.pad,.pad,.pad,.opq (.frac (p.2.2)),.pad,.pad,.pad,.pad]),(.agg [.opq (.frac (a.1)),.pad,.pad,.pad,.pad,.opq (.frac (a.2.1)),.pad,.pad,.pad,.pad,.opq (.frac (a.2.2)),.pad,.pad,.pad,.pad]),(.agg [.opq (.frac (b.1)),.pad,.pad,.pad,.pad,.opq (.frac (b.2.1)),.pad,.pad,.pad,.pad,.opq (.frac (b.2.2)),.pad,.pad,.pad,.pad]),(.agg [.opq (.frac (c.1)),.pad,.pad,.pad,.pad,.opq (.frac (c.2.1)),.pad,.pad,.pad,.pad,.opq (.frac (c.2.2)),.pad,.pad,.pad,.pad])] (.int .i64 (wIn p [a,b,c])):=by
 have HE:=Kt7_all hP TF hP.tF
 obtain ⟨hp,ha,hb,hc⟩:=hpre
 have B:=(⟨i16 ha (by decide),i16 hp (by decide),i16 hb (by decide),i16 hc (by decide)⟩:_∧_∧_∧_)
 refine CSpec_go (E:=⟨TF,Kt7⟩) (fn15 hP) HE hP.mix ?_
 simp only [go_sem,B]
 exact fin_z
noncomputable def pTriS:List AV→Option (Prop × AV)
 | [x0,x1,x2,x3]=>(rawV x0).bind fun p=>(rawV x1).bind fun a=>(rawV x2).bind fun b=>(rawV x3).bind fun c=>some ((fV p 16384∧fV a 16384∧fV b 16384∧fV c 16384),.int .i64 (wIn p [a,b,c]))
 | _=>none
theorem pTriS_eq (x0 x1 x2 x3):pTriS [x0,x1,x2,x3]=(rawV x0).bind fun p=>(rawV x1).bind fun a=>(rawV x2).bind fun b=>(rawV x3).bind fun c=>some ((fV p 16384∧fV a 16384∧fV b 16384∧fV c 16384),.int .i64 (wIn p [a,b,c])):=rfl
theorem pTriS_ok (hP:PrgOk P) (args p r) (he:pTriS args=some (p,r)) (hp:p):CSpec P 15 args r:=by
 unfold pTriS at he
 split at he
 · simp only [Option.bind_eq_some_iff,Option.some.injEq,Prod.mk.injEq] at he
   obtain ⟨p,hhp,a,hha,b,hhb,c,hhc,rfl,rfl⟩:=he
   rw [rawV_inv hhp,rawV_inv hha,rawV_inv hhb,rawV_inv hhc]
   exact pTri_spec hP p a b c hp
 · simp at he
attribute [go_sem] pTriS_eq
theorem pTet_spec (hP:PrgOk P) (p:V3) (a:V3) (b:V3) (c:V3) (d:V3) (hpre:fV p 16384∧fV a 16384∧fV b 16384∧fV c 16384∧fV d 16384):CSpec P 17 [(.agg [.opq (.frac (p.1)),.pad,.pad,.pad,.pad,.opq (.frac (p.2.1)),.pad,.pad,.pad,.pad,.opq (.frac (p.2.2)),.pad,.pad,.pad,.pad]),(.agg [.opq (.frac (a.1)),.pad,.pad,.pad,.pad,.opq (.frac (a.2.1)),.pad,.pad,.pad,.pad,.opq (.frac (a.2.2)),.pad,.pad,.pad,.pad]),(.agg [.opq (.frac (b.1)),.pad,.pad,.pad,.pad,.opq (.frac (b.2.1)),.pad,.pad,.pad,.pad,.opq (.frac (b.2.2)),.pad,.pad,.pad,.pad]),(.agg [.opq (.frac (c.1)),.pad,.pad,.pad,.pad,.opq (.frac (c.2.1)),.pad,.pad,.pad,.pad,.opq (.frac (c.2.2)),.pad,.pad,.pad,.pad]),(.agg [.opq (.frac (d.1)),.pad,.pad,.pad,.pad,.opq (.frac (d.2.1)),.pad,.pad,.pad,.pad,.opq (.frac (d.2.2)),.pad,.pad,.pad,.pad])] (.int .i64 (wIn p [a,b,c,d])):=by
 have HE:=Kt7_all hP TF hP.tF
 obtain ⟨hp,ha,hb,hc,hd⟩:=hpre
 have B:=(⟨i16 ha (by decide),i16 hp (by decide),i16 hb (by decide),i16 hc (by decide),i16 hd (by decide)⟩:_∧_∧_∧_∧_)
 refine CSpec_go (E:=⟨TF,Kt7⟩) (fn17 hP) HE hP.mix ?_
 simp only [go_sem,B]
 exact fin_z
noncomputable def pTetS:List AV→Option (Prop × AV)
 | [x0,x1,x2,x3,x4]=>(rawV x0).bind fun p=>(rawV x1).bind fun a=>(rawV x2).bind fun b=>(rawV x3).bind fun c=>(rawV x4).bind fun d=>some ((fV p 16384∧fV a 16384∧fV b 16384∧fV c 16384∧fV d 16384),.int .i64 (wIn p [a,b,c,d]))
 | _=>none
theorem pTetS_eq (x0 x1 x2 x3 x4):pTetS [x0,x1,x2,x3,x4]=(rawV x0).bind fun p=>(rawV x1).bind fun a=>(rawV x2).bind fun b=>(rawV x3).bind fun c=>(rawV x4).bind fun d=>some ((fV p 16384∧fV a 16384∧fV b 16384∧fV c 16384∧fV d 16384),.int .i64 (wIn p [a,b,c,d])):=rfl
theorem pTetS_ok (hP:PrgOk P) (args p r) (he:pTetS args=some (p,r)) (hp:p):CSpec P 17 args r:=by
 unfold pTetS at he
 split at he
 · simp only [Option.bind_eq_some_iff,Option.some.injEq,Prod.mk.injEq] at he
   obtain ⟨p,hhp,a,hha,b,hhb,c,hhc,d,hhd,rfl,rfl⟩:=he
   rw [rawV_inv hhp,rawV_inv hha,rawV_inv hhb,rawV_inv hhc,rawV_inv hhd]
   exact pTet_spec hP p a b c d hp
 · simp at he
attribute [go_sem] pTetS_eq
noncomputable def Kt8:Nat→List AV→Option (Prop × AV):=addS (addS (addS (addS Kt7 13 pBtwS) 14 rBtwS) 15 pTriS) 17 pTetS
theorem Kt8_all (hP:PrgOk P) (T) (hT:TyOk P T):EnvOk P ⟨T,Kt8⟩:=(((((Kt7_all hP T hT).add (pBtwS_ok hP)).add (rBtwS_ok hP)).add (pTriS_ok hP)).add (pTetS_ok hP))
theorem Kt8_at (f a):Kt8 f a=(addS (addS (addS (addS Kt7 13 pBtwS) 14 rBtwS) 15 pTriS) 17 pTetS) f a:=rfl
attribute [go_sem] Kt8_at
noncomputable def prB (x n:V3) (k:Rat):Bool:=decide (0≤cmpQ (vdt x n) 0) && decide (cmpQ (vdt x n) k≤0)
theorem prB_iff (x n:V3):prB x n (vdt n n)=true ↔ prt x n:=by
 unfold prB prt; rw [Bool.and_eq_true,decide_eq_true_eq,decide_eq_true_eq,cmpQ_le,cmpQ_ge]
theorem pPrt_spec (hP:PrgOk P) (x n:V3) (k:Rat) (hpre:fV x 65536∧fV n 65536∧fl k≤FB):CSpec P 72 [(.agg [.opq (.frac (x.1)),.pad,.pad,.pad,.pad,.opq (.frac (x.2.1)),.pad,.pad,.pad,.pad,.opq (.frac (x.2.2)),.pad,.pad,.pad,.pad]),.fref [.opq (.frac (n.1)),.pad,.pad,.pad,.pad,.opq (.frac (n.2.1)),.pad,.pad,.pad,.pad,.opq (.frac (n.2.2)),.pad,.pad,.pad,.pad],.fref [.opq (.frac (k)),.pad,.pad,.pad,.pad]] (.bool (prB x n k)):=by
 have HE:=Kt8_all hP TF hP.tF
 obtain ⟨hx,hn,hk⟩:=hpre
 obtain ⟨t,ht⟩:∃ zz,qdt x n=zz:=⟨_,rfl⟩
 have ft:=qdt_fl hx hn
 rw [ht] at ft
 have kt:qdt (x.1,x.2.1,x.2.2) (n.1,n.2.1,n.2.2)=t:=ht
 have B:=(⟨bt hx (by decide),bt hn (by decide),hk,ks ft (by decide)⟩:_∧_∧_∧_)
 unfold prB
 rw [← qdt_vdt,ht]
 refine CSpec_go (E:=⟨TF,Kt8⟩) (fn72 hP) HE hP.mix ?_
 by_cases h:0≤cmpQ t 0
 · rw [decide_eq_true h]
   simp only [go_sem,B,kt,h,ge_iff_le,Bool.true_and]
   exact fin_z
 · rw [decide_eq_false h]
   simp only [go_sem,B,kt,h,ge_iff_le,Bool.false_and]
   exact fin_z
noncomputable def pPrtS:List AV→Option (Prop × AV)
 | [x,.fref y,.fref [.opq (.frac (k)),.pad,.pad,.pad,.pad]]=>(rawV x).bind fun a=>(cells3 y).bind fun n=>some (fV a 65536∧fV n 65536∧fl k≤FB,.bool (prB a n k))
 | _=>none
theorem pPrtS_eq (x y k):pPrtS [x,.fref y,.fref [.opq (.frac (k)),.pad,.pad,.pad,.pad]]=(rawV x).bind fun a=>(cells3 y).bind fun n=>some (fV a 65536∧fV n 65536∧fl k≤FB,.bool (prB a n k)):=rfl
theorem pPrtS_ok (hP:PrgOk P) (args p r) (he:pPrtS args=some (p,r)) (hp:p):CSpec P 72 args r:=by
 unfold pPrtS at he
 split at he
 · simp only [Option.bind_eq_some_iff,Option.some.injEq,Prod.mk.injEq] at he
   obtain ⟨a,h1,n,h2,rfl,rfl⟩:=he
   rw [rawV_inv h1,cells3_inv h2]
   exact pPrt_spec hP a n _ hp
 · simp at he
attribute [go_sem] pPrtS_eq
open Classical in
noncomputable def crB (a b c d:V3):Bool:=decide (CrE a b c d)
open Classical in
theorem crB_iff (a b c d:V3):crB a b c d=true ↔ CrE a b c d:=by unfold crB; exact decide_eq_true_iff
theorem crB_1 {a b c d:V3} (h:Btw a c b∨Btw a d b∨Btw c a d∨Btw c b d):crB a b c d=true:=by
 rw [crB_iff]; unfold CrE
 rcases h with h|h|h|h
 · exact .inl h
 · exact .inr (.inl h)
 · exact .inr (.inr (.inl h))
 · exact .inr (.inr (.inr (.inl h)))
theorem crB_2 {a b c d:V3} (h1:¬ Btw a c b) (h2:¬ Btw a d b) (h3:¬ Btw c a d) (h4:¬ Btw c b d):crB a b c d=true ↔ (crN a b c d ≠ v0∧vdt (vsb c a) (crN a b c d)=0∧prt (vcr (vsb c a) (vsb d c)) (crN a b c d)∧prt (vcr (vsb c a) (vsb b a)) (crN a b c d)):=by
 rw [crB_iff]; unfold CrE
 simp only [h1,h2,h3,h4,false_or]
theorem btF {a p b:V3} (h:btB a p b=false):¬ Btw a p b:=fun k=>by rw [(btB_iff ..).2 k] at h; cases h
theorem pCrs_spec (hP:PrgOk P) (a:V3) (b:V3) (c:V3) (d:V3) (hpre:fV a 4096∧fV b 4096∧fV c 4096∧fV d 4096):CSpec P 32 [(.agg [.opq (.frac (a.1)),.pad,.pad,.pad,.pad,.opq (.frac (a.2.1)),.pad,.pad,.pad,.pad,.opq (.frac (a.2.2)),.pad,.pad,.pad,.pad]),(.agg [.opq (.frac (b.1)),.pad,.pad,.pad,.pad,.opq (.frac (b.2.1)),.pad,.pad,.pad,.pad,.opq (.frac (b.2.2)),.pad,.pad,.pad,.pad]),(.agg [.opq (.frac (c.1)),.pad,.pad,.pad,.pad,.opq (.frac (c.2.1)),.pad,.pad,.pad,.pad,.opq (.frac (c.2.2)),.pad,.pad,.pad,.pad]),(.agg [.opq (.frac (d.1)),.pad,.pad,.pad,.pad,.opq (.frac (d.2.1)),.pad,.pad,.pad,.pad,.opq (.frac (d.2.2)),.pad,.pad,.pad,.pad])] (.bool (crB a b c d)):=by
 have HE:=EnvOk.add (Kt8_all hP TF hP.tF) (pPrtS_ok hP)
 obtain ⟨ha,hb,hc,hd⟩:=hpre
 have B:=(⟨i16 ha (by decide),i16 hb (by decide),i16 hc (by decide),i16 hd (by decide),i52 ha (by decide),i52 hb (by decide),i52 hc (by decide),i52 hd (by decide),bf ha (by decide),bf hb (by decide),bf hc (by decide),bf hd (by decide)⟩:_∧_∧_∧_∧_∧_∧_∧_∧_∧_∧_∧_)
 obtain ⟨q1,e1⟩:∃ q,btB a c b=q:=⟨_,rfl⟩
 obtain ⟨q2,e2⟩:∃ q,btB a d b=q:=⟨_,rfl⟩
 obtain ⟨q3,e3⟩:∃ q,btB c a d=q:=⟨_,rfl⟩
 obtain ⟨q4,e4⟩:∃ q,btB c b d=q:=⟨_,rfl⟩
 have k1:btB (a.1,a.2.1,a.2.2) (c.1,c.2.1,c.2.2) (b.1,b.2.1,b.2.2)=q1:=e1
 have k2:btB (a.1,a.2.1,a.2.2) (d.1,d.2.1,d.2.2) (b.1,b.2.1,b.2.2)=q2:=e2
 have k3:btB (c.1,c.2.1,c.2.2) (a.1,a.2.1,a.2.2) (d.1,d.2.1,d.2.2)=q3:=e3
 have k4:btB (c.1,c.2.1,c.2.2) (b.1,b.2.1,b.2.2) (d.1,d.2.1,d.2.2)=q4:=e4
 refine CSpec_go (E:=⟨TF,(addS Kt8 72 pPrtS)⟩) (fn32 hP) HE hP.mix ?_
 cases q1
 case true =>
  rw [crB_1 (.inl ((btB_iff ..).1 e1))]
  simp only [go_sem,B,k1]
  exact fin_z
 cases q2
 case true =>
  rw [crB_1 (.inr (.inl ((btB_iff ..).1 e2)))]
  simp only [go_sem,B,k1,k2]
  exact fin_z
 cases q3
 case true =>
  rw [crB_1 (.inr (.inr (.inl ((btB_iff ..).1 e3))))]
  simp only [go_sem,B,k1,k2,k3]
  exact fin_z
 cases q4
 case true =>
  rw [crB_1 (.inr (.inr (.inr ((btB_iff ..).1 e4))))]
  simp only [go_sem,B,k1,k2,k3,k4]
  exact fin_z
 have key:=crB_2 (btF e1) (btF e2) (btF e3) (btF e4)
 rw [← vsbq_vsb c a,← vsbq_vsb d c,← vsbq_vsb b a,show crN a b c d=vcq (vsbq b a) (vsbq d c) by unfold crN; rw [vcq_vcr,vsbq_vsb,vsbq_vsb],← vcq_vcr,← vcq_vcr,← qdt_vdt] at key
 obtain ⟨u,hu⟩:∃ zz,vsbq b a=zz:=⟨_,rfl⟩
 have fu:=vsbq_fV hb ha
 rw [hu] at fu
 obtain ⟨v,hv⟩:∃ zz,vsbq d c=zz:=⟨_,rfl⟩
 have fv:=vsbq_fV hd hc
 rw [hv] at fv
 obtain ⟨w,hw⟩:∃ zz,vsbq c a=zz:=⟨_,rfl⟩
 have fw:=vsbq_fV hc ha
 rw [hw] at fw
 rw [hu,hv,hw] at key
 obtain ⟨n,hn⟩:∃ zz,vcq u v=zz:=⟨_,rfl⟩
 have fn:=vcq_fV fu fv
 rw [hn] at fn
 rw [hn] at key
 obtain ⟨t,ht⟩:∃ zz,qdt w n=zz:=⟨_,rfl⟩
 have ft:=qdt_fl fw fn
 rw [ht] at ft
 rw [ht] at key
 obtain ⟨x,hx⟩:∃ zz,vcq w v=zz:=⟨_,rfl⟩
 have fx:=vcq_fV fw fv
 rw [hx] at fx
 obtain ⟨y,hy⟩:∃ zz,vcq w u=zz:=⟨_,rfl⟩
 have fy:=vcq_fV fw fu
 rw [hy] at fy
 rw [hx,hy] at key
 have kt:qdt (w.1,w.2.1,w.2.2) (n.1,n.2.1,n.2.2)=t:=ht
 have kz:decide (((n.1,n.2.1,n.2.2):V3)=v0)=decide (n=v0):=rfl
 have C:=(⟨bt fu (by decide),bt fv (by decide),bt fw (by decide),bt fn (by decide),bt fx (by decide),bt fy (by decide),ks ft (by decide),b16 fn (by decide),b16 fx (by decide),b16 fy (by decide),bx fu (by decide),bx fv (by decide),bx fw (by decide)⟩:_∧_∧_∧_∧_∧_∧_∧_∧_∧_∧_∧_∧_)
 have S:=(⟨vsbq_c hu,vsbq_c hv,vsbq_c hw,vcq_c hn,vcq_c hx,vcq_c hy,kt,kz⟩:_∧_∧_∧_∧_∧_∧_∧_)
 by_cases z:n=v0
 · have kr:crB a b c d=false:=by rw [Bool.eq_false_iff]; exact fun h=>(key.1 h).1 z
   rw [kr]
   simp only [go_sem,B,C,S,k1,k2,k3,k4,decide_eq_true z]
   exact fin_z
 by_cases o:t=0
 case neg =>
  have kr:crB a b c d=false:=by rw [Bool.eq_false_iff]; exact fun h=>o (key.1 h).2.1
  have ko:(cmpQ t 0 == 0)=false:=by rw [cmpQ_z]; exact decide_eq_false o
  rw [kr]
  simp only [go_sem,B,C,S,k1,k2,k3,k4,decide_eq_false z,bne,ko]
  exact fin_z
 have ko:(cmpQ t 0 == 0)=true:=by rw [cmpQ_z]; exact decide_eq_true o
 obtain ⟨m,hm⟩:∃ zz,qdt n n=zz:=⟨_,rfl⟩
 have fm:=qdt_fl fn fn
 rw [hm] at fm
 have hm':vdt n n=m:=by rw [← qdt_vdt,hm]
 have kn:qdt (n.1,n.2.1,n.2.2) (n.1,n.2.1,n.2.2)=m:=hm
 obtain ⟨r1,d1⟩:∃ r,prB x n m=r:=⟨_,rfl⟩
 obtain ⟨r2,d2⟩:∃ r,prB y n m=r:=⟨_,rfl⟩
 have kr:crB a b c d=(r1 && r2):=by
  rw [Bool.eq_iff_iff,key,← prB_iff,← prB_iff,hm',d1,d2,Bool.and_eq_true]
  exact ⟨fun h=>h.2.2,fun h=>⟨z,o,h⟩⟩
 have j1:prB (x.1,x.2.1,x.2.2) (n.1,n.2.1,n.2.2) m=r1:=d1
 have j2:prB (y.1,y.2.1,y.2.2) (n.1,n.2.1,n.2.2) m=r2:=d2
 have fm':fl m≤FB:=Nat.le_trans fm (by decide)
 rw [kr]
 cases r1
 · simp only [go_sem,B,C,S,k1,k2,k3,k4,decide_eq_false z,bne,ko,kn,fm',j1]
   exact fin_z
 · simp only [go_sem,B,C,S,k1,k2,k3,k4,decide_eq_false z,bne,ko,kn,fm',j1,j2,Bool.true_and]
   exact fin_z
noncomputable def pCrsS:List AV→Option (Prop × AV)
 | [x0,x1,x2,x3]=>(rawV x0).bind fun a=>(rawV x1).bind fun b=>(rawV x2).bind fun c=>(rawV x3).bind fun d=>some ((fV a 4096∧fV b 4096∧fV c 4096∧fV d 4096),.bool (crB a b c d))
 | _=>none
theorem pCrsS_eq (x0 x1 x2 x3):pCrsS [x0,x1,x2,x3]=(rawV x0).bind fun a=>(rawV x1).bind fun b=>(rawV x2).bind fun c=>(rawV x3).bind fun d=>some ((fV a 4096∧fV b 4096∧fV c 4096∧fV d 4096),.bool (crB a b c d)):=rfl
theorem pCrsS_ok (hP:PrgOk P) (args p r) (he:pCrsS args=some (p,r)) (hp:p):CSpec P 32 args r:=by
 unfold pCrsS at he
 split at he
 · simp only [Option.bind_eq_some_iff,Option.some.injEq,Prod.mk.injEq] at he
   obtain ⟨a,hha,b,hhb,c,hhc,d,hhd,rfl,rfl⟩:=he
   rw [rawV_inv hha,rawV_inv hhb,rawV_inv hhc,rawV_inv hhd]
   exact pCrs_spec hP a b c d hp
 · simp at he
attribute [go_sem] pCrsS_eq
theorem rCrs_spec (hP:PrgOk P) (a:V3) (b:V3) (c:V3) (d:V3) (hpre:fV a 4096∧fV b 4096∧fV c 4096∧fV d 4096):CSpec P 33 [(.agg [.opq (.rfrac (a.1)),.pad,.pad,.opq (.rfrac (a.2.1)),.pad,.pad,.opq (.rfrac (a.2.2)),.pad,.pad]),(.agg [.opq (.rfrac (b.1)),.pad,.pad,.opq (.rfrac (b.2.1)),.pad,.pad,.opq (.rfrac (b.2.2)),.pad,.pad]),(.agg [.opq (.rfrac (c.1)),.pad,.pad,.opq (.rfrac (c.2.1)),.pad,.pad,.opq (.rfrac (c.2.2)),.pad,.pad]),(.agg [.opq (.rfrac (d.1)),.pad,.pad,.opq (.rfrac (d.2.1)),.pad,.pad,.opq (.rfrac (d.2.2)),.pad,.pad])] (.bool (crB a b c d)):=by
 have HE:=Kt8_all hP TF hP.tF
 obtain ⟨ha,hb,hc,hd⟩:=hpre
 have B:=(⟨i16 ha (by decide),i16 hb (by decide),i16 hc (by decide),i16 hd (by decide),i52 ha (by decide),i52 hb (by decide),i52 hc (by decide),i52 hd (by decide),bf ha (by decide),bf hb (by decide),bf hc (by decide),bf hd (by decide)⟩:_∧_∧_∧_∧_∧_∧_∧_∧_∧_∧_∧_)
 obtain ⟨q1,e1⟩:∃ q,btB a c b=q:=⟨_,rfl⟩
 obtain ⟨q2,e2⟩:∃ q,btB a d b=q:=⟨_,rfl⟩
 obtain ⟨q3,e3⟩:∃ q,btB c a d=q:=⟨_,rfl⟩
 obtain ⟨q4,e4⟩:∃ q,btB c b d=q:=⟨_,rfl⟩
 have k1:btB (a.1,a.2.1,a.2.2) (c.1,c.2.1,c.2.2) (b.1,b.2.1,b.2.2)=q1:=e1
 have k2:btB (a.1,a.2.1,a.2.2) (d.1,d.2.1,d.2.2) (b.1,b.2.1,b.2.2)=q2:=e2
 have k3:btB (c.1,c.2.1,c.2.2) (a.1,a.2.1,a.2.2) (d.1,d.2.1,d.2.2)=q3:=e3
 have k4:btB (c.1,c.2.1,c.2.2) (b.1,b.2.1,b.2.2) (d.1,d.2.1,d.2.2)=q4:=e4
 refine CSpec_go (E:=⟨TF,Kt8⟩) (fn33 hP) HE hP.mix ?_
 cases q1
 case true =>
  rw [crB_1 (.inl ((btB_iff ..).1 e1))]
  simp only [go_sem,B,k1]
  exact fin_z
 cases q2
 case true =>
  rw [crB_1 (.inr (.inl ((btB_iff ..).1 e2)))]
  simp only [go_sem,B,k1,k2]
  exact fin_z
 cases q3
 case true =>
  rw [crB_1 (.inr (.inr (.inl ((btB_iff ..).1 e3))))]
  simp only [go_sem,B,k1,k2,k3]
  exact fin_z
 cases q4
 case true =>
  rw [crB_1 (.inr (.inr (.inr ((btB_iff ..).1 e4))))]
  simp only [go_sem,B,k1,k2,k3,k4]
  exact fin_z
 have key:=crB_2 (btF e1) (btF e2) (btF e3) (btF e4)
 rw [← vsbq_vsb c a,← vsbq_vsb d c,← vsbq_vsb b a,show crN a b c d=vcq (vsbq b a) (vsbq d c) by unfold crN; rw [vcq_vcr,vsbq_vsb,vsbq_vsb],← vcq_vcr,← vcq_vcr,← qdt_vdt] at key
 obtain ⟨u,hu⟩:∃ zz,vsbq b a=zz:=⟨_,rfl⟩
 have fu:=vsbq_fV hb ha
 rw [hu] at fu
 obtain ⟨v,hv⟩:∃ zz,vsbq d c=zz:=⟨_,rfl⟩
 have fv:=vsbq_fV hd hc
 rw [hv] at fv
 obtain ⟨w,hw⟩:∃ zz,vsbq c a=zz:=⟨_,rfl⟩
 have fw:=vsbq_fV hc ha
 rw [hw] at fw
 rw [hu,hv,hw] at key
 obtain ⟨n,hn⟩:∃ zz,vcq u v=zz:=⟨_,rfl⟩
 have fn:=vcq_fV fu fv
 rw [hn] at fn
 rw [hn] at key
 obtain ⟨t,ht⟩:∃ zz,qdt w n=zz:=⟨_,rfl⟩
 have ft:=qdt_fl fw fn
 rw [ht] at ft
 rw [ht] at key
 obtain ⟨x,hx⟩:∃ zz,vcq w v=zz:=⟨_,rfl⟩
 have fx:=vcq_fV fw fv
 rw [hx] at fx
 obtain ⟨y,hy⟩:∃ zz,vcq w u=zz:=⟨_,rfl⟩
 have fy:=vcq_fV fw fu
 rw [hy] at fy
 rw [hx,hy] at key
 have kt:qdt (w.1,w.2.1,w.2.2) (n.1,n.2.1,n.2.2)=t:=ht
 have kz:decide (((n.1,n.2.1,n.2.2):V3)=v0)=decide (n=v0):=rfl
 have C:=(⟨bt fu (by decide),bt fv (by decide),bt fw (by decide),bt fn (by decide),bt fx (by decide),bt fy (by decide),ks ft (by decide),b16 fn (by decide),b16 fx (by decide),b16 fy (by decide),bx fu (by decide),bx fv (by decide),bx fw (by decide)⟩:_∧_∧_∧_∧_∧_∧_∧_∧_∧_∧_∧_∧_)
 have S:=(⟨vsbq_c hu,vsbq_c hv,vsbq_c hw,vcq_c hn,vcq_c hx,vcq_c hy,kt,kz⟩:_∧_∧_∧_∧_∧_∧_∧_)
 by_cases z:n=v0
 · have kr:crB a b c d=false:=by rw [Bool.eq_false_iff]; exact fun h=>(key.1 h).1 z
   rw [kr]
   simp only [go_sem,B,C,S,k1,k2,k3,k4,decide_eq_true z]
   exact fin_z
 by_cases o:t=0
 case neg =>
  have kr:crB a b c d=false:=by rw [Bool.eq_false_iff]; exact fun h=>o (key.1 h).2.1
  have ko:(cmpQ t 0 == 0)=false:=by rw [cmpQ_z]; exact decide_eq_false o
  rw [kr]
  simp only [go_sem,B,C,S,k1,k2,k3,k4,decide_eq_false z,bne,ko]
  exact fin_z
 have ko:(cmpQ t 0 == 0)=true:=by rw [cmpQ_z]; exact decide_eq_true o
 obtain ⟨m,hm⟩:∃ zz,qdt n n=zz:=⟨_,rfl⟩
 have fm:=qdt_fl fn fn
 rw [hm] at fm
 obtain ⟨r,hr⟩:∃ zz,qdt x n=zz:=⟨_,rfl⟩
 have fr:=qdt_fl fx fn
 rw [hr] at fr
 have m0:(m=0)=False:=eq_false (by rw [← hm,qdt_vdt]; exact dt_self z)
 have m0':m ≠ 0:=by rw [← hm,qdt_vdt]; exact dt_self z
 obtain ⟨s,hs⟩:∃ zz,qdiv r m=zz:=⟨_,rfl⟩
 have fs:=fl_qdiv fr fm
 rw [hs] at fs
 obtain ⟨g,hg⟩:∃ zz,vscq s u=zz:=⟨_,rfl⟩
 have fg:=vscq_fV fs fu
 rw [hg] at fg
 obtain ⟨e,he⟩:∃ zz,vadq a g=zz:=⟨_,rfl⟩
 have fe:=vadq_fV ha fg
 rw [he] at fe
 have kn:qdt (n.1,n.2.1,n.2.2) (n.1,n.2.1,n.2.2)=m∧qdt (x.1,x.2.1,x.2.2) (n.1,n.2.1,n.2.2)=r:=⟨hm,hr⟩
 obtain ⟨r1,d1⟩:∃ r,btB a e b=r:=⟨_,rfl⟩
 obtain ⟨r2,d2⟩:∃ r,btB c e d=r:=⟨_,rfl⟩
 have kr:crB a b c d=(r1 && r2):=by
  have hk:=crD_eq a b c d
  unfold CrD at hk
  rw [← vsbq_vsb c a,← vsbq_vsb d c,← vsbq_vsb b a,show crN a b c d=vcq (vsbq b a) (vsbq d c) by unfold crN; rw [vcq_vcr,vsbq_vsb,vsbq_vsb],← vcq_vcr,hu,hv,hw,hn,hx,← qdt_vdt,← qdt_vdt,← qdt_vdt,hr,hm,← qdiv_eq,hs,← vscq_vsc,hg,← vadq_vad,he] at hk
  rw [Bool.eq_iff_iff,crB_iff,← hk,ht,Bool.and_eq_true,← d1,← d2,btB_iff,btB_iff]
  simp only [btF e1,btF e2,btF e3,btF e4,false_or]
  exact ⟨fun h=>h.2.2,fun h=>⟨z,o,h⟩⟩
 have j1:btB (a.1,a.2.1,a.2.2) (e.1,e.2.1,e.2.2) (b.1,b.2.1,b.2.2)=r1:=d1
 have j2:btB (c.1,c.2.1,c.2.2) (e.1,e.2.1,e.2.2) (d.1,d.2.1,d.2.2)=r2:=d2
 have D:=(⟨Nat.le_trans fm (show _≤FB by decide),Nat.le_trans fr (show _≤FB by decide),Nat.le_trans fs (show _≤FB by decide),bf fg (by decide),i52 fe (by decide),m0,m0',vscq_c hg,vadq_c he,hs⟩:_∧_∧_∧_∧_∧_∧_∧_∧_∧_)
 rw [kr]
 cases r1
 · simp only [go_sem,B,C,S,D,k1,k2,k3,k4,decide_eq_false z,bne,ko,kn,j1]
   exact fin_z
 · simp only [go_sem,B,C,S,D,k1,k2,k3,k4,decide_eq_false z,bne,ko,kn,j1,j2,Bool.true_and]
   exact fin_z
noncomputable def rCrsS:List AV→Option (Prop × AV)
 | [x0,x1,x2,x3]=>(rawX x0).bind fun a=>(rawX x1).bind fun b=>(rawX x2).bind fun c=>(rawX x3).bind fun d=>some ((fV a 4096∧fV b 4096∧fV c 4096∧fV d 4096),.bool (crB a b c d))
 | _=>none
theorem rCrsS_eq (x0 x1 x2 x3):rCrsS [x0,x1,x2,x3]=(rawX x0).bind fun a=>(rawX x1).bind fun b=>(rawX x2).bind fun c=>(rawX x3).bind fun d=>some ((fV a 4096∧fV b 4096∧fV c 4096∧fV d 4096),.bool (crB a b c d)):=rfl
theorem rCrsS_ok (hP:PrgOk P) (args p r) (he:rCrsS args=some (p,r)) (hp:p):CSpec P 33 args r:=by
 unfold rCrsS at he
 split at he
 · simp only [Option.bind_eq_some_iff,Option.some.injEq,Prod.mk.injEq] at he
   obtain ⟨a,hha,b,hhb,c,hhc,d,hhd,rfl,rfl⟩:=he
   rw [rawX_inv hha,rawX_inv hhb,rawX_inv hhc,rawX_inv hhd]
   exact rCrs_spec hP a b c d hp
 · simp at he
attribute [go_sem] rCrsS_eq
noncomputable def Kt9:Nat→List AV→Option (Prop × AV):=addS (addS Kt8 32 pCrsS) 33 rCrsS
theorem Kt9_all (hP:PrgOk P) (T) (hT:TyOk P T):EnvOk P ⟨T,Kt9⟩:=(((Kt8_all hP T hT).add (pCrsS_ok hP)).add (rCrsS_ok hP))
theorem Kt9_at (f a):Kt9 f a=(addS (addS Kt8 32 pCrsS) 33 rCrsS) f a:=rfl
attribute [go_sem] Kt9_at
end Go.Proofs.YtapddfjimhohcaaGreatDoor.AM
/- The laws of lines: makes,meets,lines. -/
namespace Go.Proofs.YtapddfjimhohcaaGreatDoor.AM
set_option linter.all false
set_option autoImplicit true
set_option relaxedAutoImplicit true
open Go Go.Proofs
set_option maxRecDepth 100000
set_option maxHeartbeats 8000000
set_option linter.unusedSimpArgs false
variable {P:Program}
end Go.Proofs.YtapddfjimhohcaaGreatDoor.AM
/- The laws of sides: five points. -/
namespace Go.Proofs.YtapddfjimhohcaaGreatDoor.AM
set_option linter.all false
set_option autoImplicit true
set_option relaxedAutoImplicit true
open Go Go.Proofs
set_option maxRecDepth 100000
set_option maxHeartbeats 16000000
set_option linter.unusedSimpArgs false
variable {P:Program}
def gp:Bool→V3→V3
 | true,v=>v
 | false,_=>v0
theorem gp_fV {b:Bool} {v:V3} (h:fV v 1024):fV (gp b v) 1024:=by cases b; exact fV_v0 1023; exact h
theorem fifteen {L:List ByteArray} (h:L.length=15) (hs:∀ s ∈ L,s.size≤maxS):∃ s0 s1 s2 s3 s4 s5 s6 s7 s8 s9 s10 s11 s12 s13 s14,L=[s0,s1,s2,s3,s4,s5,s6,s7,s8,s9,s10,s11,s12,s13,s14]∧(bl s0).length≤140737488355328∧(bl s1).length≤140737488355328∧(bl s2).length≤140737488355328∧(bl s3).length≤140737488355328∧(bl s4).length≤140737488355328∧(bl s5).length≤140737488355328∧(bl s6).length≤140737488355328∧(bl s7).length≤140737488355328∧(bl s8).length≤140737488355328∧(bl s9).length≤140737488355328∧(bl s10).length≤140737488355328∧(bl s11).length≤140737488355328∧(bl s12).length≤140737488355328∧(bl s13).length≤140737488355328∧(bl s14).length≤140737488355328:=by
 match L,h,hs with
 | [s0,s1,s2,s3,s4,s5,s6,s7,s8,s9,s10,s11,s12,s13,s14],_,hs=>exact ⟨s0,s1,s2,s3,s4,s5,s6,s7,s8,s9,s10,s11,s12,s13,s14,rfl,len_s (hs _ (by simp)),len_s (hs _ (by simp)),len_s (hs _ (by simp)),len_s (hs _ (by simp)),len_s (hs _ (by simp)),len_s (hs _ (by simp)),len_s (hs _ (by simp)),len_s (hs _ (by simp)),len_s (hs _ (by simp)),len_s (hs _ (by simp)),len_s (hs _ (by simp)),len_s (hs _ (by simp)),len_s (hs _ (by simp)),len_s (hs _ (by simp)),len_s (hs _ (by simp))⟩
noncomputable def pt0 (s0 s1 s2:ByteArray):V3:=gp (okM s0 s1 s2) (ptV s0 s1 s2)
noncomputable def pt1 (s0 s1 s2 s3 s4 s5:ByteArray):V3:=gp (okM s0 s1 s2 && okM s3 s4 s5) (ptV s3 s4 s5)
noncomputable def pt2 (s0 s1 s2 s3 s4 s5 s6 s7 s8:ByteArray):V3:=gp ((okM s0 s1 s2 && okM s3 s4 s5) && okM s6 s7 s8) (ptV s6 s7 s8)
noncomputable def pt3 (s0 s1 s2 s3 s4 s5 s6 s7 s8 s9 s10 s11:ByteArray):V3:=gp (((okM s0 s1 s2 && okM s3 s4 s5) && okM s6 s7 s8) && okM s9 s10 s11) (ptV s9 s10 s11)
noncomputable def pt4 (s0 s1 s2 s3 s4 s5 s6 s7 s8 s9 s10 s11 s12 s13 s14:ByteArray):V3:=gp ((((okM s0 s1 s2 && okM s3 s4 s5) && okM s6 s7 s8) && okM s9 s10 s11) && okM s12 s13 s14) (ptV s12 s13 s14)
noncomputable def ok5 (s0 s1 s2 s3 s4 s5 s6 s7 s8 s9 s10 s11 s12 s13 s14:ByteArray):Bool:=((((okM s0 s1 s2 && okM s3 s4 s5) && okM s6 s7 s8) && okM s9 s10 s11) && okM s12 s13 s14)
theorem pt0_fV (s0 s1 s2):fV (pt0 s0 s1 s2) 1024:=gp_fV (ptV_fl _ _ _)
theorem pt1_fV (s0 s1 s2 s3 s4 s5):fV (pt1 s0 s1 s2 s3 s4 s5) 1024:=gp_fV (ptV_fl _ _ _)
theorem pt2_fV (s0 s1 s2 s3 s4 s5 s6 s7 s8):fV (pt2 s0 s1 s2 s3 s4 s5 s6 s7 s8) 1024:=gp_fV (ptV_fl _ _ _)
theorem pt3_fV (s0 s1 s2 s3 s4 s5 s6 s7 s8 s9 s10 s11):fV (pt3 s0 s1 s2 s3 s4 s5 s6 s7 s8 s9 s10 s11) 1024:=gp_fV (ptV_fl _ _ _)
theorem pt4_fV (s0 s1 s2 s3 s4 s5 s6 s7 s8 s9 s10 s11 s12 s13 s14):fV (pt4 s0 s1 s2 s3 s4 s5 s6 s7 s8 s9 s10 s11 s12 s13 s14) 1024:=gp_fV (ptV_fl _ _ _)
def dcj:Bool→V3→List AV
 | true,v=>[.opq (.rfrac (v.1)),.pad,.pad,.opq (.rfrac (v.2.1)),.pad,.pad,.opq (.rfrac (v.2.2)),.pad,.pad]
 | false,_=>[.bool false,.nils,.nils,.bool false,.nils,.nils,.bool false,.nils,.nils]
theorem dcj_ok (b:Bool) (v:V3):(dcj b v).length=9∧(dcj b v).all AV.ck=true:=by cases b<;>exact ⟨rfl,rfl⟩
noncomputable def dc5 (s0 s1 s2 s3 s4 s5 s6 s7 s8 s9 s10 s11 s12 s13 s14:ByteArray):List AV:=dcj (okM s0 s1 s2) (ptV s0 s1 s2)++(dcj (okM s0 s1 s2 && okM s3 s4 s5) (ptV s3 s4 s5)++(dcj ((okM s0 s1 s2 && okM s3 s4 s5) && okM s6 s7 s8) (ptV s6 s7 s8)++(dcj (((okM s0 s1 s2 && okM s3 s4 s5) && okM s6 s7 s8) && okM s9 s10 s11) (ptV s9 s10 s11)++(dcj ((((okM s0 s1 s2 && okM s3 s4 s5) && okM s6 s7 s8) && okM s9 s10 s11) && okM s12 s13 s14) (ptV s12 s13 s14)))))
theorem dc5_len (s0 s1 s2 s3 s4 s5 s6 s7 s8 s9 s10 s11 s12 s13 s14):(dc5 s0 s1 s2 s3 s4 s5 s6 s7 s8 s9 s10 s11 s12 s13 s14).length=45:=by unfold dc5; simp only [List.length_append,(dcj_ok _ _).1]
theorem dc5_ck (s0 s1 s2 s3 s4 s5 s6 s7 s8 s9 s10 s11 s12 s13 s14):(dc5 s0 s1 s2 s3 s4 s5 s6 s7 s8 s9 s10 s11 s12 s13 s14).all AV.ck=true:=by unfold dc5; simp only [List.all_append,(dcj_ok _ _).2,Bool.and_self]
attribute [go_sem] dc5_len dc5_ck
theorem made8_spec (hP:PrgOk P) (s0 s1 s2 s3 s4 s5 s6 s7 s8 s9 s10 s11 s12 s13 s14:ByteArray) (hl:(bl s0).length≤140737488355328∧(bl s1).length≤140737488355328∧(bl s2).length≤140737488355328∧(bl s3).length≤140737488355328∧(bl s4).length≤140737488355328∧(bl s5).length≤140737488355328∧(bl s6).length≤140737488355328∧(bl s7).length≤140737488355328∧(bl s8).length≤140737488355328∧(bl s9).length≤140737488355328∧(bl s10).length≤140737488355328∧(bl s11).length≤140737488355328∧(bl s12).length≤140737488355328∧(bl s13).length≤140737488355328∧(bl s14).length≤140737488355328):CSpec P 11 [.agg [.str s0,.str s1,.str s2,.str s3,.str s4,.str s5,.str s6,.str s7,.str s8,.str s9,.str s10,.str s11,.str s12,.str s13,.str s14]] (if ok5 s0 s1 s2 s3 s4 s5 s6 s7 s8 s9 s10 s11 s12 s13 s14=true then .tup [(.agg (.opq (.frac ((pt0 s0 s1 s2).1)) :: .pad :: .pad :: .pad :: .pad :: .opq (.frac ((pt0 s0 s1 s2).2.1)) :: .pad :: .pad :: .pad :: .pad :: .opq (.frac ((pt0 s0 s1 s2).2.2)) :: .pad :: .pad :: .pad :: .pad :: .opq (.frac ((pt1 s0 s1 s2 s3 s4 s5).1)) :: .pad :: .pad :: .pad :: .pad :: .opq (.frac ((pt1 s0 s1 s2 s3 s4 s5).2.1)) :: .pad :: .pad :: .pad :: .pad :: .opq (.frac ((pt1 s0 s1 s2 s3 s4 s5).2.2)) :: .pad :: .pad :: .pad :: .pad :: .opq (.frac ((pt2 s0 s1 s2 s3 s4 s5 s6 s7 s8).1)) :: .pad :: .pad :: .pad :: .pad :: .opq (.frac ((pt2 s0 s1 s2 s3 s4 s5 s6 s7 s8).2.1)) :: .pad :: .pad :: .pad :: .pad :: .opq (.frac ((pt2 s0 s1 s2 s3 s4 s5 s6 s7 s8).2.2)) :: .pad :: .pad :: .pad :: .pad :: .opq (.frac ((pt3 s0 s1 s2 s3 s4 s5 s6 s7 s8 s9 s10 s11).1)) :: .pad :: .pad :: .pad :: .pad :: .opq (.frac ((pt3 s0 s1 s2 s3 s4 s5 s6 s7 s8 s9 s10 s11).2.1)) :: .pad :: .pad :: .pad :: .pad :: .opq (.frac ((pt3 s0 s1 s2 s3 s4 s5 s6 s7 s8 s9 s10 s11).2.2)) :: .pad :: .pad :: .pad :: .pad :: .opq (.frac ((pt4 s0 s1 s2 s3 s4 s5 s6 s7 s8 s9 s10 s11 s12 s13 s14).1)) :: .pad :: .pad :: .pad :: .pad :: .opq (.frac ((pt4 s0 s1 s2 s3 s4 s5 s6 s7 s8 s9 s10 s11 s12 s13 s14).2.1)) :: .pad :: .pad :: .pad :: .pad :: .opq (.frac ((pt4 s0 s1 s2 s3 s4 s5 s6 s7 s8 s9 s10 s11 s12 s13 s14).2.2)) :: .pad :: .pad :: .pad :: .pad::[])),(.agg (.opq (.rfrac ((pt0 s0 s1 s2).1)) :: .pad :: .pad :: .opq (.rfrac ((pt0 s0 s1 s2).2.1)) :: .pad :: .pad :: .opq (.rfrac ((pt0 s0 s1 s2).2.2)) :: .pad :: .pad :: .opq (.rfrac ((pt1 s0 s1 s2 s3 s4 s5).1)) :: .pad :: .pad :: .opq (.rfrac ((pt1 s0 s1 s2 s3 s4 s5).2.1)) :: .pad :: .pad :: .opq (.rfrac ((pt1 s0 s1 s2 s3 s4 s5).2.2)) :: .pad :: .pad :: .opq (.rfrac ((pt2 s0 s1 s2 s3 s4 s5 s6 s7 s8).1)) :: .pad :: .pad :: .opq (.rfrac ((pt2 s0 s1 s2 s3 s4 s5 s6 s7 s8).2.1)) :: .pad :: .pad :: .opq (.rfrac ((pt2 s0 s1 s2 s3 s4 s5 s6 s7 s8).2.2)) :: .pad :: .pad :: .opq (.rfrac ((pt3 s0 s1 s2 s3 s4 s5 s6 s7 s8 s9 s10 s11).1)) :: .pad :: .pad :: .opq (.rfrac ((pt3 s0 s1 s2 s3 s4 s5 s6 s7 s8 s9 s10 s11).2.1)) :: .pad :: .pad :: .opq (.rfrac ((pt3 s0 s1 s2 s3 s4 s5 s6 s7 s8 s9 s10 s11).2.2)) :: .pad :: .pad :: .opq (.rfrac ((pt4 s0 s1 s2 s3 s4 s5 s6 s7 s8 s9 s10 s11 s12 s13 s14).1)) :: .pad :: .pad :: .opq (.rfrac ((pt4 s0 s1 s2 s3 s4 s5 s6 s7 s8 s9 s10 s11 s12 s13 s14).2.1)) :: .pad :: .pad :: .opq (.rfrac ((pt4 s0 s1 s2 s3 s4 s5 s6 s7 s8 s9 s10 s11 s12 s13 s14).2.2)) :: .pad :: .pad::[])),.bool true] else .tup [(.agg (.opq (.frac ((pt0 s0 s1 s2).1)) :: .pad :: .pad :: .pad :: .pad :: .opq (.frac ((pt0 s0 s1 s2).2.1)) :: .pad :: .pad :: .pad :: .pad :: .opq (.frac ((pt0 s0 s1 s2).2.2)) :: .pad :: .pad :: .pad :: .pad :: .opq (.frac ((pt1 s0 s1 s2 s3 s4 s5).1)) :: .pad :: .pad :: .pad :: .pad :: .opq (.frac ((pt1 s0 s1 s2 s3 s4 s5).2.1)) :: .pad :: .pad :: .pad :: .pad :: .opq (.frac ((pt1 s0 s1 s2 s3 s4 s5).2.2)) :: .pad :: .pad :: .pad :: .pad :: .opq (.frac ((pt2 s0 s1 s2 s3 s4 s5 s6 s7 s8).1)) :: .pad :: .pad :: .pad :: .pad :: .opq (.frac ((pt2 s0 s1 s2 s3 s4 s5 s6 s7 s8).2.1)) :: .pad :: .pad :: .pad :: .pad :: .opq (.frac ((pt2 s0 s1 s2 s3 s4 s5 s6 s7 s8).2.2)) :: .pad :: .pad :: .pad :: .pad :: .opq (.frac ((pt3 s0 s1 s2 s3 s4 s5 s6 s7 s8 s9 s10 s11).1)) :: .pad :: .pad :: .pad :: .pad :: .opq (.frac ((pt3 s0 s1 s2 s3 s4 s5 s6 s7 s8 s9 s10 s11).2.1)) :: .pad :: .pad :: .pad :: .pad :: .opq (.frac ((pt3 s0 s1 s2 s3 s4 s5 s6 s7 s8 s9 s10 s11).2.2)) :: .pad :: .pad :: .pad :: .pad :: .opq (.frac ((pt4 s0 s1 s2 s3 s4 s5 s6 s7 s8 s9 s10 s11 s12 s13 s14).1)) :: .pad :: .pad :: .pad :: .pad :: .opq (.frac ((pt4 s0 s1 s2 s3 s4 s5 s6 s7 s8 s9 s10 s11 s12 s13 s14).2.1)) :: .pad :: .pad :: .pad :: .pad :: .opq (.frac ((pt4 s0 s1 s2 s3 s4 s5 s6 s7 s8 s9 s10 s11 s12 s13 s14).2.2)) :: .pad :: .pad :: .pad :: .pad::[])),.agg (dc5 s0 s1 s2 s3 s4 s5 s6 s7 s8 s9 s10 s11 s12 s13 s14),.bool false]):=by
 have HE:=Kt9_all hP TF hP.tF
 have nw:=nw8
 unfold ok5 dc5 pt0 pt1 pt2 pt3 pt4
 refine CSpec_go (E:=⟨TF,Kt9⟩) (fn11 hP) HE hP.mix ?_
 simp only [go_sem]
 refine trN_once HE hP.mix 35 1000 ?_
 cases h0:okM s0 s1 s2
 case false =>
  simp only [go_sem,nw,hl,h0]
  exact fin_z
 simp only [go_sem,nw,hl,h0]
 refine goN_once HE hP.mix 35 ?_
 cases h1:okM s3 s4 s5
 case false =>
  simp only [go_sem,nw,hl,h1]
  exact fin_z
 simp only [go_sem,nw,hl,h1]
 refine goN_once HE hP.mix 35 ?_
 cases h2:okM s6 s7 s8
 case false =>
  simp only [go_sem,nw,hl,h2]
  exact fin_z
 simp only [go_sem,nw,hl,h2]
 refine goN_once HE hP.mix 35 ?_
 cases h3:okM s9 s10 s11
 case false =>
  simp only [go_sem,nw,hl,h3]
  exact fin_z
 simp only [go_sem,nw,hl,h3]
 refine goN_once HE hP.mix 35 ?_
 cases h4:okM s12 s13 s14
 case false =>
  simp only [go_sem,nw,hl,h4]
  exact fin_z
 simp only [go_sem,nw,hl,h4]
 refine goN_once HE hP.mix 35 ?_
 simp only [go_sem,nw,hl]
 exact fin_z
noncomputable def made8S:List AV→Option (Prop × AV)
 | [.agg [.str s0,.str s1,.str s2,.str s3,.str s4,.str s5,.str s6,.str s7,.str s8,.str s9,.str s10,.str s11,.str s12,.str s13,.str s14]]=>some ((bl s0).length≤140737488355328∧(bl s1).length≤140737488355328∧(bl s2).length≤140737488355328∧(bl s3).length≤140737488355328∧(bl s4).length≤140737488355328∧(bl s5).length≤140737488355328∧(bl s6).length≤140737488355328∧(bl s7).length≤140737488355328∧(bl s8).length≤140737488355328∧(bl s9).length≤140737488355328∧(bl s10).length≤140737488355328∧(bl s11).length≤140737488355328∧(bl s12).length≤140737488355328∧(bl s13).length≤140737488355328∧(bl s14).length≤140737488355328,if ok5 s0 s1 s2 s3 s4 s5 s6 s7 s8 s9 s10 s11 s12 s13 s14=true then .tup [(.agg (.opq (.frac ((pt0 s0 s1 s2).1)) :: .pad :: .pad :: .pad :: .pad :: .opq (.frac ((pt0 s0 s1 s2).2.1)) :: .pad :: .pad :: .pad :: .pad :: .opq (.frac ((pt0 s0 s1 s2).2.2)) :: .pad :: .pad :: .pad :: .pad :: .opq (.frac ((pt1 s0 s1 s2 s3 s4 s5).1)) :: .pad :: .pad :: .pad :: .pad :: .opq (.frac ((pt1 s0 s1 s2 s3 s4 s5).2.1)) :: .pad :: .pad :: .pad :: .pad :: .opq (.frac ((pt1 s0 s1 s2 s3 s4 s5).2.2)) :: .pad :: .pad :: .pad :: .pad :: .opq (.frac ((pt2 s0 s1 s2 s3 s4 s5 s6 s7 s8).1)) :: .pad :: .pad :: .pad :: .pad :: .opq (.frac ((pt2 s0 s1 s2 s3 s4 s5 s6 s7 s8).2.1)) :: .pad :: .pad :: .pad :: .pad :: .opq (.frac ((pt2 s0 s1 s2 s3 s4 s5 s6 s7 s8).2.2)) :: .pad :: .pad :: .pad :: .pad :: .opq (.frac ((pt3 s0 s1 s2 s3 s4 s5 s6 s7 s8 s9 s10 s11).1)) :: .pad :: .pad :: .pad :: .pad :: .opq (.frac ((pt3 s0 s1 s2 s3 s4 s5 s6 s7 s8 s9 s10 s11).2.1)) :: .pad :: .pad :: .pad :: .pad :: .opq (.frac ((pt3 s0 s1 s2 s3 s4 s5 s6 s7 s8 s9 s10 s11).2.2)) :: .pad :: .pad :: .pad :: .pad :: .opq (.frac ((pt4 s0 s1 s2 s3 s4 s5 s6 s7 s8 s9 s10 s11 s12 s13 s14).1)) :: .pad :: .pad :: .pad :: .pad :: .opq (.frac ((pt4 s0 s1 s2 s3 s4 s5 s6 s7 s8 s9 s10 s11 s12 s13 s14).2.1)) :: .pad :: .pad :: .pad :: .pad :: .opq (.frac ((pt4 s0 s1 s2 s3 s4 s5 s6 s7 s8 s9 s10 s11 s12 s13 s14).2.2)) :: .pad :: .pad :: .pad :: .pad::[])),(.agg (.opq (.rfrac ((pt0 s0 s1 s2).1)) :: .pad :: .pad :: .opq (.rfrac ((pt0 s0 s1 s2).2.1)) :: .pad :: .pad :: .opq (.rfrac ((pt0 s0 s1 s2).2.2)) :: .pad :: .pad :: .opq (.rfrac ((pt1 s0 s1 s2 s3 s4 s5).1)) :: .pad :: .pad :: .opq (.rfrac ((pt1 s0 s1 s2 s3 s4 s5).2.1)) :: .pad :: .pad :: .opq (.rfrac ((pt1 s0 s1 s2 s3 s4 s5).2.2)) :: .pad :: .pad :: .opq (.rfrac ((pt2 s0 s1 s2 s3 s4 s5 s6 s7 s8).1)) :: .pad :: .pad :: .opq (.rfrac ((pt2 s0 s1 s2 s3 s4 s5 s6 s7 s8).2.1)) :: .pad :: .pad :: .opq (.rfrac ((pt2 s0 s1 s2 s3 s4 s5 s6 s7 s8).2.2)) :: .pad :: .pad :: .opq (.rfrac ((pt3 s0 s1 s2 s3 s4 s5 s6 s7 s8 s9 s10 s11).1)) :: .pad :: .pad :: .opq (.rfrac ((pt3 s0 s1 s2 s3 s4 s5 s6 s7 s8 s9 s10 s11).2.1)) :: .pad :: .pad :: .opq (.rfrac ((pt3 s0 s1 s2 s3 s4 s5 s6 s7 s8 s9 s10 s11).2.2)) :: .pad :: .pad :: .opq (.rfrac ((pt4 s0 s1 s2 s3 s4 s5 s6 s7 s8 s9 s10 s11 s12 s13 s14).1)) :: .pad :: .pad :: .opq (.rfrac ((pt4 s0 s1 s2 s3 s4 s5 s6 s7 s8 s9 s10 s11 s12 s13 s14).2.1)) :: .pad :: .pad :: .opq (.rfrac ((pt4 s0 s1 s2 s3 s4 s5 s6 s7 s8 s9 s10 s11 s12 s13 s14).2.2)) :: .pad :: .pad::[])),.bool true] else .tup [(.agg (.opq (.frac ((pt0 s0 s1 s2).1)) :: .pad :: .pad :: .pad :: .pad :: .opq (.frac ((pt0 s0 s1 s2).2.1)) :: .pad :: .pad :: .pad :: .pad :: .opq (.frac ((pt0 s0 s1 s2).2.2)) :: .pad :: .pad :: .pad :: .pad :: .opq (.frac ((pt1 s0 s1 s2 s3 s4 s5).1)) :: .pad :: .pad :: .pad :: .pad :: .opq (.frac ((pt1 s0 s1 s2 s3 s4 s5).2.1)) :: .pad :: .pad :: .pad :: .pad :: .opq (.frac ((pt1 s0 s1 s2 s3 s4 s5).2.2)) :: .pad :: .pad :: .pad :: .pad :: .opq (.frac ((pt2 s0 s1 s2 s3 s4 s5 s6 s7 s8).1)) :: .pad :: .pad :: .pad :: .pad :: .opq (.frac ((pt2 s0 s1 s2 s3 s4 s5 s6 s7 s8).2.1)) :: .pad :: .pad :: .pad :: .pad :: .opq (.frac ((pt2 s0 s1 s2 s3 s4 s5 s6 s7 s8).2.2)) :: .pad :: .pad :: .pad :: .pad :: .opq (.frac ((pt3 s0 s1 s2 s3 s4 s5 s6 s7 s8 s9 s10 s11).1)) :: .pad :: .pad :: .pad :: .pad :: .opq (.frac ((pt3 s0 s1 s2 s3 s4 s5 s6 s7 s8 s9 s10 s11).2.1)) :: .pad :: .pad :: .pad :: .pad :: .opq (.frac ((pt3 s0 s1 s2 s3 s4 s5 s6 s7 s8 s9 s10 s11).2.2)) :: .pad :: .pad :: .pad :: .pad :: .opq (.frac ((pt4 s0 s1 s2 s3 s4 s5 s6 s7 s8 s9 s10 s11 s12 s13 s14).1)) :: .pad :: .pad :: .pad :: .pad :: .opq (.frac ((pt4 s0 s1 s2 s3 s4 s5 s6 s7 s8 s9 s10 s11 s12 s13 s14).2.1)) :: .pad :: .pad :: .pad :: .pad :: .opq (.frac ((pt4 s0 s1 s2 s3 s4 s5 s6 s7 s8 s9 s10 s11 s12 s13 s14).2.2)) :: .pad :: .pad :: .pad :: .pad::[])),.agg (dc5 s0 s1 s2 s3 s4 s5 s6 s7 s8 s9 s10 s11 s12 s13 s14),.bool false])
 | _=>none
theorem made8S_ok (hP:PrgOk P) (args p r) (h:made8S args=some (p,r)) (hp:p):CSpec P 11 args r:=by
 unfold made8S at h
 split at h
 · simp only [Option.some.injEq,Prod.mk.injEq] at h
   obtain ⟨rfl,rfl⟩:=h
   exact made8_spec hP _ _ _ _ _ _ _ _ _ _ _ _ _ _ _ hp
 · simp at h
attribute [go_sem] made8S
noncomputable def Ku0:Nat→List AV→Option (Prop × AV):=addS Kt9 11 made8S
theorem Ku0_all (hP:PrgOk P) (T) (hT:TyOk P T):EnvOk P ⟨T,Ku0⟩:=((Kt9_all hP T hT).add (made8S_ok hP))
theorem Ku0_at (f a):Ku0 f a=(addS Kt9 11 made8S) f a:=rfl
attribute [go_sem] Ku0_at
theorem wIn_is {d e:Nat} {p:V3} {l:List V3} {w:Int} (h:Rk (lessH l) d) (h':Rk (lessH (p::l)) e) (hw:wCl d e p l=w):wIn p l=w:=(wIn_C h h').trans hw
theorem btB_is {d e:Nat} {a p b:V3} {w:Bool} (h:Rk (lessH [a,b]) d) (h':Rk (lessH [p,a,b]) e) (hw:(wCl d e p [a,b] != -1)=w):btB a p b=w:=by unfold btB; rw [wIn_C h h',hw]
theorem wakes8_spec (hP:PrgOk P):CSpec P 12 [] (.bool true):=by
 have HE:=Ku0_all hP TF hP.tF
 have f0:=sm (x:=0) (by decide +kernel)
 have i0:=smi (n:=0) (by decide) (by decide)
 have i1:=smi (n:=1) (by decide) (by decide)
 have i2:=smi (n:=2) (by decide) (by decide)
 have i4:=smi (n:=4) (by decide) (by decide)
 have j0:fl (0:Rat)≤16384:=Nat.le_trans f0.1 (by decide)
 have j0':fl ((0:Int):Rat)≤16384:=Nat.le_trans i0.1.1 (by decide)
 have j1':fl ((1:Int):Rat)≤16384:=Nat.le_trans i1.1.1 (by decide)
 have j2':fl ((2:Int):Rat)≤16384:=Nat.le_trans i2.1.1 (by decide)
 have j4':fl ((4:Int):Rat)≤16384:=Nat.le_trans i4.1.1 (by decide)
 have k0:cmpQ (D2 ((0:Rat),(0:Rat),(0:Rat)) (((4:Int):Rat),((0:Int):Rat),((0:Int):Rat)) (((0:Int):Rat),((4:Int):Rat),((0:Int):Rat)) (((0:Int):Rat),((0:Int):Rat),((1:Int):Rat))) 0=1:=by decide +kernel
 have k1:wIn (((1:Int):Rat),((1:Int):Rat),((0:Int):Rat)) [((0:Rat),(0:Rat),(0:Rat)),(((4:Int):Rat),((0:Int):Rat),((0:Int):Rat)),(((0:Int):Rat),((4:Int):Rat),((0:Int):Rat))]=1:=wIn_is (d:=2) (e:=2) (by unfold Rk; decide +kernel) (by unfold Rk; decide +kernel) (by decide +kernel)
 have k2:wIn (((2:Int):Rat),((0:Int):Rat),((0:Int):Rat)) [((0:Rat),(0:Rat),(0:Rat)),(((4:Int):Rat),((0:Int):Rat),((0:Int):Rat)),(((0:Int):Rat),((4:Int):Rat),((0:Int):Rat))]=0:=wIn_is (d:=2) (e:=2) (by unfold Rk; decide +kernel) (by unfold Rk; decide +kernel) (by decide +kernel)
 have k3:wIn (((1:Int):Rat),((1:Int):Rat),((1:Int):Rat)) [((0:Rat),(0:Rat),(0:Rat)),(((4:Int):Rat),((0:Int):Rat),((0:Int):Rat)),(((0:Int):Rat),((4:Int):Rat),((0:Int):Rat))] = -1:=wIn_is (d:=2) (e:=3) (by unfold Rk; decide +kernel) (by unfold Rk; decide +kernel) (by decide +kernel)
 have k4:btB ((0:Rat),(0:Rat),(0:Rat)) (((1:Int):Rat),((0:Int):Rat),((0:Int):Rat)) (((4:Int):Rat),((0:Int):Rat),((0:Int):Rat))=true:=btB_is (d:=1) (e:=1) (by unfold Rk; decide +kernel) (by unfold Rk; decide +kernel) (by decide +kernel)
 refine CSpec_go (E:=⟨TF,Ku0⟩) (fn12 hP) HE hP.mix ?_
 simp only [go_sem,f0,i0,i1,i2,i4,j0,j0',j1',j2',j4',k0,k1,k2,k3,k4]
 exact .refl _
def wakes8S:List AV→Option (Prop × AV)
 | []=>some (True,.bool true)
 | _=>none
theorem wakes8S_ok (hP:PrgOk P) (args p r) (h:wakes8S args=some (p,r)) (hp:p):CSpec P 12 args r:=by
 unfold wakes8S at h
 split at h
 · simp only [Option.some.injEq,Prod.mk.injEq] at h
   obtain ⟨rfl,rfl⟩:=h
   exact wakes8_spec hP
 · simp at h
attribute [go_sem] wakes8S
noncomputable def Ku1:Nat→List AV→Option (Prop × AV):=addS Ku0 12 wakes8S
theorem Ku1_all (hP:PrgOk P) (T) (hT:TyOk P T):EnvOk P ⟨T,Ku1⟩:=((Ku0_all hP T hT).add (wakes8S_ok hP))
theorem Ku1_at (f a):Ku1 f a=(addS Ku0 12 wakes8S) f a:=rfl
attribute [go_sem] Ku1_at
end Go.Proofs.YtapddfjimhohcaaGreatDoor.AM
