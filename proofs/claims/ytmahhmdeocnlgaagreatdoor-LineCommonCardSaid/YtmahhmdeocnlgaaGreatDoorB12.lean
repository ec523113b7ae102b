/- The laws of lines: made of texts. -/
import Derived.Test.YtmahhmdeocnlgaaGreatDoorB11
import Derived.Test.YtmahhmdeocnlgaaGreatDoorB10
namespace Go.Proofs.YtmahhmdeocnlgaaGreatDoor.AM
set_option linter.all false
set_option autoImplicit true
set_option relaxedAutoImplicit true
open Go Go.Proofs
set_option maxRecDepth 100000
set_option maxHeartbeats 8000000
set_option linter.unusedSimpArgs false
variable {P:Program}
def fromT (q:Rat):Prop:=∃ s:ByteArray,(parF (bl s)).1=q∧(parF (bl s)).2=0∧(bl s).length≤140737488355328
theorem toFr_spec (hP:PrgOk P) (q:Rat) (hpre:fromT q):CSpec P 39 [(.agg [.opq (.rfrac (q)),.pad,.pad])] ((.agg [.opq (.frac (q)),.pad,.pad,.pad,.pad])):=by
 have HE:=Lx3_all hP TF hP.tF
 obtain ⟨s,rfl,h2,h3⟩:=hpre
 have ht:=parF_text h2
 have fq:=Nat.le_trans (parF_fl (bl s)) (show _≤FB by decide)
 refine CSpec_go (E:=⟨TF,Lx3⟩) (fn39 hP) HE hP.mix ?_
 simp only [go_sem,fq,ht,h3]
 exact fin_z
noncomputable def toFrS:List AV→Option (Prop × AV)
 | [x0]=>(rawRF x0).bind fun q=>some (q.1∧(fromT q.2),(.agg [.opq (.frac (q.2)),.pad,.pad,.pad,.pad]))
 | _=>none
theorem toFrS_eq (x0):toFrS [x0]=(rawRF x0).bind fun q=>some (q.1∧(fromT q.2),(.agg [.opq (.frac (q.2)),.pad,.pad,.pad,.pad])):=rfl
theorem toFrS_ok (hP:PrgOk P) (args p r) (he:toFrS args=some (p,r)) (hp:p):CSpec P 39 args r:=by
 unfold toFrS at he
 split at he
 · simp only [Option.bind_eq_some_iff,Option.some.injEq,Prod.mk.injEq] at he
   obtain ⟨⟨uq,q⟩,hhq,rfl,rfl⟩:=he
   exact (toFr_spec hP q hp.2).cv (rawRF_cv hhq hp.1 (.refl _))
 · simp at he
attribute [go_sem] toFrS_eq
theorem is6_spec (hP:PrgOk P) (l:LN) (m:LN) (hpre:fV l.1 FB∧fV l.2 FB∧fV m.1 FB∧fV m.2 FB):CSpec P 15 [(.agg [.opq (.frac (l.1.1)),.pad,.pad,.pad,.pad,.opq (.frac (l.1.2.1)),.pad,.pad,.pad,.pad,.opq (.frac (l.1.2.2)),.pad,.pad,.pad,.pad,.opq (.frac (l.2.1)),.pad,.pad,.pad,.pad,.opq (.frac (l.2.2.1)),.pad,.pad,.pad,.pad,.opq (.frac (l.2.2.2)),.pad,.pad,.pad,.pad]),(.agg [.opq (.rfrac (m.1.1)),.pad,.pad,.opq (.rfrac (m.1.2.1)),.pad,.pad,.opq (.rfrac (m.1.2.2)),.pad,.pad,.opq (.rfrac (m.2.1)),.pad,.pad,.opq (.rfrac (m.2.2.1)),.pad,.pad,.opq (.rfrac (m.2.2.2)),.pad,.pad])] (.bool (decide (l.1=m.1) && decide (ldr l.2=m.2))):=by
 have HE:=Lx3_all hP TF hP.tF
 obtain ⟨hp,hl,hq,hm⟩:=hpre
 obtain ⟨d,hd⟩:∃ zz,ldr l.2=zz:=⟨_,rfl⟩
 have fd:=ldr_fV hl (by decide)
 rw [hd] at fd
 rw [hd]
 refine CSpec_go (E:=⟨TF,Lx3⟩) (fn15 hP) HE hP.mix ?_
 by_cases c:l.1=m.1
 · have c':decide (((l.1.1,l.1.2.1,l.1.2.2):V3)=(m.1.1,m.1.2.1,m.1.2.2))=true:=decide_eq_true c
   rw [decide_eq_true c,Bool.true_and]
   simp only [go_sem,bf hp (by decide),bf hq (by decide),bf hl (by decide),bf hm (by decide),bf fd (by decide),ldr_c hd,c']
   exact fin_z
 · have c':decide (((l.1.1,l.1.2.1,l.1.2.2):V3)=(m.1.1,m.1.2.1,m.1.2.2))=false:=decide_eq_false c
   rw [decide_eq_false c,Bool.false_and]
   simp only [go_sem,bf hp (by decide),bf hq (by decide),bf hl (by decide),bf hm (by decide),bf fd (by decide),ldr_c hd,c']
   exact fin_z
noncomputable def is6S:List AV→Option (Prop × AV)
 | [x0,x1]=>(rawLn x0).bind fun l=>(rawY x1).bind fun m=>some ((fV l.1 FB∧fV l.2 FB∧fV m.1 FB∧fV m.2 FB),.bool (decide (l.1=m.1) && decide (ldr l.2=m.2)))
 | _=>none
theorem is6S_eq (x0 x1):is6S [x0,x1]=(rawLn x0).bind fun l=>(rawY x1).bind fun m=>some ((fV l.1 FB∧fV l.2 FB∧fV m.1 FB∧fV m.2 FB),.bool (decide (l.1=m.1) && decide (ldr l.2=m.2))):=rfl
theorem is6S_ok (hP:PrgOk P) (args p r) (he:is6S args=some (p,r)) (hp:p):CSpec P 15 args r:=by
 unfold is6S at he
 split at he
 · simp only [Option.bind_eq_some_iff,Option.some.injEq,Prod.mk.injEq] at he
   obtain ⟨l,hhl,m,hhm,rfl,rfl⟩:=he
   rw [rawLn_inv hhl,rawY_inv hhm]
   exact is6_spec hP l m hp
 · simp at he
attribute [go_sem] is6S_eq
noncomputable def axL:LN:=((((0:Int):Rat),((0:Int):Rat),((0:Int):Rat)),ax1)
noncomputable def mdO (x y z u v w:ByteArray):Bool:=okM x y z && (okM u v w && !decide (ptV u v w=v0))
noncomputable def mdL (x y z u v w:ByteArray):LN:=if (okM x y z && okM u v w)=true then lnM (ptV x y z) (ptV u v w) else (v0,v0)
noncomputable def mdY (x y z u v w:ByteArray):LN:=if (okM x y z && okM u v w)=true then rlM (ptV x y z) (ptV u v w) else axL
theorem lnP_fV {p e:V3} {n m:Nat} (hp:fV p n) (he:fV e m):fV (lnP p e) (n+(n+m+(n+m)+1+(n+m)+1+(m+m+(m+m)+1+(m+m)+1)+1+m)+1):=by
 have ft:fl (lnT p e)≤_:=fl_qdiv (qdt_fl hp he) (qdt_fl he he)
 exact ⟨fl_qsub hp.1 (fl_qmul ft he.1),fl_qsub hp.2.1 (fl_qmul ft he.2.1),fl_qsub hp.2.2 (fl_qmul ft he.2.2)⟩
structure Ln1 (p e:V3):Prop where
 nz:e ≠ v0
 one:nrm e=e
 dot:vdt p e=0
theorem lnM_1 {p d:V3} (h:d ≠ v0):lnM p d=(lnP p (nrm d),nrm d)∧rlM p d=(lnP p (nrm d),nrm d):=⟨if_neg h,if_neg h⟩
theorem ln1_of (p:V3) {d:V3} (h:d ≠ v0):Ln1 (lnP p (nrm d)) (nrm d):=⟨nrm_nz h,nrm_idem h,lnP_dot (nrm_nz h)⟩
theorem mdO_t {x y z u v w:ByteArray} (h:mdO x y z u v w=true):∃ p e,mdL x y z u v w=(p,e)∧mdY x y z u v w=(p,e)∧Ln1 p e∧fV p 65536∧fV e 8192:=by
 unfold mdO at h
 simp only [Bool.and_eq_true,Bool.not_eq_true',decide_eq_false_iff_not] at h
 obtain ⟨h1,h2,h3⟩:=h
 have hb:(okM x y z && okM u v w)=true:=by rw [h1,h2]; rfl
 have f1:=nrm_fV (ptV_fl u v w)
 have f2:=lnP_fV (ptV_fl x y z) f1
 unfold mdL mdY
 rw [if_pos hb,if_pos hb]
 exact ⟨_,_,(lnM_1 h3).1,(lnM_1 h3).2,ln1_of _ h3,fV_mono f2 (by decide),fV_mono f1 (by decide)⟩
noncomputable def Lx4:Nat→List AV→Option (Prop × AV):=addS (addS Lx3 39 toFrS) 15 is6S
theorem Lx4_all (hP:PrgOk P) (T) (hT:TyOk P T):EnvOk P ⟨T,Lx4⟩:=(((Lx3_all hP T hT).add (toFrS_ok hP)).add (is6S_ok hP))
theorem Lx4_at (f a):Lx4 f a=(addS (addS Lx3 39 toFrS) 15 is6S) f a:=rfl
attribute [go_sem] Lx4_at
theorem made6_spec (hP:PrgOk P) (x y z u v w:ByteArray) (hx:(bl x).length≤140737488355328) (hy:(bl y).length≤140737488355328) (hz:(bl z).length≤140737488355328) (hu:(bl u).length≤140737488355328) (hv:(bl v).length≤140737488355328) (hw:(bl w).length≤140737488355328) :
 CSpec P 19 [.agg [.str x,.str y,.str z,.str u,.str v,.str w]] (.tup [(.agg [.opq (.frac ((mdL x y z u v w).1.1)),.pad,.pad,.pad,.pad,.opq (.frac ((mdL x y z u v w).1.2.1)),.pad,.pad,.pad,.pad,.opq (.frac ((mdL x y z u v w).1.2.2)),.pad,.pad,.pad,.pad,.opq (.frac ((mdL x y z u v w).2.1)),.pad,.pad,.pad,.pad,.opq (.frac ((mdL x y z u v w).2.2.1)),.pad,.pad,.pad,.pad,.opq (.frac ((mdL x y z u v w).2.2.2)),.pad,.pad,.pad,.pad]),(.agg [.opq (.rfrac ((mdY x y z u v w).1.1)),.pad,.pad,.opq (.rfrac ((mdY x y z u v w).1.2.1)),.pad,.pad,.opq (.rfrac ((mdY x y z u v w).1.2.2)),.pad,.pad,.opq (.rfrac ((mdY x y z u v w).2.1)),.pad,.pad,.opq (.rfrac ((mdY x y z u v w).2.2.1)),.pad,.pad,.opq (.rfrac ((mdY x y z u v w).2.2.2)),.pad,.pad]),.bool (mdO x y z u v w)]):=by
 have HE:=Lx4_all hP TF hP.tF
 have b0:((-9223372036854775808:Int)≤0∧(0:Int)≤9223372036854775807)=True:=eq_true (by decide)
 have b1:((-9223372036854775808:Int)≤1∧(1:Int)≤9223372036854775807)=True:=eq_true (by decide)
 have fa:=ptV_fl x y z
 have fb:=ptV_fl u v w
 unfold mdL mdY mdO
 cases h1:okM x y z
 · simp only [Bool.false_and,if_false,Bool.false_eq_true]
   unfold axL ax1
   refine CSpec_go (E:=⟨TF,Lx4⟩) (fn19 hP) HE hP.mix ?_
   simp only [go_sem,hx,hy,hz,hu,hv,hw,h1,Bool.false_and]
   refine icX_vc (E:=⟨TF,Lx4⟩) (fn37 hP) HE hP.mix rfl rfl (Nat.le_of_ble_eq_true rfl) 100 ?_
   simp only [go_sem,b0,b1]
   unfold finX
   simp only [go_sem]
   exact fin_z
 cases h2:okM u v w
 · simp only [Bool.false_and,Bool.and_false,if_false,Bool.false_eq_true]
   unfold axL ax1
   refine CSpec_go (E:=⟨TF,Lx4⟩) (fn19 hP) HE hP.mix ?_
   simp only [go_sem,hx,hy,hz,hu,hv,hw,h1,h2,Bool.false_and]
   refine icX_vc (E:=⟨TF,Lx4⟩) (fn37 hP) HE hP.mix rfl rfl (Nat.le_of_ble_eq_true rfl) 100 ?_
   simp only [go_sem,b0,b1]
   unfold finX
   simp only [go_sem]
   exact fin_z
 simp only [Bool.true_and,if_true]
 obtain ⟨a,ha⟩:∃ a,ptV x y z=a:=⟨_,rfl⟩
 obtain ⟨b,hb⟩:∃ b,ptV u v w=b:=⟨_,rfl⟩
 rw [ha] at fa ⊢
 rw [hb] at fb ⊢
 by_cases h0:b=v0
 · have e0:lnE (b.1,b.2.1,b.2.2)=2:=if_pos h0
   rw [decide_eq_true h0]
   refine CSpec_go (E:=⟨TF,Lx4⟩) (fn19 hP) HE hP.mix ?_
   simp only [go_sem,hx,hy,hz,hu,hv,hw,h1,h2,ha,hb,bm fa (by decide),bm fb (by decide),e0]
   exact fin_z
 · have e0:lnE (b.1,b.2.1,b.2.2)=0:=if_neg h0
   rw [decide_eq_false h0]
   refine CSpec_go (E:=⟨TF,Lx4⟩) (fn19 hP) HE hP.mix ?_
   simp only [go_sem,hx,hy,hz,hu,hv,hw,h1,h2,ha,hb,bm fa (by decide),bm fb (by decide),e0]
   exact fin_z
noncomputable def made6S:List AV→Option (Prop × AV)
 | [.agg [.str x,.str y,.str z,.str u,.str v,.str w]]=>some ((bl x).length≤140737488355328∧(bl y).length≤140737488355328∧(bl z).length≤140737488355328∧(bl u).length≤140737488355328∧(bl v).length≤140737488355328∧(bl w).length≤140737488355328,.tup [(.agg [.opq (.frac ((mdL x y z u v w).1.1)),.pad,.pad,.pad,.pad,.opq (.frac ((mdL x y z u v w).1.2.1)),.pad,.pad,.pad,.pad,.opq (.frac ((mdL x y z u v w).1.2.2)),.pad,.pad,.pad,.pad,.opq (.frac ((mdL x y z u v w).2.1)),.pad,.pad,.pad,.pad,.opq (.frac ((mdL x y z u v w).2.2.1)),.pad,.pad,.pad,.pad,.opq (.frac ((mdL x y z u v w).2.2.2)),.pad,.pad,.pad,.pad]),(.agg [.opq (.rfrac ((mdY x y z u v w).1.1)),.pad,.pad,.opq (.rfrac ((mdY x y z u v w).1.2.1)),.pad,.pad,.opq (.rfrac ((mdY x y z u v w).1.2.2)),.pad,.pad,.opq (.rfrac ((mdY x y z u v w).2.1)),.pad,.pad,.opq (.rfrac ((mdY x y z u v w).2.2.1)),.pad,.pad,.opq (.rfrac ((mdY x y z u v w).2.2.2)),.pad,.pad]),.bool (mdO x y z u v w)])
 | _=>none
theorem made6S_ok (hP:PrgOk P) (args p r) (h:made6S args=some (p,r)) (hp:p):CSpec P 19 args r:=by
 unfold made6S at h
 split at h
 · simp only [Option.some.injEq,Prod.mk.injEq] at h
   obtain ⟨rfl,rfl⟩:=h
   exact made6_spec hP _ _ _ _ _ _ hp.1 hp.2.1 hp.2.2.1 hp.2.2.2.1 hp.2.2.2.2.1 hp.2.2.2.2.2
 · simp at h
attribute [go_sem] made6S
noncomputable def plO (x y z w:ByteArray):Bool:=!(decide (90<x.size) || (decide (90<y.size) || (decide (90<z.size) || decide (90<w.size)))) && decide ((parC (bl x) (bl y) (bl z) (bl w)).2=0)
theorem plN_fP {h:V4} {n:Nat} (hh:fP h n):fP (plN h) (n+(1+n+n+n+n)):=by
 have hm:blen (m4 h)≤1+n+n+n+n:=lcmD_blen (lcmD_blen (lcmD_blen (lcmD_blen (show blen 1≤1 by decide) (fl_den hh.1)) (fl_den hh.2.1)) (fl_den hh.2.2.1)) (fl_den hh.2.2.2)
 have k:∀ {x:Rat},fl x≤n→fl ((q4 h x:Int):Rat)≤n+(1+n+n+n+n):=fun {x} hx=>by
  have hp:wl (p4 h x)≤n+(1+n+n+n+n):=by
   refine Nat.le_trans (primZ_wl _ _) ?_
   unfold n4
   exact wl_mul (fl_num hx) (blen_le_of (Nat.div_le_self _ _) hm)
  refine fl_int ?_ (by omega)
  unfold q4; split
  · exact wl_neg' hp
  · exact hp
 exact ⟨k hh.1,k hh.2.1,k hh.2.2.1,k hh.2.2.2⟩
theorem parC_ok {a b c d:List Nat} (h:(parC a b c d).2=0):∃ q:V4,parC a b c d=(plN q,0)∧nP q ≠ v0∧fP q 1024:=by
 unfold parC at h ⊢
 by_cases c1:(parF a).2=0
 · rw [if_pos c1] at h ⊢
   by_cases c2:(parF b).2=0
   · rw [if_pos c2] at h ⊢
     by_cases c3:(parF c).2=0
     · rw [if_pos c3] at h ⊢
       by_cases c4:(parF d).2=0
       · rw [if_pos c4] at h ⊢
         by_cases hn:nP ((parF a).1,(parF b).1,(parF c).1,(parF d).1)=v0
         · exact absurd ((if_pos hn).symm.trans h:(2:Int)=0) (by decide)
         · refine ⟨_,?_,hn,parF_fl a,parF_fl b,parF_fl c,parF_fl d⟩
           unfold plV plE
           rw [if_neg hn,if_neg hn]
       · rw [if_neg c4] at h; exact absurd h c4
     · rw [if_neg c3] at h; exact absurd h c3
   · rw [if_neg c2] at h; exact absurd h c2
 · rw [if_neg c1] at h; exact absurd h c1
theorem parC_bad {a b c d:List Nat} (h:(parC a b c d).2 ≠ 0):(parC a b c d).1=(0,0,0,0):=by
 unfold parC at h ⊢
 by_cases c1:(parF a).2=0
 · rw [if_pos c1] at h ⊢
   by_cases c2:(parF b).2=0
   · rw [if_pos c2] at h ⊢
     by_cases c3:(parF c).2=0
     · rw [if_pos c3] at h ⊢
       by_cases c4:(parF d).2=0
       · rw [if_pos c4] at h ⊢
         by_cases hn:nP ((parF a).1,(parF b).1,(parF c).1,(parF d).1)=v0
         · exact if_pos hn
         · exact absurd (if_neg hn:plE _=0) h
       · rw [if_neg c4]
     · rw [if_neg c3]
   · rw [if_neg c2]
 · rw [if_neg c1]
theorem plO_t {x y z w:ByteArray} (h:plO x y z w=true):∃ a,parC (bl x) (bl y) (bl z) (bl w)=(a,0)∧nP a ≠ v0∧fP a 8192:=by
 unfold plO at h
 simp only [Bool.and_eq_true,decide_eq_true_eq] at h
 obtain ⟨q,h1,h2,h3⟩:=parC_ok h.2
 have f:=plN_fP h3
 exact ⟨_,h1,plN_nz h2,Nat.le_trans f.1 (by decide),Nat.le_trans f.2.1 (by decide),Nat.le_trans f.2.2.1 (by decide),Nat.le_trans f.2.2.2 (by decide)⟩
theorem pln6_spec (hP:PrgOk P) (x y z w:ByteArray) (hx:(bl x).length≤140737488355328) (hy:(bl y).length≤140737488355328) (hz:(bl z).length≤140737488355328) (hw:(bl w).length≤140737488355328) :
 CSpec P 16 [.agg [.str x,.str y,.str z,.str w]] (if plO x y z w=true then .tup [(.agg [.opq (.frac (((parC (bl x) (bl y) (bl z) (bl w)).1).1)),.pad,.pad,.pad,.pad,.opq (.frac (((parC (bl x) (bl y) (bl z) (bl w)).1).2.1)),.pad,.pad,.pad,.pad,.opq (.frac (((parC (bl x) (bl y) (bl z) (bl w)).1).2.2.1)),.pad,.pad,.pad,.pad,.opq (.frac (((parC (bl x) (bl y) (bl z) (bl w)).1).2.2.2)),.pad,.pad,.pad,.pad]),(.agg [.opq (.rfrac (((parC (bl x) (bl y) (bl z) (bl w)).1).1)),.pad,.pad,.opq (.rfrac (((parC (bl x) (bl y) (bl z) (bl w)).1).2.1)),.pad,.pad,.opq (.rfrac (((parC (bl x) (bl y) (bl z) (bl w)).1).2.2.1)),.pad,.pad,.opq (.rfrac (((parC (bl x) (bl y) (bl z) (bl w)).1).2.2.2)),.pad,.pad]),.bool true] else .tup [(.agg [.opq (.frac (0)),.pad,.pad,.pad,.pad,.opq (.frac (0)),.pad,.pad,.pad,.pad,.opq (.frac (0)),.pad,.pad,.pad,.pad,.opq (.frac (0)),.pad,.pad,.pad,.pad]),.agg [.bool false,.nils,.nils,.bool false,.nils,.nils,.bool false,.nils,.nils,.bool false,.nils,.nils],.bool false]):=by
 have HE:=Lx4_all hP TF hP.tF
 have hb:=@parC_bad (bl x) (bl y) (bl z) (bl w)
 unfold plO
 obtain ⟨r,hr⟩:∃ r,parC (bl x) (bl y) (bl z) (bl w)=r:=⟨_,rfl⟩
 rw [hr] at hb ⊢
 by_cases h1:90<x.size
 · rw [decide_eq_true h1]
   simp only [Bool.true_or,Bool.false_or,Bool.not_true,Bool.not_false,Bool.false_and,Bool.true_and,Bool.false_eq_true,if_false,if_true]
   refine CSpec_go (E:=⟨TF,Lx4⟩) (fn16 hP) HE hP.mix ?_
   simp only [go_sem,h1]
   exact fin_z
 rw [decide_eq_false h1]
 by_cases h2:90<y.size
 · rw [decide_eq_true h2]
   simp only [Bool.true_or,Bool.false_or,Bool.not_true,Bool.not_false,Bool.false_and,Bool.true_and,Bool.false_eq_true,if_false,if_true]
   refine CSpec_go (E:=⟨TF,Lx4⟩) (fn16 hP) HE hP.mix ?_
   simp only [go_sem,h1,h2]
   exact fin_z
 rw [decide_eq_false h2]
 by_cases h3:90<z.size
 · rw [decide_eq_true h3]
   simp only [Bool.true_or,Bool.false_or,Bool.not_true,Bool.not_false,Bool.false_and,Bool.true_and,Bool.false_eq_true,if_false,if_true]
   refine CSpec_go (E:=⟨TF,Lx4⟩) (fn16 hP) HE hP.mix ?_
   simp only [go_sem,h1,h2,h3]
   exact fin_z
 rw [decide_eq_false h3]
 by_cases h4:90<w.size
 · rw [decide_eq_true h4]
   simp only [Bool.true_or,Bool.false_or,Bool.not_true,Bool.not_false,Bool.false_and,Bool.true_and,Bool.false_eq_true,if_false,if_true]
   refine CSpec_go (E:=⟨TF,Lx4⟩) (fn16 hP) HE hP.mix ?_
   simp only [go_sem,h1,h2,h3,h4]
   exact fin_z
 rw [decide_eq_false h4]
 by_cases h:r.2=0
 · rw [decide_eq_true h]
   have h':(r.2 == 0)=true:=by rw [h]; rfl
   simp only [Bool.true_or,Bool.false_or,Bool.not_true,Bool.not_false,Bool.false_and,Bool.true_and,Bool.false_eq_true,if_false,if_true]
   refine CSpec_go (E:=⟨TF,Lx4⟩) (fn16 hP) HE hP.mix ?_
   simp only [go_sem,h1,h2,h3,h4,hx,hy,hz,hw,hr,h,h']
   exact fin_z
 · rw [decide_eq_false h]
   have h':(r.2 == 0)=false:=by simpa using h
   have e1:r.1.1=0:=by rw [hb h]
   have e2:r.1.2.1=0:=by rw [hb h]
   have e3:r.1.2.2.1=0:=by rw [hb h]
   have e4:r.1.2.2.2=0:=by rw [hb h]
   simp only [Bool.true_or,Bool.false_or,Bool.not_true,Bool.not_false,Bool.false_and,Bool.true_and,Bool.false_eq_true,if_false,if_true]
   refine CSpec_go (E:=⟨TF,Lx4⟩) (fn16 hP) HE hP.mix ?_
   simp only [go_sem,h1,h2,h3,h4,hx,hy,hz,hw,hr,h,h',e1,e2,e3,e4]
   exact fin_z
noncomputable def pln6S:List AV→Option (Prop × AV)
 | [.agg [.str x,.str y,.str z,.str w]]=>some ((bl x).length≤140737488355328∧(bl y).length≤140737488355328∧(bl z).length≤140737488355328∧(bl w).length≤140737488355328,if plO x y z w=true then .tup [(.agg [.opq (.frac (((parC (bl x) (bl y) (bl z) (bl w)).1).1)),.pad,.pad,.pad,.pad,.opq (.frac (((parC (bl x) (bl y) (bl z) (bl w)).1).2.1)),.pad,.pad,.pad,.pad,.opq (.frac (((parC (bl x) (bl y) (bl z) (bl w)).1).2.2.1)),.pad,.pad,.pad,.pad,.opq (.frac (((parC (bl x) (bl y) (bl z) (bl w)).1).2.2.2)),.pad,.pad,.pad,.pad]),(.agg [.opq (.rfrac (((parC (bl x) (bl y) (bl z) (bl w)).1).1)),.pad,.pad,.opq (.rfrac (((parC (bl x) (bl y) (bl z) (bl w)).1).2.1)),.pad,.pad,.opq (.rfrac (((parC (bl x) (bl y) (bl z) (bl w)).1).2.2.1)),.pad,.pad,.opq (.rfrac (((parC (bl x) (bl y) (bl z) (bl w)).1).2.2.2)),.pad,.pad]),.bool true] else .tup [(.agg [.opq (.frac (0)),.pad,.pad,.pad,.pad,.opq (.frac (0)),.pad,.pad,.pad,.pad,.opq (.frac (0)),.pad,.pad,.pad,.pad,.opq (.frac (0)),.pad,.pad,.pad,.pad]),.agg [.bool false,.nils,.nils,.bool false,.nils,.nils,.bool false,.nils,.nils,.bool false,.nils,.nils],.bool false])
 | _=>none
theorem pln6S_ok (hP:PrgOk P) (args p r) (h:pln6S args=some (p,r)) (hp:p):CSpec P 16 args r:=by
 unfold pln6S at h
 split at h
 · simp only [Option.some.injEq,Prod.mk.injEq] at h
   obtain ⟨rfl,rfl⟩:=h
   exact pln6_spec hP _ _ _ _ hp.1 hp.2.1 hp.2.2.1 hp.2.2.2
 · simp at h
attribute [go_sem] pln6S
noncomputable def Lx5:Nat→List AV→Option (Prop × AV):=addS (addS Lx4 19 made6S) 16 pln6S
theorem Lx5_all (hP:PrgOk P) (T) (hT:TyOk P T):EnvOk P ⟨T,Lx5⟩:=(((Lx4_all hP T hT).add (made6S_ok hP)).add (pln6S_ok hP))
theorem Lx5_at (f a):Lx5 f a=(addS (addS Lx4 19 made6S) 16 pln6S) f a:=rfl
attribute [go_sem] Lx5_at
end Go.Proofs.YtmahhmdeocnlgaaGreatDoor.AM
/- Lines: plain facts of what the laws say. -/
namespace Go.Proofs.YtmahhmdeocnlgaaGreatDoor.AM
set_option linter.all false
set_option autoImplicit true
set_option relaxedAutoImplicit true
open Go Go.Proofs
set_option maxRecDepth 100000
theorem qc1:((1:Int):Rat)=1:=rfl
theorem vcr_neg (a b:V3):vcr b a=vsc (-1) (vcr a b):=by unfold vcr vsc; refine v3_ext ?_ ?_ ?_<;>(simp only []; grind)
theorem vsb_neg (a b:V3):vsb b a=vsc (-1) (vsb a b):=by unfold vsb vsc; refine v3_ext ?_ ?_ ?_<;>(simp only []; grind)
theorem neg_v0 {a:V3}:vsc (-1) a=v0 ↔ a=v0:=by
 rw [v0_iff,v0_iff]; unfold vsc; simp only []; constructor<;>intro ⟨h1,h2,h3⟩<;>exact ⟨by grind,by grind,by grind⟩
theorem par_of {a c:V3} (hc:c ≠ v0) (h:vcr a c=v0):a=vsc (vdt a c / vdt c c) c:=by
 have hD:=dt_self hc
 have e:=(v0_iff _).1 h
 unfold vcr at e
 simp only [] at e
 obtain ⟨e1,e2,e3⟩:=e
 have hs:=Rat.div_mul_cancel (a:=vdt a c) hD
 generalize vdt a c / vdt c c=s at *
 unfold vdt at hs hD
 unfold vsc
 refine v3_ext (mul_cancel hD ?_) (mul_cancel hD ?_) (mul_cancel hD ?_)<;>(simp only []; grind)
theorem vcr_self (s:Rat) (a:V3):vcr (vsc s a) a=v0:=by
 rw [v0_iff]; unfold vcr vsc; simp only []; exact ⟨by grind,by grind,by grind⟩
theorem vdt_vsc (s:Rat) (a b:V3):vdt (vsc s a) b=s*vdt a b:=by unfold vdt vsc; simp only []; grind
theorem vsb_vad (p a:V3):vsb (vad p a) p=a:=by unfold vsb vad; refine v3_ext ?_ ?_ ?_<;>(simp only []; grind)
theorem cmpQ_0 {a b:Rat}:cmpQ a b=0 ↔ a=b:=by
 rcases cmpQ_cases a b with ⟨h,e⟩|⟨h,e⟩|⟨h,e⟩<;>rw [e]
 · exact ⟨fun h=>absurd h (by decide),fun e=>by grind⟩
 · exact ⟨fun _=>h,fun _=>rfl⟩
 · exact ⟨fun h=>absurd h (by decide),fun e=>by grind⟩
theorem cmpV_0 {a b:V3}:cmpV a b=0 ↔ a=b:=by
 refine ⟨fun h=>?_,fun h=>by rw [h]; exact cmpV_self b⟩
 unfold cmpV at h
 by_cases c1:cmpQ a.1 b.1=0
 · rw [if_pos c1] at h
   by_cases c2:cmpQ a.2.1 b.2.1=0
   · rw [if_pos c2] at h; exact v3_ext (cmpQ_0.1 c1) (cmpQ_0.1 c2) (cmpQ_0.1 h)
   · rw [if_neg c2] at h; exact absurd h c2
 · rw [if_neg c1] at h; exact absurd h c1
theorem cmpL_0 {l m:LN}:cmpL l m=0 ↔ l=m:=by
 unfold cmpL
 by_cases c:cmpV l.2 m.2=0
 · rw [if_pos c]
   exact ⟨fun h=>Prod.ext (cmpV_0.1 h) (cmpV_0.1 c),fun h=>by rw [h]; exact cmpV_self _⟩
 · rw [if_neg c]
   exact ⟨fun h=>absurd h c,fun h=>absurd (cmpV_0.2 (congrArg (·.2) h)) c⟩
theorem ldr_v0:ldr v0=ax1:=if_pos rfl
theorem lnIs (p d:V3):(lnM p d).1=(rlM p d).1∧ldr (lnM p d).2=(rlM p d).2:=by
 by_cases h:d=v0
 · unfold lnM rlM; rw [if_pos h,if_pos h]; exact ⟨rfl,ldr_v0⟩
 · rw [(lnM_1 h).1,(lnM_1 h).2]; exact ⟨rfl,ldr_nz (nrm_nz h)⟩
theorem mt_rm {n m:V3} {h k:Rat} (h0:vcq n m ≠ v0):mtP n m h k=vadq (vscq (rmX n m h k) n) (vscq (rmY n m h k) m):=by
 unfold mtP rmX rmY
 rw [rdet_eq]
 simp only [vscq_vsc,vadq_vad,vcq_vcr,qdt_vdt,qdiv_eq,qsub_eq,qmul_eq]
 rw [vcq_vcr] at h0
 have hD:=dt_self h0
 refine meet_pt h0 ?_ ?_ ?_
 · rw [Rat.div_mul_cancel hD]; rfl
 · rw [← det_eq,Rat.div_mul_cancel hD]
 · rw [← det_eq,Rat.div_mul_cancel hD]
theorem mtIs (n m:V3) (h k:Rat):(mtQ n m h k).1.1=(rmQ n m h k).1.1∧ldr (mtQ n m h k).1.2=(rmQ n m h k).1.2∧(mtQ n m h k).2=(rmQ n m h k).2:=by
 unfold mtQ rmQ
 by_cases h0:vcq n m=v0
 · rw [if_pos h0,if_pos h0]; exact ⟨rfl,ldr_v0,rfl⟩
 · rw [if_neg h0,if_neg h0,← mt_rm h0]
   exact ⟨(lnIs _ _).1,(lnIs _ _).2,rfl⟩
theorem lnM_any {p e:V3} (h:Ln1 p e) {k:Rat} (hk:k ≠ 0) (x:Rat):lnM (vad p (vsc x e)) (vsc k e)=(p,e):=by
 rw [(lnM_1 (vsc_nz hk h.nz)).1,nrm_any hk h.nz,h.one,lnP_any h.nz,lnP_self h.nz h.dot]
theorem plc_at {p e:V3} (h:Ln1 p e) (x:Rat):plcQ p e (atQ p e x)=(x,true):=by
 unfold plcQ
 rw [atQ_eq,vsbq_vsb,vsb_vad,vcq_vcr,if_pos (vcr_self _ _),qdiv_eq,qdt_vdt,qdt_vdt,vdt_vsc]
 refine Prod.ext ?_ rfl
 exact mul_cancel (dt_self h.nz) (Rat.div_mul_cancel (dt_self h.nz))
theorem at_at (p e:V3) (x y:Rat):vsbq (atQ p e y) (atQ p e x)=vsc (y-x) e:=by
 rw [atQ_eq,atQ_eq,vsbq_vsb]; unfold vsb vad vsc; refine v3_ext ?_ ?_ ?_<;>(simp only []; grind)
theorem mt_in {n m:V3} {h k:Rat} (h0:vcq n m ≠ v0):∃ p e,lnM (mtP n m h k) (vcq n m)=(p,e)∧Ln1 p e∧vdt n e=0∧vdt m e=0∧vdt n p=h∧vdt m p=k:=by
 refine ⟨_,_,(lnM_1 h0).1,ln1_of _ h0,?_⟩
 obtain ⟨c,hc,e⟩:=nrm_sc h0
 have hn:vdt n (nrm (vcq n m))=0:=by rw [e,vcq_vcr]; unfold vdt vcr vsc; simp only []; grind
 have hm:vdt m (nrm (vcq n m))=0:=by rw [e,vcq_vcr]; unfold vdt vcr vsc; simp only []; grind
 refine ⟨hn,hm,?_⟩
 have foot:∀ a:V3,vdt a (nrm (vcq n m))=0→∀ p,vdt a (lnP p (nrm (vcq n m)))=vdt a p:=fun a ha p=>by
  rw [lnP_eq]
  generalize lnT p (nrm (vcq n m))=t at *
  generalize nrm (vcq n m)=b at *
  unfold vdt at ha
  unfold vdt vsb vsc; simp only []; grind
 rw [foot n hn,foot m hm]
 unfold mtP
 simp only [vscq_vsc,vadq_vad,vcq_vcr,qdt_vdt,qdiv_eq]
 rw [vcq_vcr] at h0
 have hD:=dt_self h0
 have hq:((1:Int):Rat) / vdt (vcr n m) (vcr n m)*vdt (vcr n m) (vcr n m)=1:=by rw [Rat.div_mul_cancel hD]; rfl
 generalize ((1:Int):Rat) / vdt (vcr n m) (vcr n m)=q at *
 have i1:vdt n (vsc q (vad (vsc h (vcr m (vcr n m))) (vsc k (vcr (vcr n m) n))))=h*(q*vdt (vcr n m) (vcr n m)):=by
  unfold vdt vcr vad vsc; simp only []; grind
 have i2:vdt m (vsc q (vad (vsc h (vcr m (vcr n m))) (vsc k (vcr (vcr n m) n))))=k*(q*vdt (vcr n m) (vcr n m)):=by
  unfold vdt vcr vad vsc; simp only []; grind
 rw [i1,i2,hq]
 exact ⟨by grind,by grind⟩
theorem mtP_sym (n m:V3) (h k:Rat):mtP m n k h=mtP n m h k:=by
 unfold mtP
 simp only [vscq_vsc,vadq_vad,vcq_vcr,qdt_vdt,qdiv_eq]
 have e:vdt (vcr m n) (vcr m n)=vdt (vcr n m) (vcr n m):=by unfold vdt vcr; simp only []; grind
 rw [e]
 congr 1
 unfold vad vsc vcr; refine v3_ext ?_ ?_ ?_<;>(simp only []; grind)
theorem mtQ_sym (n m:V3) (h k:Rat):mtQ m n k h=mtQ n m h k:=by
 unfold mtQ
 rw [mtP_sym,vcq_vcr,vcq_vcr,vcr_neg n m]
 by_cases h0:vcr n m=v0
 · rw [if_pos h0,if_pos (neg_v0.2 h0)]
 · rw [if_neg h0,if_neg (fun e=>h0 (neg_v0.1 e)),(lnM_1 h0).1,(lnM_1 (fun e=>h0 (neg_v0.1 e))).1,nrm_neg h0]
theorem lin_eq (p d q c:V3):linQ p d q c=if vcr d c=v0 then (v0,60) else if vdt (vsb q p) (vcr d c)=0 then (vad p (vsc (vdt (vcr (vsb q p) c) (vcr d c) / vdt (vcr d c) (vcr d c)) d),0) else (v0,60):=by
 unfold linQ
 simp only [vsbq_vsb,vcq_vcr,qdt_vdt,qdiv_eq,atQ_eq]
theorem linQ_sym (p d q c:V3):linQ q c p d=linQ p d q c:=by
 rw [lin_eq,lin_eq,vcr_neg d c,vsb_neg q p]
 by_cases h0:vcr d c=v0
 · rw [if_pos h0,if_pos (neg_v0.2 h0)]
 rw [if_neg h0,if_neg (fun e=>h0 (neg_v0.1 e))]
 have e1:vdt (vsc (-1) (vsb q p)) (vsc (-1) (vcr d c))=vdt (vsb q p) (vcr d c):=by unfold vdt vsc; simp only []; grind
 have e2:vdt (vsc (-1) (vcr d c)) (vsc (-1) (vcr d c))=vdt (vcr d c) (vcr d c):=by unfold vdt vsc; simp only []; grind
 have e3:vdt (vcr (vsc (-1) (vsb q p)) d) (vsc (-1) (vcr d c))=vdt (vcr (vsb q p) d) (vcr d c):=by unfold vdt vsc vcr; simp only []; grind
 rw [e1,e2,e3]
 by_cases h1:vdt (vsb q p) (vcr d c)=0
 · rw [if_pos h1,if_pos h1]
   have hx:=cross_pt d c (vsb q p)
   rw [h1] at hx
   have hD:=dt_self h0
   have a1:=Rat.div_mul_cancel (a:=vdt (vcr (vsb q p) c) (vcr d c)) hD
   have a2:=Rat.div_mul_cancel (a:=vdt (vcr (vsb q p) d) (vcr d c)) hD
   generalize vdt (vcr (vsb q p) c) (vcr d c) / vdt (vcr d c) (vcr d c)=s at *
   generalize vdt (vcr (vsb q p) d) (vcr d c) / vdt (vcr d c) (vcr d c)=t at *
   rw [← a1,← a2] at hx
   generalize vdt (vcr d c) (vcr d c)=D at *
   generalize vcr d c=n at *
   have g1:=congrArg (·.1) hx
   have g2:=congrArg (·.2.1) hx
   have g3:=congrArg (·.2.2) hx
   unfold vsc vad vsb at g1 g2 g3
   simp only [] at g1 g2 g3
   refine Prod.ext ?_ rfl
   unfold vad vsc
   refine v3_ext (mul_cancel hD ?_) (mul_cancel hD ?_) (mul_cancel hD ?_)<;>(simp only []; grind)
 · rw [if_neg h1,if_neg h1]
theorem lin_on {p d q c:V3} (h:Ln1 p d) (h0:(linQ p d q c).2=0):(plcQ p d (linQ p d q c).1).2=true:=by
 rw [lin_eq] at h0 ⊢
 by_cases h1:vcr d c=v0
 · rw [if_pos h1] at h0; exact absurd h0 (by decide)
 rw [if_neg h1] at h0 ⊢
 by_cases h2:vdt (vsb q p) (vcr d c)=0
 · rw [if_pos h2,← atQ_eq,plc_at h]
 · rw [if_neg h2] at h0; exact absurd h0 (by decide)
theorem lin_e (p d q c:V3):(linQ p d q c).2=0∨(linQ p d q c).2=60:=by
 rw [lin_eq]
 split
 · exact .inr rfl
 · split
   · exact .inl rfl
   · exact .inr rfl
theorem plc_2 (p d q:V3):(plcQ p d q).2=decide (vcr (vsb q p) d=v0):=by
 unfold plcQ
 rw [vsbq_vsb,vcq_vcr]
 by_cases h:vcr (vsb q p) d=v0
 · rw [if_pos h,decide_eq_true h]
 · rw [if_neg h,decide_eq_false h]
theorem ln_same {p d q c:V3} (h:Ln1 p d) (k:Ln1 q c):((p,d)=(q,c)) ↔ ((plcQ q c p).2=true∧(plcQ q c (atQ p d ((1:Int):Rat))).2=true):=by
 rw [plc_2,plc_2,decide_eq_true_eq,decide_eq_true_eq,atQ_eq,qc1]
 constructor
 · intro e
   obtain ⟨rfl,rfl⟩:=Prod.mk.inj e
   constructor
   · rw [v0_iff]; unfold vcr vsb; simp only []; exact ⟨by grind,by grind,by grind⟩
   · rw [vsb_vad]; exact vcr_self _ _
 · rintro ⟨h1,h2⟩
   have h3:vcr d c=v0:=by
    rw [v0_iff] at h1 h2 ⊢
    unfold vcr vsb at h1
    unfold vcr vsb vad vsc at h2
    unfold vcr
    simp only [] at h1 h2 ⊢
    exact ⟨by grind,by grind,by grind⟩
   have hd:=par_of k.nz h3
   generalize vdt d c / vdt c c=s at hd
   have hs:s ≠ 0:=fun e=>h.nz (by rw [hd,e,vsc_z])
   have hdc:d=c:=by rw [← h.one,hd,nrm_any hs k.nz,k.one]
   subst hdc
   have hv:=par_of k.nz h1
   have hz:vdt (vsb p q) d=0:=by
    have a:=h.dot
    have b:=k.dot
    unfold vdt at a b
    unfold vdt vsb; simp only []; grind
   rw [hz] at hv
   have hq:vsb p q=v0:=by rw [hv,show (0:Rat) / vdt d d=0 by rw [Rat.div_def]; grind,vsc_z]
   have e:=(v0_iff _).1 hq
   unfold vsb at e
   simp only [] at e
   have:p=q:=v3_ext (by grind) (by grind) (by grind)
   rw [this]
theorem lin_par {p d q c:V3} (h:Ln1 p d) (k:Ln1 q c) (e:(p,d)=(q,c)):(linQ p d q c).2=60:=by
 obtain ⟨rfl,rfl⟩:=Prod.mk.inj e
 rw [lin_eq,if_pos]
 rw [v0_iff]; unfold vcr; simp only []; exact ⟨by grind,by grind,by grind⟩
end Go.Proofs.YtmahhmdeocnlgaaGreatDoor.AM
/- The laws of lines: what small lines give. -/
namespace Go.Proofs.YtmahhmdeocnlgaaGreatDoor.AM
set_option linter.all false
set_option autoImplicit true
set_option relaxedAutoImplicit true
open Go Go.Proofs
set_option maxRecDepth 100000
set_option maxHeartbeats 8000000
set_option linter.unusedSimpArgs false
variable {P:Program}
theorem sm {x:Rat} (h:fl x≤4096):fl x≤4096∧fl x≤8192∧fl x≤65536∧fl x≤262144∧fl x≤1048576∧fl x≤4194304∧fl x≤8388608∧fl x≤16777216∧fl x≤67108864∧fl x≤268435456∧fl x≤FB∧wl x.num≤68719476736:=by
 have k:∀ m,4096≤m→fl x≤m:=fun m hm=>Nat.le_trans h hm
 exact ⟨h,k _ (by decide),k _ (by decide),k _ (by decide),k _ (by decide),k _ (by decide),k _ (by decide),k _ (by decide),k _ (by decide),k _ (by decide),k _ (by decide),Nat.le_trans (fl_num h) (by decide)⟩
theorem smi {n:Int} (h1 : -9223372036854775808≤n) (h2:n≤9223372036854775807):(fl ((n:Int):Rat)≤8192∧fl ((n:Int):Rat)≤65536∧fl ((n:Int):Rat)≤262144∧fl ((n:Int):Rat)≤1048576∧fl ((n:Int):Rat)≤4194304∧fl ((n:Int):Rat)≤8388608∧fl ((n:Int):Rat)≤16777216∧fl ((n:Int):Rat)≤67108864∧fl ((n:Int):Rat)≤268435456∧fl ((n:Int):Rat)≤FB)∧((-9223372036854775808:Int)≤n∧n≤9223372036854775807):=by
 have s:=sm (Nat.le_trans (fl_i64 h1 h2) (by decide))
 exact ⟨⟨s.2.1,s.2.2.1,s.2.2.2.1,s.2.2.2.2.1,s.2.2.2.2.2.1,s.2.2.2.2.2.2.1,s.2.2.2.2.2.2.2.1,s.2.2.2.2.2.2.2.2.1,s.2.2.2.2.2.2.2.2.2.1,s.2.2.2.2.2.2.2.2.2.2.1⟩,h1,h2⟩
theorem wakes6_spec (hP:PrgOk P):CSpec P 10 [] (.bool true):=by
 have HE:=Lx5_all hP TF hP.tF
 obtain ⟨A0,hA0⟩:∃ q:Rat,q=0:=⟨_,rfl⟩
 obtain ⟨A1,hA1⟩:∃ q:Rat,q=1:=⟨_,rfl⟩
 obtain ⟨A3,hA3⟩:∃ q:Rat,q=3:=⟨_,rfl⟩
 have f0:=sm (x:=A0) (by rw [hA0]; decide +kernel)
 have f1:=sm (x:=A1) (by rw [hA1]; decide +kernel)
 have f3:=sm (x:=A3) (by rw [hA3]; decide +kernel)
 have i0:=smi (n:=0) (by decide) (by decide)
 have i1:=smi (n:=1) (by decide) (by decide)
 have i2:=smi (n:=-2) (by decide) (by decide)
 have i3:=smi (n:=3) (by decide) (by decide)
 have kL:lnM (((1:Int):Rat),((1:Int):Rat),((0:Int):Rat)) (((-2:Int):Rat),((-2:Int):Rat),((0:Int):Rat))=((A0,A0,A0),(A1,A1,A0)):=by
  rw [hA0,hA1]; unfold lnM lnP lnT nrm ngV qdt; simp only [qadd_eq,qsub_eq,qmul_eq,qdiv_eq,qneg_eq]; decide +kernel
 have kE:lnE (((-2:Int):Rat),((-2:Int):Rat),((0:Int):Rat))=0:=by decide +kernel
 have kP:plV (((1:Int):Rat),((0:Int):Rat),((0:Int):Rat),((3:Int):Rat))=(A1,A0,A0,A3):=by rw [hA0,hA1,hA3]; decide +kernel
 have kF:plE (((1:Int):Rat),((0:Int):Rat),((0:Int):Rat),((3:Int):Rat))=0:=by decide +kernel
 have kd:ldr (A1,A1,A0)=(A1,A1,A0):=by rw [hA0,hA1]; decide +kernel
 have kn:pnr (nP (A1,A0,A0,A3))=(A1,A0,A0):=by rw [hA0,hA1,hA3]; decide +kernel
 have kQ:plnQ (A0,A0,A0) (A1,A1,A0) (A1,A0,A0) A3=(A3,false,0):=by
  rw [hA0,hA1,hA3]; unfold plnQ qdt; simp only [qadd_eq,qsub_eq,qmul_eq,qdiv_eq,qneg_eq]; decide +kernel
 have kz:decide (((A0,A0,A0):V3)=v0)=true:=by rw [hA0]; decide +kernel
 have kc:(cmpV (A1,A1,A0) (((1:Int):Rat),((1:Int):Rat),((0:Int):Rat)) == 0)=true:=by rw [hA0,hA1]; decide +kernel
 have kt:((qtS A3).toList == (ByteArray.mk #[51]).toList)=true:=lit_text [51] rfl (by decide) (by decide) (by decide) (by decide) (by decide) (by rw [hA3]; decide +kernel)
 refine CSpec_go (E:=⟨TF,Lx5⟩) (fn10 hP) HE hP.mix ?_
 simp only [go_sem,f0,f1,f3,i0,i1,i2,i3,kL,kE,kP,kF,kd,kn,kQ,kz,kc,kt]
 exact .refl _
def wakes6S:List AV→Option (Prop × AV)
 | []=>some (True,.bool true)
 | _=>none
theorem wakes6S_ok (hP:PrgOk P) (args p r) (h:wakes6S args=some (p,r)) (hp:p):CSpec P 10 args r:=by
 unfold wakes6S at h
 split at h
 · simp only [Option.some.injEq,Prod.mk.injEq] at h
   obtain ⟨rfl,rfl⟩:=h
   exact wakes6_spec hP
 · simp at h
attribute [go_sem] wakes6S
noncomputable def Lx7:Nat→List AV→Option (Prop × AV):=addS Lx5 10 wakes6S
theorem Lx7_all (hP:PrgOk P) (T) (hT:TyOk P T):EnvOk P ⟨T,Lx7⟩:=((Lx5_all hP T hT).add (wakes6S_ok hP))
theorem Lx7_at (f a):Lx7 f a=(addS Lx5 10 wakes6S) f a:=rfl
attribute [go_sem] Lx7_at
end Go.Proofs.YtmahhmdeocnlgaaGreatDoor.AM
/- Arguments that are rows of strings,rows in rows too: how long they are. -/
namespace Go.Proofs.YtmahhmdeocnlgaaGreatDoor.AM
set_option linter.all false
set_option autoImplicit true
set_option relaxedAutoImplicit true
open Go Go.Proofs
mutual
def Sha.ss:Sha→Bool
 | .str=>true
 | .row l=>ssL l
 | _=>false
def ssL:List Sha→Bool
 | []=>true
 | s::l=>s.ss && ssL l
end
section
variable {H:Type} {enc:TypeId × Value→H} {P:Program} {w:World} {B:Nat}
theorem map_app {ss tt:List ByteArray} {a b:List Value} (h:a=ss.map .string) (h':b=tt.map .string):a++b=(ss++tt).map .string:=by rw [h,h',List.map_append]
mutual
theorem Sha.rlw:∀ (sp:Sha) (t:TypeId),sp.ss=true→sp.chk P t=true→∀ fuel cs x,DataW.trod enc P w 0 (fun _=>true) true fuel t cs=some x→(x.1.weights P t).all (fun x=>decide (x≤B))=true→∃ ss:List ByteArray,ss.length=sp.width∧(∀ s ∈ ss,s.size≤B)∧cs=ss.map .string
 | .bool,_,h,_,_,_,_,_,_=>by simp [Sha.ss] at h
 | .int _,_,h,_,_,_,_,_,_=>by simp [Sha.ss] at h
 | .slice _,_,h,_,_,_,_,_,_=>by simp [Sha.ss] at h
 | .str,t,_,hc,fuel,cs,x,h,hw=>by
   have ht:P.underlying t=some .string:=by simp only [Sha.chk] at hc; split at hc<;>simp_all
   obtain ⟨s,rfl,e2⟩:=trod_str ht h
   rw [e2] at hw
   simp only [DataW.weights,List.all_cons,List.all_nil,Bool.and_true,decide_eq_true_eq] at hw
   exact ⟨[s],rfl,fun z hz=>by rw [List.mem_singleton.1 hz]; simpa using hw,rfl⟩
 | .row l,t,hs,hc,fuel,cs,x,h,hw=>by
   simp only [Sha.chk,Bool.and_eq_true,beq_iff_eq] at hc
   simp only [Sha.ss] at hs
   obtain ⟨hwd,hc⟩:=hc
   split at hc
   · rename_i fs hu
     obtain ⟨xs,n,_,rfl,hl,hx,hall⟩:=DataW.trod_struct hu h
     simp only [DataW.weights,hu] at hw
     obtain ⟨ss,k1,k2,k3⟩:=rlwF l fs.toList 0 hs hc n cs xs (fun i f hf=>hall i f (by simpa using hf)) (by simpa using hx) (by rw [hl,hwd]; omega) hw
     exact ⟨ss,by simpa [Sha.width] using k1,k2,by simpa using k3⟩
   · rename_i n u hu
     simp only [Bool.and_eq_true,beq_iff_eq] at hc
     obtain ⟨xs,m,_,rfl,hl,hx,hall⟩:=DataW.trod_array hu h
     simp only [DataW.weights,hu] at hw
     obtain ⟨ss,k1,k2,k3⟩:=rlwA l u (P.cellsOf u) hs hc.2 m cs xs 0 0 (Nat.zero_mul _).symm (fun i hi=>by
      rw [Nat.zero_add]; exact hall i (by omega)) (by rw [hx,hc.1]) (by rw [hl,hwd]; omega) hw
     exact ⟨ss,by simpa [Sha.width] using k1,k2,by simpa using k3⟩
   · simp at hc
theorem rlwF:∀ (l:List Sha) (fs:List Field) (o:Nat),ssL l=true→chkF P l fs o=true→∀ (n:Nat) (cs:List Value) (xs:List (DataW H × List MemPlace)),(∀ (i:Nat) (f:Field),fs[i]? = some f→DataW.trod enc P w 0 (fun _=>true) true n f.type ((cs.drop f.offset).take (P.cellsOf f.type))=xs[i]?)→xs.length=fs.length→cs.length=o+widthL l→(DataW.weightsEach P (fs.map (·.type)) (xs.map (·.1))).all (fun x=>decide (x≤B))=true→∃ ss:List ByteArray,ss.length=widthL l∧(∀ s ∈ ss,s.size≤B)∧cs.drop o=ss.map .string
 | [],[],o,_,_,n,cs,_,_,_,hl,_=>⟨[],rfl,by simp,by rw [List.drop_of_length_le (by simp [widthL] at hl; omega)]; rfl⟩
 | [],_::_,_,_,hc,_,_,_,_,_,_,_=>by simp [chkF] at hc
 | _::_,[],_,_,hc,_,_,_,_,_,_,_=>by simp [chkF] at hc
 | s::l,f::fs,o,hs,hc,n,cs,xs,hall,hx,hl,hw=>by
   simp only [chkF,Bool.and_eq_true,beq_iff_eq] at hc
   simp only [ssL,Bool.and_eq_true] at hs
   obtain ⟨⟨⟨h1,h2⟩,h3⟩,h4⟩:=hc
   simp only [widthL] at hl
   match xs,hx with
   | y::ys,hx =>
     have hy:=hall 0 f rfl
     simp only [List.getElem?_cons_zero] at hy
     simp only [List.map_cons,DataW.weightsEach,List.all_append,Bool.and_eq_true] at hw
     obtain ⟨a,a1,a2,a3⟩:=Sha.rlw s f.type hs.1 h3 _ _ _ hy hw.1
     obtain ⟨b,b1,b2,b3⟩:=rlwF l fs (o+s.width) hs.2 h4 n cs ys (fun i g hg=>by simpa using hall (i+1) g (by simpa using hg)) (by simpa using hx) (by omega) hw.2
     refine ⟨a++b,by simp [widthL,a1,b1],fun z hz=>?_,?_⟩
     · rcases List.mem_append.1 hz with hz|hz
       · exact a2 z hz
       · exact b2 z hz
     · rw [cut_app (k:=s.width) (by omega)]
       rw [h1,h2] at a3
       exact map_app a3 b3
theorem rlwA:∀ (l:List Sha) (u:TypeId) (c:Nat),ssL l=true→chkA P l u c=true→∀ (n:Nat) (cs:List Value) (xs:List (DataW H × List MemPlace)) (j o:Nat),o=j*c→(∀ i,i<l.length→DataW.trod enc P w 0 (fun _=>true) true n u ((cs.drop ((j+i)*c)).take c)=xs[i]?)→xs.length=l.length→cs.length=o+widthL l→(DataW.weightsAll P u (xs.map (·.1))).all (fun x=>decide (x≤B))=true→∃ ss:List ByteArray,ss.length=widthL l∧(∀ s ∈ ss,s.size≤B)∧cs.drop o=ss.map .string
 | [],_,_,_,_,_,cs,_,_,o,_,_,_,hl,_=>⟨[],rfl,by simp,by rw [List.drop_of_length_le (by simp [widthL] at hl; omega)]; rfl⟩
 | s::l,u,c,hs,hc,n,cs,xs,j,o,ho,hall,hx,hl,hw=>by
   simp only [chkA,Bool.and_eq_true,beq_iff_eq] at hc
   simp only [ssL,Bool.and_eq_true] at hs
   obtain ⟨⟨h1,h2⟩,h3⟩:=hc
   simp only [widthL] at hl
   match xs,hx with
   | y::ys,hx =>
     have hy:=hall 0 (by simp)
     simp only [List.getElem?_cons_zero] at hy
     simp only [List.map_cons,DataW.weightsAll,List.all_append,Bool.and_eq_true] at hw
     obtain ⟨a,a1,a2,a3⟩:=Sha.rlw s u hs.1 h2 _ _ _ hy hw.1
     obtain ⟨b,b1,b2,b3⟩:=rlwA l u c hs.2 h3 n cs ys (j+1) (o+c) (by rw [ho,Nat.succ_mul]) (fun i hi=>by
      have:=hall (i+1) (by simp; omega)
      rw [show j+(i+1)=j+1+i by omega] at this
      simpa using this) (by simpa using hx) (by omega) hw.2
     refine ⟨a++b,by simp [widthL,a1,b1],fun z hz=>?_,?_⟩
     · rcases List.mem_append.1 hz with hz|hz
       · exact a2 z hz
       · exact b2 z hz
     · rw [cut_app (k:=c) (by omega)]
       rw [Nat.add_zero,← ho] at a3
       exact map_app a3 b3
end
theorem rl_strs (ss:List ByteArray):RL0 w (ss.map Value.string) (ss.map AV.str):=by
 induction ss with
 | nil=>exact .nil
 | cons s ss ih=>exact .str _ ih
theorem arg_ss {l:List Sha} {t:TypeId} (hs:ssL l=true) (hc:(Sha.row l).chk P t=true) {v:Value} {d:DataW H} {ps:List MemPlace} {b:Nat} (h:DataW.Trod enc P w 0 (fun _=>true) true t v d ps) (hv:Value.okWide P w .any b t v) (hw:(d.weights P t).all (fun x=>decide (x≤B))=true):∃ ss:List ByteArray,ss.length=widthL l∧(∀ s ∈ ss,s.size≤B)∧RL0 w [v] [.agg (ss.map .str)]:=by
 obtain ⟨fuel,h⟩:=h
 obtain ⟨ss,h1,h2,h3⟩:=Sha.rlw (.row l) t hs hc fuel _ _ h hw
 have:∃ cs,v = .agg cs:=by
  simp only [Sha.chk,Bool.and_eq_true] at hc
  unfold Value.okWide at hv
  have hc:=hc.2
  split at hc
  · rename_i fs hu; rw [hu] at hv; exact ⟨_,hv.choose_spec.1⟩
  · rename_i n u hu; rw [hu] at hv; exact ⟨_,hv.choose_spec.1⟩
  · simp at hc
 obtain ⟨cs,rfl⟩:=this
 refine ⟨ss,by simpa [Sha.width] using h1,h2,?_⟩
 have h3':cs.toList=ss.map Value.string:=by simpa [Value.cells] using h3
 simpa using RL.agg (cs:=cs.toList) (by rw [h3']; exact rl_strs ss) .nil
end
end Go.Proofs.YtmahhmdeocnlgaaGreatDoor.AM
