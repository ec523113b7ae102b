/- The laws of lines: what is in common. -/
import Derived.Test.YtmahhmdeocnlgaaGreatDoorHb
namespace Go.Proofs.YtmahhmdeocnlgaaGreatDoor.AM
set_option linter.all false
set_option autoImplicit true
set_option relaxedAutoImplicit true
open Go Go.Proofs
set_option maxRecDepth 100000
set_option maxHeartbeats 8000000
set_option linter.unusedSimpArgs false
variable {P:Program}
theorem cmpL_b {l m:LN}:(cmpL l m == 0)=decide (l=m):=by
 rw [Bool.eq_iff_iff]; simp only [beq_iff_eq,decide_eq_true_eq]; exact cmpL_0
theorem patV_0 {a:V4} {p:V3} (hn:nP a ≠ v0) (h:vdt (nP a) p=a.2.2.2):patV a p=0:=by
 unfold patV; rw [pnr_nz hn,qdt_vdt,qsub_eq,h]; grind
theorem pln_in {p d n:V3} {o:Rat} (h:vdt n d=0) (h':vdt n p=o):plnQ p d n o=(0,true,0):=by
 unfold plnQ; rw [qdt_vdt,if_pos h,qdt_vdt,qsub_eq,h',if_pos (by grind)]
theorem rl:(∀ z:Int,(z == z)=true∧(z != z)=false)∧decide True=true∧(∀ l m:LN,(cmpL l m == 0)=decide (l=m))∧(∀ a:V3,cmpV a a=0)∧∀ b:Bool,(b != b)=false∧(b == b)=true :=
 ⟨fun z=>⟨beq_s z,bne_s z⟩,rfl,fun _ _=>cmpL_b,cmpV_self,fun b=>by cases b<;>exact ⟨rfl,rfl⟩⟩
theorem LineCommon_spec (hP:PrgOk P) (A:List ByteArray) (hA:A.length=4) (hAs:∀ s ∈ A,s.size≤maxS) (B:List ByteArray) (hB:B.length=4) (hBs:∀ s ∈ B,s.size≤maxS) (L:List ByteArray) (hl:L.length=6) (hs:∀ s ∈ L,s.size≤maxS) (M:List ByteArray) (hm:M.length=6) (ht:∀ s ∈ M,s.size≤maxS) :
 CSpec P 8 [.agg (A.map .str),.agg (B.map .str),.agg (L.map .str),.agg (M.map .str)] (.bool true):=by
 obtain ⟨a1,a2,a3,a4,rfl,l1,l2,l3,l4⟩:=four hA hAs
 obtain ⟨b1,b2,b3,b4,rfl,k1,k2,k3,k4⟩:=four hB hBs
 obtain ⟨x,y,z,u,v,w,rfl,hx,hy,hz,hu,hv,hw⟩:=six hl hs
 obtain ⟨x',y',z',u',v',w',rfl,hx',hy',hz',hu',hv',hw'⟩:=six hm ht
 have HE:=Lx7_all hP TF hP.tF
 simp only [List.map_cons,List.map_nil]
 refine CSpec_go (E:=⟨TF,Lx7⟩) (fn8 hP) HE hP.mix ?_
 by_cases h1:plO a1 a2 a3 a4=true
 case neg =>
  have h1':=eq_false h1
  by_cases h2:plO b1 b2 b3 b4=true
  · have h2':=eq_true h2
    simp only [go_sem,l1,l2,l3,l4,k1,k2,k3,k4,h1',h2']
    by_cases h3:mdO x y z u v w=true
    case neg =>
     have h3':mdO x y z u v w=false:=by simpa using h3
     cases h4:mdO x' y' z' u' v' w'
     · simp only [go_sem,hx,hy,hz,hu,hv,hw,hx',hy',hz',hu',hv',hw',h3',h4,h1',h2']
       exact .refl _
     · simp only [go_sem,hx,hy,hz,hu,hv,hw,hx',hy',hz',hu',hv',hw',h3',h4,h1',h2']
       exact .refl _
    by_cases h4:mdO x' y' z' u' v' w'=true
    case neg =>
     have h4':mdO x' y' z' u' v' w'=false:=by simpa using h4
     simp only [go_sem,hx,hy,hz,hu,hv,hw,hx',hy',hz',hu',hv',hw',h3,h4',h1',h2']
     exact .refl _
    obtain ⟨p,e,hLl,hYl,h1l,fpl,fel⟩:=mdO_t h3
    have hdl:ldr (e.1,e.2.1,e.2.2)=e:=ldr_nz h1l.nz
    obtain ⟨q,c,hLm,hYm,h1m,fpm,fem⟩:=mdO_t h4
    have hdm:ldr (c.1,c.2.1,c.2.2)=c:=ldr_nz h1m.nz
    have fR:=linQ_fV fpl fel fpm fem
    have sy:=linQ_sym p e q c
    have on1:=lin_on (q:=q) (c:=c) h1l
    have on2:=lin_on (q:=p) (c:=e) h1m
    have he:=lin_e p e q c
    have par:=lin_par h1l h1m
    have one:=ln_same h1l h1m
    rw [sy] at on2
    obtain ⟨R,hR⟩:∃ r,linQ p e q c=r:=⟨_,rfl⟩
    rw [hR] at fR sy on1 on2 he par
    have kR:linQ (p.1,p.2.1,p.2.2) e (q.1,q.2.1,q.2.2) c=R∧linQ (q.1,q.2.1,q.2.2) c (p.1,p.2.1,p.2.2) e=R:=⟨hR,sy⟩
    have i1:=smi (n:=1) (by decide) (by decide)
    obtain ⟨T,hT⟩:∃ zz,atQ p e ((1:Int):Rat)=zz:=⟨_,rfl⟩
    have fT:=atQ_fV fpl fel (fl_i64 (n:=1) (by decide) (by decide))
    rw [hT] at fT
    have kT:atQ (p.1,p.2.1,p.2.2) e ((1:Int):Rat)=T:=hT
    rw [hT] at one
    have B:=(⟨b16 fpl (by decide),b16 fpm (by decide),b16 fel (by decide),b16 fem (by decide),bw fpl (by decide),bw fpm (by decide),bw fel (by decide),bw fem (by decide),b22 fpl (by decide),b22 fpm (by decide),b22 fel (by decide),b22 fem (by decide),bw fR (by decide),hx,hy,hz,hu,hv,hw,hx',hy',hz',hu',hv',hw',h3,h4,hdl,hdm,kR⟩:_∧_∧_∧_∧_∧_∧_∧_∧_∧_∧_∧_∧_∧_∧_∧_∧_∧_∧_∧_∧_∧_∧_∧_∧_∧_∧_∧_∧_∧_)
    by_cases h5:(p,e)=(q,c)
    · have c1:decide ((((p.1,p.2.1,p.2.2),e):LN)=((q.1,q.2.1,q.2.2),c))=true:=decide_eq_true h5
      have c2:decide ((((q.1,q.2.1,q.2.2),c):LN)=((p.1,p.2.1,p.2.2),e))=true:=decide_eq_true h5.symm
      have o1:(plcQ (q.1,q.2.1,q.2.2) c (p.1,p.2.1,p.2.2)).2=true:=(one.1 h5).1
      have o2:(plcQ (q.1,q.2.1,q.2.2) c (T.1,T.2.1,T.2.2)).2=true:=(one.1 h5).2
      simp only [go_sem,B,hLl,hLm,i1,kT,bw fT (by decide),rl,c1,c2,o1,o2,par h5,h1',h2']
      exact .refl _
    have c1:decide ((((p.1,p.2.1,p.2.2),e):LN)=((q.1,q.2.1,q.2.2),c))=false:=decide_eq_false h5
    have c2:decide ((((q.1,q.2.1,q.2.2),c):LN)=((p.1,p.2.1,p.2.2),e))=false:=decide_eq_false fun h=>h5 h.symm
    rcases he with he|he
    · have o1:(plcQ (p.1,p.2.1,p.2.2) e (R.1.1,R.1.2.1,R.1.2.2)).2=true:=on1 he
      have o2:(plcQ (q.1,q.2.1,q.2.2) c (R.1.1,R.1.2.1,R.1.2.2)).2=true:=on2 he
      simp only [go_sem,B,hLl,hLm,rl,c1,c2,o1,o2,he,h1',h2']
      exact .refl _
    · have o3:¬ ((plcQ (q.1,q.2.1,q.2.2) c (p.1,p.2.1,p.2.2)).2=true∧(plcQ (q.1,q.2.1,q.2.2) c (T.1,T.2.1,T.2.2)).2=true):=fun h=>h5 (one.2 h)
      cases o1:(plcQ (q.1,q.2.1,q.2.2) c (p.1,p.2.1,p.2.2)).2
      · simp only [go_sem,B,hLl,hLm,i1,kT,bw fT (by decide),rl,c1,c2,o1,he,h1',h2']
        exact .refl _
      · have o2:(plcQ (q.1,q.2.1,q.2.2) c (T.1,T.2.1,T.2.2)).2=false:=by
         rw [o1] at o3; simpa using o3
        simp only [go_sem,B,hLl,hLm,i1,kT,bw fT (by decide),rl,c1,c2,o1,o2,he,h1',h2']
        exact .refl _
  · have h2':=eq_false h2
    simp only [go_sem,l1,l2,l3,l4,k1,k2,k3,k4,h1',h2']
    by_cases h3:mdO x y z u v w=true
    case neg =>
     have h3':mdO x y z u v w=false:=by simpa using h3
     cases h4:mdO x' y' z' u' v' w'
     · simp only [go_sem,hx,hy,hz,hu,hv,hw,hx',hy',hz',hu',hv',hw',h3',h4,h1',h2']
       exact .refl _
     · simp only [go_sem,hx,hy,hz,hu,hv,hw,hx',hy',hz',hu',hv',hw',h3',h4,h1',h2']
       exact .refl _
    by_cases h4:mdO x' y' z' u' v' w'=true
    case neg =>
     have h4':mdO x' y' z' u' v' w'=false:=by simpa using h4
     simp only [go_sem,hx,hy,hz,hu,hv,hw,hx',hy',hz',hu',hv',hw',h3,h4',h1',h2']
     exact .refl _
    obtain ⟨p,e,hLl,hYl,h1l,fpl,fel⟩:=mdO_t h3
    have hdl:ldr (e.1,e.2.1,e.2.2)=e:=ldr_nz h1l.nz
    obtain ⟨q,c,hLm,hYm,h1m,fpm,fem⟩:=mdO_t h4
    have hdm:ldr (c.1,c.2.1,c.2.2)=c:=ldr_nz h1m.nz
    have fR:=linQ_fV fpl fel fpm fem
    have sy:=linQ_sym p e q c
    have on1:=lin_on (q:=q) (c:=c) h1l
    have on2:=lin_on (q:=p) (c:=e) h1m
    have he:=lin_e p e q c
    have par:=lin_par h1l h1m
    have one:=ln_same h1l h1m
    rw [sy] at on2
    obtain ⟨R,hR⟩:∃ r,linQ p e q c=r:=⟨_,rfl⟩
    rw [hR] at fR sy on1 on2 he par
    have kR:linQ (p.1,p.2.1,p.2.2) e (q.1,q.2.1,q.2.2) c=R∧linQ (q.1,q.2.1,q.2.2) c (p.1,p.2.1,p.2.2) e=R:=⟨hR,sy⟩
    have i1:=smi (n:=1) (by decide) (by decide)
    obtain ⟨T,hT⟩:∃ zz,atQ p e ((1:Int):Rat)=zz:=⟨_,rfl⟩
    have fT:=atQ_fV fpl fel (fl_i64 (n:=1) (by decide) (by decide))
    rw [hT] at fT
    have kT:atQ (p.1,p.2.1,p.2.2) e ((1:Int):Rat)=T:=hT
    rw [hT] at one
    have B:=(⟨b16 fpl (by decide),b16 fpm (by decide),b16 fel (by decide),b16 fem (by decide),bw fpl (by decide),bw fpm (by decide),bw fel (by decide),bw fem (by decide),b22 fpl (by decide),b22 fpm (by decide),b22 fel (by decide),b22 fem (by decide),bw fR (by decide),hx,hy,hz,hu,hv,hw,hx',hy',hz',hu',hv',hw',h3,h4,hdl,hdm,kR⟩:_∧_∧_∧_∧_∧_∧_∧_∧_∧_∧_∧_∧_∧_∧_∧_∧_∧_∧_∧_∧_∧_∧_∧_∧_∧_∧_∧_∧_∧_)
    by_cases h5:(p,e)=(q,c)
    · have c1:decide ((((p.1,p.2.1,p.2.2),e):LN)=((q.1,q.2.1,q.2.2),c))=true:=decide_eq_true h5
      have c2:decide ((((q.1,q.2.1,q.2.2),c):LN)=((p.1,p.2.1,p.2.2),e))=true:=decide_eq_true h5.symm
      have o1:(plcQ (q.1,q.2.1,q.2.2) c (p.1,p.2.1,p.2.2)).2=true:=(one.1 h5).1
      have o2:(plcQ (q.1,q.2.1,q.2.2) c (T.1,T.2.1,T.2.2)).2=true:=(one.1 h5).2
      simp only [go_sem,B,hLl,hLm,i1,kT,bw fT (by decide),rl,c1,c2,o1,o2,par h5,h1',h2']
      exact .refl _
    have c1:decide ((((p.1,p.2.1,p.2.2),e):LN)=((q.1,q.2.1,q.2.2),c))=false:=decide_eq_false h5
    have c2:decide ((((q.1,q.2.1,q.2.2),c):LN)=((p.1,p.2.1,p.2.2),e))=false:=decide_eq_false fun h=>h5 h.symm
    rcases he with he|he
    · have o1:(plcQ (p.1,p.2.1,p.2.2) e (R.1.1,R.1.2.1,R.1.2.2)).2=true:=on1 he
      have o2:(plcQ (q.1,q.2.1,q.2.2) c (R.1.1,R.1.2.1,R.1.2.2)).2=true:=on2 he
      simp only [go_sem,B,hLl,hLm,rl,c1,c2,o1,o2,he,h1',h2']
      exact .refl _
    · have o3:¬ ((plcQ (q.1,q.2.1,q.2.2) c (p.1,p.2.1,p.2.2)).2=true∧(plcQ (q.1,q.2.1,q.2.2) c (T.1,T.2.1,T.2.2)).2=true):=fun h=>h5 (one.2 h)
      cases o1:(plcQ (q.1,q.2.1,q.2.2) c (p.1,p.2.1,p.2.2)).2
      · simp only [go_sem,B,hLl,hLm,i1,kT,bw fT (by decide),rl,c1,c2,o1,he,h1',h2']
        exact .refl _
      · have o2:(plcQ (q.1,q.2.1,q.2.2) c (T.1,T.2.1,T.2.2)).2=false:=by
         rw [o1] at o3; simpa using o3
        simp only [go_sem,B,hLl,hLm,i1,kT,bw fT (by decide),rl,c1,c2,o1,o2,he,h1',h2']
        exact .refl _
 by_cases h2:plO b1 b2 b3 b4=true
 case neg =>
  have h1':=eq_true h1
  have h2':=eq_false h2
  simp only [go_sem,l1,l2,l3,l4,k1,k2,k3,k4,h1',h2']
  by_cases h3:mdO x y z u v w=true
  case neg =>
   have h3':mdO x y z u v w=false:=by simpa using h3
   cases h4:mdO x' y' z' u' v' w'
   · simp only [go_sem,hx,hy,hz,hu,hv,hw,hx',hy',hz',hu',hv',hw',h3',h4,h1',h2']
     exact .refl _
   · simp only [go_sem,hx,hy,hz,hu,hv,hw,hx',hy',hz',hu',hv',hw',h3',h4,h1',h2']
     exact .refl _
  by_cases h4:mdO x' y' z' u' v' w'=true
  case neg =>
   have h4':mdO x' y' z' u' v' w'=false:=by simpa using h4
   simp only [go_sem,hx,hy,hz,hu,hv,hw,hx',hy',hz',hu',hv',hw',h3,h4',h1',h2']
   exact .refl _
  obtain ⟨p,e,hLl,hYl,h1l,fpl,fel⟩:=mdO_t h3
  have hdl:ldr (e.1,e.2.1,e.2.2)=e:=ldr_nz h1l.nz
  obtain ⟨q,c,hLm,hYm,h1m,fpm,fem⟩:=mdO_t h4
  have hdm:ldr (c.1,c.2.1,c.2.2)=c:=ldr_nz h1m.nz
  have fR:=linQ_fV fpl fel fpm fem
  have sy:=linQ_sym p e q c
  have on1:=lin_on (q:=q) (c:=c) h1l
  have on2:=lin_on (q:=p) (c:=e) h1m
  have he:=lin_e p e q c
  have par:=lin_par h1l h1m
  have one:=ln_same h1l h1m
  rw [sy] at on2
  obtain ⟨R,hR⟩:∃ r,linQ p e q c=r:=⟨_,rfl⟩
  rw [hR] at fR sy on1 on2 he par
  have kR:linQ (p.1,p.2.1,p.2.2) e (q.1,q.2.1,q.2.2) c=R∧linQ (q.1,q.2.1,q.2.2) c (p.1,p.2.1,p.2.2) e=R:=⟨hR,sy⟩
  have i1:=smi (n:=1) (by decide) (by decide)
  obtain ⟨T,hT⟩:∃ zz,atQ p e ((1:Int):Rat)=zz:=⟨_,rfl⟩
  have fT:=atQ_fV fpl fel (fl_i64 (n:=1) (by decide) (by decide))
  rw [hT] at fT
  have kT:atQ (p.1,p.2.1,p.2.2) e ((1:Int):Rat)=T:=hT
  rw [hT] at one
  have B:=(⟨b16 fpl (by decide),b16 fpm (by decide),b16 fel (by decide),b16 fem (by decide),bw fpl (by decide),bw fpm (by decide),bw fel (by decide),bw fem (by decide),b22 fpl (by decide),b22 fpm (by decide),b22 fel (by decide),b22 fem (by decide),bw fR (by decide),hx,hy,hz,hu,hv,hw,hx',hy',hz',hu',hv',hw',h3,h4,hdl,hdm,kR⟩:_∧_∧_∧_∧_∧_∧_∧_∧_∧_∧_∧_∧_∧_∧_∧_∧_∧_∧_∧_∧_∧_∧_∧_∧_∧_∧_∧_∧_∧_)
  by_cases h5:(p,e)=(q,c)
  · have c1:decide ((((p.1,p.2.1,p.2.2),e):LN)=((q.1,q.2.1,q.2.2),c))=true:=decide_eq_true h5
    have c2:decide ((((q.1,q.2.1,q.2.2),c):LN)=((p.1,p.2.1,p.2.2),e))=true:=decide_eq_true h5.symm
    have o1:(plcQ (q.1,q.2.1,q.2.2) c (p.1,p.2.1,p.2.2)).2=true:=(one.1 h5).1
    have o2:(plcQ (q.1,q.2.1,q.2.2) c (T.1,T.2.1,T.2.2)).2=true:=(one.1 h5).2
    simp only [go_sem,B,hLl,hLm,i1,kT,bw fT (by decide),rl,c1,c2,o1,o2,par h5,h1',h2']
    exact .refl _
  have c1:decide ((((p.1,p.2.1,p.2.2),e):LN)=((q.1,q.2.1,q.2.2),c))=false:=decide_eq_false h5
  have c2:decide ((((q.1,q.2.1,q.2.2),c):LN)=((p.1,p.2.1,p.2.2),e))=false:=decide_eq_false fun h=>h5 h.symm
  rcases he with he|he
  · have o1:(plcQ (p.1,p.2.1,p.2.2) e (R.1.1,R.1.2.1,R.1.2.2)).2=true:=on1 he
    have o2:(plcQ (q.1,q.2.1,q.2.2) c (R.1.1,R.1.2.1,R.1.2.2)).2=true:=on2 he
    simp only [go_sem,B,hLl,hLm,rl,c1,c2,o1,o2,he,h1',h2']
    exact .refl _
  · have o3:¬ ((plcQ (q.1,q.2.1,q.2.2) c (p.1,p.2.1,p.2.2)).2=true∧(plcQ (q.1,q.2.1,q.2.2) c (T.1,T.2.1,T.2.2)).2=true):=fun h=>h5 (one.2 h)
    cases o1:(plcQ (q.1,q.2.1,q.2.2) c (p.1,p.2.1,p.2.2)).2
    · simp only [go_sem,B,hLl,hLm,i1,kT,bw fT (by decide),rl,c1,c2,o1,he,h1',h2']
      exact .refl _
    · have o2:(plcQ (q.1,q.2.1,q.2.2) c (T.1,T.2.1,T.2.2)).2=false:=by
       rw [o1] at o3; simpa using o3
      simp only [go_sem,B,hLl,hLm,i1,kT,bw fT (by decide),rl,c1,c2,o1,o2,he,h1',h2']
      exact .refl _
 obtain ⟨a,hca,hna,hfa⟩:=plO_t h1
 have hoa:(plO a1 a2 a3 a4=true)=True:=eq_true h1
 have fna:fV (nP a) 8192:=⟨hfa.1,hfa.2.1,hfa.2.2.1⟩
 have hpa:=pnr_n hna
 obtain ⟨b,hcb,hnb,hfb⟩:=plO_t h2
 have hob:(plO b1 b2 b3 b4=true)=True:=eq_true h2
 have fnb:fV (nP b) 8192:=⟨hfb.1,hfb.2.1,hfb.2.2.1⟩
 have hpb:=pnr_n hnb
 have f1:=mtQ_fV fna fnb hfa.2.2.2 hfb.2.2.2 (by decide)
 have s1:=mtQ_sym (nP a) (nP b) a.2.2.2 b.2.2.2
 have ba:(fl a.1≤8192∧fl a.2.1≤8192∧fl a.2.2.1≤8192∧fl a.2.2.2≤8192)∧(fl a.1≤16777216∧fl a.2.1≤16777216∧fl a.2.2.1≤16777216∧fl a.2.2.2≤16777216):=⟨hfa,Nat.le_trans hfa.1 (by decide),Nat.le_trans hfa.2.1 (by decide),Nat.le_trans hfa.2.2.1 (by decide),Nat.le_trans hfa.2.2.2 (by decide)⟩
 have bb:(fl b.1≤8192∧fl b.2.1≤8192∧fl b.2.2.1≤8192∧fl b.2.2.2≤8192)∧(fl b.1≤16777216∧fl b.2.1≤16777216∧fl b.2.2.1≤16777216∧fl b.2.2.2≤16777216):=⟨hfb,Nat.le_trans hfb.1 (by decide),Nat.le_trans hfb.2.1 (by decide),Nat.le_trans hfb.2.2.1 (by decide),Nat.le_trans hfb.2.2.2 (by decide)⟩
 by_cases h0:vcq (nP a) (nP b)=v0
 · have m1:mtQ (nP a) (nP b) a.2.2.2 b.2.2.2=((v0,v0),60):=if_pos h0
   rw [m1] at s1
   have h0':=decide_eq_true h0
   simp only [go_sem,l1,l2,l3,l4,k1,k2,k3,k4,hoa,hob,hca,hcb,hpa,hpb,ba,bb,m1,s1,h0',beq_s,bne_s,bne_self_eq_false]
   by_cases h3:mdO x y z u v w=true
   case neg =>
    have h3':mdO x y z u v w=false:=by simpa using h3
    cases h4:mdO x' y' z' u' v' w'
    · simp only [go_sem,hx,hy,hz,hu,hv,hw,hx',hy',hz',hu',hv',hw',h3',h4,h0']
      exact .refl _
    · simp only [go_sem,hx,hy,hz,hu,hv,hw,hx',hy',hz',hu',hv',hw',h3',h4,h0']
      exact .refl _
   by_cases h4:mdO x' y' z' u' v' w'=true
   case neg =>
    have h4':mdO x' y' z' u' v' w'=false:=by simpa using h4
    simp only [go_sem,hx,hy,hz,hu,hv,hw,hx',hy',hz',hu',hv',hw',h3,h4',h0']
    exact .refl _
   obtain ⟨p,e,hLl,hYl,h1l,fpl,fel⟩:=mdO_t h3
   have hdl:ldr (e.1,e.2.1,e.2.2)=e:=ldr_nz h1l.nz
   obtain ⟨q,c,hLm,hYm,h1m,fpm,fem⟩:=mdO_t h4
   have hdm:ldr (c.1,c.2.1,c.2.2)=c:=ldr_nz h1m.nz
   have fR:=linQ_fV fpl fel fpm fem
   have sy:=linQ_sym p e q c
   have on1:=lin_on (q:=q) (c:=c) h1l
   have on2:=lin_on (q:=p) (c:=e) h1m
   have he:=lin_e p e q c
   have par:=lin_par h1l h1m
   have one:=ln_same h1l h1m
   rw [sy] at on2
   obtain ⟨R,hR⟩:∃ r,linQ p e q c=r:=⟨_,rfl⟩
   rw [hR] at fR sy on1 on2 he par
   have kR:linQ (p.1,p.2.1,p.2.2) e (q.1,q.2.1,q.2.2) c=R∧linQ (q.1,q.2.1,q.2.2) c (p.1,p.2.1,p.2.2) e=R:=⟨hR,sy⟩
   have i1:=smi (n:=1) (by decide) (by decide)
   obtain ⟨T,hT⟩:∃ zz,atQ p e ((1:Int):Rat)=zz:=⟨_,rfl⟩
   have fT:=atQ_fV fpl fel (fl_i64 (n:=1) (by decide) (by decide))
   rw [hT] at fT
   have kT:atQ (p.1,p.2.1,p.2.2) e ((1:Int):Rat)=T:=hT
   rw [hT] at one
   have B:=(⟨b16 fpl (by decide),b16 fpm (by decide),b16 fel (by decide),b16 fem (by decide),bw fpl (by decide),bw fpm (by decide),bw fel (by decide),bw fem (by decide),b22 fpl (by decide),b22 fpm (by decide),b22 fel (by decide),b22 fem (by decide),bw fR (by decide),hx,hy,hz,hu,hv,hw,hx',hy',hz',hu',hv',hw',h3,h4,hdl,hdm,kR⟩:_∧_∧_∧_∧_∧_∧_∧_∧_∧_∧_∧_∧_∧_∧_∧_∧_∧_∧_∧_∧_∧_∧_∧_∧_∧_∧_∧_∧_∧_)
   by_cases h5:(p,e)=(q,c)
   · have c1:decide ((((p.1,p.2.1,p.2.2),e):LN)=((q.1,q.2.1,q.2.2),c))=true:=decide_eq_true h5
     have c2:decide ((((q.1,q.2.1,q.2.2),c):LN)=((p.1,p.2.1,p.2.2),e))=true:=decide_eq_true h5.symm
     have o1:(plcQ (q.1,q.2.1,q.2.2) c (p.1,p.2.1,p.2.2)).2=true:=(one.1 h5).1
     have o2:(plcQ (q.1,q.2.1,q.2.2) c (T.1,T.2.1,T.2.2)).2=true:=(one.1 h5).2
     simp only [go_sem,B,hLl,hLm,i1,kT,bw fT (by decide),rl,c1,c2,o1,o2,par h5,h0']
     exact .refl _
   have c1:decide ((((p.1,p.2.1,p.2.2),e):LN)=((q.1,q.2.1,q.2.2),c))=false:=decide_eq_false h5
   have c2:decide ((((q.1,q.2.1,q.2.2),c):LN)=((p.1,p.2.1,p.2.2),e))=false:=decide_eq_false fun h=>h5 h.symm
   rcases he with he|he
   · have o1:(plcQ (p.1,p.2.1,p.2.2) e (R.1.1,R.1.2.1,R.1.2.2)).2=true:=on1 he
     have o2:(plcQ (q.1,q.2.1,q.2.2) c (R.1.1,R.1.2.1,R.1.2.2)).2=true:=on2 he
     simp only [go_sem,B,hLl,hLm,rl,c1,c2,o1,o2,he,h0']
     exact .refl _
   · have o3:¬ ((plcQ (q.1,q.2.1,q.2.2) c (p.1,p.2.1,p.2.2)).2=true∧(plcQ (q.1,q.2.1,q.2.2) c (T.1,T.2.1,T.2.2)).2=true):=fun h=>h5 (one.2 h)
     cases o1:(plcQ (q.1,q.2.1,q.2.2) c (p.1,p.2.1,p.2.2)).2
     · simp only [go_sem,B,hLl,hLm,i1,kT,bw fT (by decide),rl,c1,c2,o1,he,h0']
       exact .refl _
     · have o2:(plcQ (q.1,q.2.1,q.2.2) c (T.1,T.2.1,T.2.2)).2=false:=by
        rw [o1] at o3; simpa using o3
       simp only [go_sem,B,hLl,hLm,i1,kT,bw fT (by decide),rl,c1,c2,o1,o2,he,h0']
       exact .refl _
 obtain ⟨Q,E,e0,hQ,i1,i2,i3,i4⟩:=mt_in (h:=a.2.2.2) (k:=b.2.2.2) h0
 have m1:mtQ (nP a) (nP b) a.2.2.2 b.2.2.2=((Q,E),0):=by unfold mtQ; rw [if_neg h0,e0]
 rw [m1] at s1 f1
 have h0':=decide_eq_false h0
 have hdE:ldr (E.1,E.2.1,E.2.2)=E:=ldr_nz hQ.nz
 have p1:plnQ (Q.1,Q.2.1,Q.2.2) E (nP a) a.2.2.2=(0,true,0):=pln_in i1 i3
 have p2:plnQ (Q.1,Q.2.1,Q.2.2) E (nP b) b.2.2.2=(0,true,0):=pln_in i2 i4
 have i7:=smi (n:=7) (by decide) (by decide)
 have hT7:vdt (nP a) (atQ Q E ((7:Int):Rat))=a.2.2.2:=by
  rw [atQ_eq,← i3]
  have:vdt (nP a) (vad Q (vsc ((7:Int):Rat) E))=vdt (nP a) Q+((7:Int):Rat)*vdt (nP a) E:=by unfold vdt vad vsc; simp only []; grind
  rw [this,i1]; grind
 obtain ⟨U,hU⟩:∃ zz,atQ Q E ((7:Int):Rat)=zz:=⟨_,rfl⟩
 have fU:=atQ_fV f1.1 f1.2 (fl_i64 (n:=7) (by decide) (by decide))
 rw [hU] at fU
 have kU:atQ (Q.1,Q.2.1,Q.2.2) E ((7:Int):Rat)=U:=hU
 rw [hU] at hT7
 have v1:patV (a.1,a.2.1,a.2.2.1,a.2.2.2) (U.1,U.2.1,U.2.2)=0:=patV_0 hna hT7
 have v2:patV (b.1,b.2.1,b.2.2.1,b.2.2.2) (Q.1,Q.2.1,Q.2.2)=0:=patV_0 hnb i4
 have cc:cmpL ((Q.1,Q.2.1,Q.2.2),E) ((Q.1,Q.2.1,Q.2.2),E)=0:=cmpL_0.2 rfl
 simp only [go_sem,l1,l2,l3,l4,k1,k2,k3,k4,hoa,hob,hca,hcb,hpa,hpb,ba,bb,m1,s1,h0',hdE,p1,p2,i7,kU,v1,v2,cc,bw f1.1 (by decide),bw f1.2 (by decide),bt fU (by decide),cmpQ_self,beq_s,bne_s,bne_self_eq_false]
 by_cases h3:mdO x y z u v w=true
 case neg =>
  have h3':mdO x y z u v w=false:=by simpa using h3
  cases h4:mdO x' y' z' u' v' w'
  · simp only [go_sem,hx,hy,hz,hu,hv,hw,hx',hy',hz',hu',hv',hw',h3',h4,h0']
    exact .refl _
  · simp only [go_sem,hx,hy,hz,hu,hv,hw,hx',hy',hz',hu',hv',hw',h3',h4,h0']
    exact .refl _
 by_cases h4:mdO x' y' z' u' v' w'=true
 case neg =>
  have h4':mdO x' y' z' u' v' w'=false:=by simpa using h4
  simp only [go_sem,hx,hy,hz,hu,hv,hw,hx',hy',hz',hu',hv',hw',h3,h4',h0']
  exact .refl _
 obtain ⟨p,e,hLl,hYl,h1l,fpl,fel⟩:=mdO_t h3
 have hdl:ldr (e.1,e.2.1,e.2.2)=e:=ldr_nz h1l.nz
 obtain ⟨q,c,hLm,hYm,h1m,fpm,fem⟩:=mdO_t h4
 have hdm:ldr (c.1,c.2.1,c.2.2)=c:=ldr_nz h1m.nz
 have fR:=linQ_fV fpl fel fpm fem
 have sy:=linQ_sym p e q c
 have on1:=lin_on (q:=q) (c:=c) h1l
 have on2:=lin_on (q:=p) (c:=e) h1m
 have he:=lin_e p e q c
 have par:=lin_par h1l h1m
 have one:=ln_same h1l h1m
 rw [sy] at on2
 obtain ⟨R,hR⟩:∃ r,linQ p e q c=r:=⟨_,rfl⟩
 rw [hR] at fR sy on1 on2 he par
 have kR:linQ (p.1,p.2.1,p.2.2) e (q.1,q.2.1,q.2.2) c=R∧linQ (q.1,q.2.1,q.2.2) c (p.1,p.2.1,p.2.2) e=R:=⟨hR,sy⟩
 have i1:=smi (n:=1) (by decide) (by decide)
 obtain ⟨T,hT⟩:∃ zz,atQ p e ((1:Int):Rat)=zz:=⟨_,rfl⟩
 have fT:=atQ_fV fpl fel (fl_i64 (n:=1) (by decide) (by decide))
 rw [hT] at fT
 have kT:atQ (p.1,p.2.1,p.2.2) e ((1:Int):Rat)=T:=hT
 rw [hT] at one
 have B:=(⟨b16 fpl (by decide),b16 fpm (by decide),b16 fel (by decide),b16 fem (by decide),bw fpl (by decide),bw fpm (by decide),bw fel (by decide),bw fem (by decide),b22 fpl (by decide),b22 fpm (by decide),b22 fel (by decide),b22 fem (by decide),bw fR (by decide),hx,hy,hz,hu,hv,hw,hx',hy',hz',hu',hv',hw',h3,h4,hdl,hdm,kR⟩:_∧_∧_∧_∧_∧_∧_∧_∧_∧_∧_∧_∧_∧_∧_∧_∧_∧_∧_∧_∧_∧_∧_∧_∧_∧_∧_∧_∧_∧_)
 by_cases h5:(p,e)=(q,c)
 · have c1:decide ((((p.1,p.2.1,p.2.2),e):LN)=((q.1,q.2.1,q.2.2),c))=true:=decide_eq_true h5
   have c2:decide ((((q.1,q.2.1,q.2.2),c):LN)=((p.1,p.2.1,p.2.2),e))=true:=decide_eq_true h5.symm
   have o1:(plcQ (q.1,q.2.1,q.2.2) c (p.1,p.2.1,p.2.2)).2=true:=(one.1 h5).1
   have o2:(plcQ (q.1,q.2.1,q.2.2) c (T.1,T.2.1,T.2.2)).2=true:=(one.1 h5).2
   simp only [go_sem,B,hLl,hLm,i1,kT,bw fT (by decide),rl,c1,c2,o1,o2,par h5,h0']
   exact .refl _
 have c1:decide ((((p.1,p.2.1,p.2.2),e):LN)=((q.1,q.2.1,q.2.2),c))=false:=decide_eq_false h5
 have c2:decide ((((q.1,q.2.1,q.2.2),c):LN)=((p.1,p.2.1,p.2.2),e))=false:=decide_eq_false fun h=>h5 h.symm
 rcases he with he|he
 · have o1:(plcQ (p.1,p.2.1,p.2.2) e (R.1.1,R.1.2.1,R.1.2.2)).2=true:=on1 he
   have o2:(plcQ (q.1,q.2.1,q.2.2) c (R.1.1,R.1.2.1,R.1.2.2)).2=true:=on2 he
   simp only [go_sem,B,hLl,hLm,rl,c1,c2,o1,o2,he,h0']
   exact .refl _
 · have o3:¬ ((plcQ (q.1,q.2.1,q.2.2) c (p.1,p.2.1,p.2.2)).2=true∧(plcQ (q.1,q.2.1,q.2.2) c (T.1,T.2.1,T.2.2)).2=true):=fun h=>h5 (one.2 h)
   cases o1:(plcQ (q.1,q.2.1,q.2.2) c (p.1,p.2.1,p.2.2)).2
   · simp only [go_sem,B,hLl,hLm,i1,kT,bw fT (by decide),rl,c1,c2,o1,he,h0']
     exact .refl _
   · have o2:(plcQ (q.1,q.2.1,q.2.2) c (T.1,T.2.1,T.2.2)).2=false:=by
      rw [o1] at o3; simpa using o3
     simp only [go_sem,B,hLl,hLm,i1,kT,bw fT (by decide),rl,c1,c2,o1,o2,he,h0']
     exact .refl _
end Go.Proofs.YtmahhmdeocnlgaaGreatDoor.AM
