/- The laws of lines: places; one form. -/
import Derived.Test.YtmahhmdeocnlgaaGreatDoorHa
namespace Go.Proofs.YtmahhmdeocnlgaaGreatDoor.AM
set_option linter.all false
set_option autoImplicit true
set_option relaxedAutoImplicit true
open Go Go.Proofs
set_option maxRecDepth 100000
set_option maxHeartbeats 8000000
set_option linter.unusedSimpArgs false
variable {P:Program}
theorem LineOne_spec (hP:PrgOk P) (L:List ByteArray) (hl:L.length=6) (hs:∀ s ∈ L,s.size≤maxS) (x' y' z':ByteArray) (hx':x'.size≤maxS) (hy':y'.size≤maxS) (hz':z'.size≤maxS) :
 CSpec P 5 [.agg (L.map .str),.agg [.str x',.str y',.str z']] (.bool true):=by
 obtain ⟨x,y,z,u,v,w,rfl,hx,hy,hz,hu,hv,hw⟩:=six hl hs
 have lx:=len_s hx'
 have ly:=len_s hy'
 have lz:=len_s hz'
 have HE:=Lx7_all hP TF hP.tF
 simp only [List.map_cons,List.map_nil]
 refine CSpec_go (E:=⟨TF,Lx7⟩) (fn5 hP) HE hP.mix ?_
 cases h1:mdO x y z u v w
 · simp only [go_sem,hx,hy,hz,hu,hv,hw,lx,ly,lz,h1]
   exact .refl _
 cases h2:okM x' y' z'
 · simp only [go_sem,hx,hy,hz,hu,hv,hw,lx,ly,lz,h1,h2]
   exact .refl _
 have fq:=ptV_fl x' y' z'
 obtain ⟨q,hq⟩:∃ q,ptV x' y' z'=q:=⟨_,rfl⟩
 rw [hq] at fq
 obtain ⟨p,e,hLl,hYl,h1l,fpl,fel⟩:=mdO_t h1
 have hdl:ldr (e.1,e.2.1,e.2.2)=e:=ldr_nz h1l.nz
 have i2:=smi (n:=-2) (by decide) (by decide)
 obtain ⟨A,hA⟩:∃ zz,atQ p e q.1=zz:=⟨_,rfl⟩
 have fA:=atQ_fV fpl fel fq.1
 rw [hA] at fA
 obtain ⟨B,hB⟩:∃ zz,atQ p e q.2.1=zz:=⟨_,rfl⟩
 have fB:=atQ_fV fpl fel fq.2.1
 rw [hB] at fB
 have kA:atQ (p.1,p.2.1,p.2.2) e q.1=A:=hA
 have kB:atQ (p.1,p.2.1,p.2.2) e q.2.1=B:=hB
 have kt:plcQ (p.1,p.2.1,p.2.2) e (A.1,A.2.1,A.2.2)=(q.1,true):=by rw [← hA]; exact plc_at h1l _
 have kd:qdt (p.1,p.2.1,p.2.2) (e.1,e.2.1,e.2.2)=0:=by rw [qdt_vdt]; exact h1l.dot
 have kc:cmpL ((p.1,p.2.1,p.2.2),e) ((p.1,p.2.1,p.2.2),e)=0:=cmpL_0.2 rfl
 have f0:=sm (fl_zero 4095)
 have s1:=sm (Nat.le_trans fq.1 (by decide))
 have s2:=sm (Nat.le_trans fq.2.1 (by decide))
 have s3:=sm (Nat.le_trans fq.2.2 (by decide))
 have main:∀ k:Rat,k ≠ 0→lnM (A.1,A.2.1,A.2.2) (qmul k e.1,qmul k e.2.1,qmul k e.2.2)=(p,e)∧lnE (qmul k e.1,qmul k e.2.1,qmul k e.2.2)=0:=fun k hk=>by
  have e1:(qmul k e.1,qmul k e.2.1,qmul k e.2.2)=vsc k e:=vscq_vsc k e
  rw [e1]
  refine ⟨?_,if_neg (vsc_nz hk h1l.nz)⟩
  have:=lnM_any h1l hk q.1
  rw [← atQ_eq,hA] at this
  exact this
 have fk:∀ k:Rat,fl k≤1024→fV (qmul k e.1,qmul k e.2.1,qmul k e.2.2) 1048576:=fun k hk=>fV_mono (vscq_fV hk fel) (by decide)
 by_cases h3:q.2.2=0
 · have h3':=decide_eq_true h3
   have hk0:((-2:Int):Rat) ≠ 0:=by decide +kernel
   have fk0:fl ((-2:Int):Rat)≤1024:=Nat.le_trans (fl_i64 (by decide) (by decide)) (by decide)
   obtain ⟨m1,m2⟩:=main ((-2:Int):Rat) hk0
   have m3:=fk ((-2:Int):Rat) fk0
   have m4:=bm m3 (by decide)
   simp only [] at m4
   by_cases h4:q.1=q.2.1
   · have h4':=decide_eq_true h4
     have n2:lnE (vsbq (B.1,B.2.1,B.2.2) (A.1,A.2.1,A.2.2))=2:=by
      refine if_pos ?_
      have:vsbq B A=vsc (q.2.1-q.1) e:=by rw [← hA,← hB]; exact at_at p e _ _
      rw [show vsbq (B.1,B.2.1,B.2.2) (A.1,A.2.1,A.2.2)=vsbq B A from rfl,this,h4,show q.2.1-q.2.1=0 by grind,vsc_z]
     simp only [go_sem,h3',hx,hy,hz,hu,hv,hw,lx,ly,lz,h1,h2,hq,hLl,hdl,kA,kB,kt,kd,kc,f0,s1,s2,s3,i2,bw fpl (by decide),bw fel (by decide),b22 fpl (by decide),b22 fel (by decide),bw fA (by decide),bw fB (by decide),bm fA (by decide),b18 fA (by decide),b18 fB (by decide),cmpQ_z,cmpQ_self,h4',m1,m2,m4,n2,bne_s,beq_s,decide_true]
     exact .refl _
   · have h4':=decide_eq_false h4
     have hne:q.2.1-q.1 ≠ 0:=fun h=>h4 (by grind)
     have e5:vsbq B A=vsc (q.2.1-q.1) e:=by rw [← hA,← hB]; exact at_at p e _ _
     have n2:lnE (vsbq (B.1,B.2.1,B.2.2) (A.1,A.2.1,A.2.2))=0:=by
      refine if_neg ?_
      rw [show vsbq (B.1,B.2.1,B.2.2) (A.1,A.2.1,A.2.2)=vsbq B A from rfl,e5]
      exact vsc_nz hne h1l.nz
     have n1:lnM (A.1,A.2.1,A.2.2) (vsbq (B.1,B.2.1,B.2.2) (A.1,A.2.1,A.2.2))=(p,e):=by
      rw [show vsbq (B.1,B.2.1,B.2.2) (A.1,A.2.1,A.2.2)=vsbq B A from rfl,e5]
      have:=lnM_any h1l hne q.1
      rw [← atQ_eq,hA] at this
      exact this
     simp only [go_sem,h3',hx,hy,hz,hu,hv,hw,lx,ly,lz,h1,h2,hq,hLl,hdl,kA,kB,kt,kd,kc,f0,s1,s2,s3,i2,bw fpl (by decide),bw fel (by decide),b22 fpl (by decide),b22 fel (by decide),bw fA (by decide),bw fB (by decide),bm fA (by decide),b18 fA (by decide),b18 fB (by decide),cmpQ_z,cmpQ_self,h4',m1,m2,m4,n1,n2,bne_s,beq_s,decide_true]
     exact .refl _
 · have h3':=decide_eq_false h3
   have hk0:=h3
   have fk0:=fq.2.2
   obtain ⟨m1,m2⟩:=main q.2.2 hk0
   have m3:=fk q.2.2 fk0
   have m4:=bm m3 (by decide)
   simp only [] at m4
   by_cases h4:q.1=q.2.1
   · have h4':=decide_eq_true h4
     have n2:lnE (vsbq (B.1,B.2.1,B.2.2) (A.1,A.2.1,A.2.2))=2:=by
      refine if_pos ?_
      have:vsbq B A=vsc (q.2.1-q.1) e:=by rw [← hA,← hB]; exact at_at p e _ _
      rw [show vsbq (B.1,B.2.1,B.2.2) (A.1,A.2.1,A.2.2)=vsbq B A from rfl,this,h4,show q.2.1-q.2.1=0 by grind,vsc_z]
     simp only [go_sem,h3',hx,hy,hz,hu,hv,hw,lx,ly,lz,h1,h2,hq,hLl,hdl,kA,kB,kt,kd,kc,f0,s1,s2,s3,i2,bw fpl (by decide),bw fel (by decide),b22 fpl (by decide),b22 fel (by decide),bw fA (by decide),bw fB (by decide),bm fA (by decide),b18 fA (by decide),b18 fB (by decide),cmpQ_z,cmpQ_self,h4',m1,m2,m4,n2,bne_s,beq_s,decide_true]
     exact .refl _
   · have h4':=decide_eq_false h4
     have hne:q.2.1-q.1 ≠ 0:=fun h=>h4 (by grind)
     have e5:vsbq B A=vsc (q.2.1-q.1) e:=by rw [← hA,← hB]; exact at_at p e _ _
     have n2:lnE (vsbq (B.1,B.2.1,B.2.2) (A.1,A.2.1,A.2.2))=0:=by
      refine if_neg ?_
      rw [show vsbq (B.1,B.2.1,B.2.2) (A.1,A.2.1,A.2.2)=vsbq B A from rfl,e5]
      exact vsc_nz hne h1l.nz
     have n1:lnM (A.1,A.2.1,A.2.2) (vsbq (B.1,B.2.1,B.2.2) (A.1,A.2.1,A.2.2))=(p,e):=by
      rw [show vsbq (B.1,B.2.1,B.2.2) (A.1,A.2.1,A.2.2)=vsbq B A from rfl,e5]
      have:=lnM_any h1l hne q.1
      rw [← atQ_eq,hA] at this
      exact this
     simp only [go_sem,h3',hx,hy,hz,hu,hv,hw,lx,ly,lz,h1,h2,hq,hLl,hdl,kA,kB,kt,kd,kc,f0,s1,s2,s3,i2,bw fpl (by decide),bw fel (by decide),b22 fpl (by decide),b22 fel (by decide),bw fA (by decide),bw fB (by decide),bm fA (by decide),b18 fA (by decide),b18 fB (by decide),cmpQ_z,cmpQ_self,h4',m1,m2,m4,n1,n2,bne_s,beq_s,decide_true]
     exact .refl _
end Go.Proofs.YtmahhmdeocnlgaaGreatDoor.AM
