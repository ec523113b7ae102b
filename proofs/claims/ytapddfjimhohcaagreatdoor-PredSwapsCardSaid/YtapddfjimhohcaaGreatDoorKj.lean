/- The laws of sides: turning, swaps. -/
import Derived.Test.YtapddfjimhohcaaGreatDoorKi
namespace Go.Proofs.YtapddfjimhohcaaGreatDoor.AM
set_option linter.all false
set_option autoImplicit true
set_option relaxedAutoImplicit true
open Go Go.Proofs
set_option maxRecDepth 100000
set_option maxHeartbeats 16000000
set_option linter.unusedSimpArgs false
variable {P:Program}
theorem crB_sym (a b c d:V3):crB b a c d=crB a b c d∧crB c d a b=crB a b c d∧crB d c b a=crB a b c d:=by
 exact ⟨Bool.eq_iff_iff.2 ((crB_iff ..).trans ((crE_1 a b c d).trans (crB_iff ..).symm)),Bool.eq_iff_iff.2 ((crB_iff ..).trans ((crE_2 a b c d).trans (crB_iff ..).symm)),Bool.eq_iff_iff.2 ((crB_iff ..).trans ((crE_3 a b c d).trans (crB_iff ..).symm))⟩
theorem mid_btw (a b:V3):Btw a (vscq qhf (vadq a b)) b:=by
 have h:=btw_mx (t:=1/2) (by decide +kernel) (by decide +kernel) a b
 have e:vad a (vsc (1/2) (vsb b a))=vscq qhf (vadq a b):=by
  rw [vscq_vsc,vadq_vad,show qhf=1/2 by unfold qhf; rw [qdiv_eq]; decide +kernel]
  unfold vad vsc vsb; refine v3_ext ?_ ?_ ?_<;>(simp only []; grind)
 rwa [e] at h
theorem PredSwaps_spec (hP:PrgOk P) (L:List ByteArray) (hL:L.length=15) (hs:∀ s ∈ L,s.size≤maxS):CSpec P 10 [.agg (L.map .str)] (.bool true):=by
 obtain ⟨s0,s1,s2,s3,s4,s5,s6,s7,s8,s9,s10,s11,s12,s13,s14,rfl,hl⟩:=fifteen hL hs
 have HE:=Ku1_all hP TF hP.tF
 simp only [List.map_cons,List.map_nil]
 have fa:=pt0_fV s0 s1 s2
 obtain ⟨a,ha⟩:∃ x,pt0 s0 s1 s2=x:=⟨_,rfl⟩
 rw [ha] at fa
 have fb:=pt1_fV s0 s1 s2 s3 s4 s5
 obtain ⟨b,hb⟩:∃ x,pt1 s0 s1 s2 s3 s4 s5=x:=⟨_,rfl⟩
 rw [hb] at fb
 have fc:=pt2_fV s0 s1 s2 s3 s4 s5 s6 s7 s8
 obtain ⟨c,hc⟩:∃ x,pt2 s0 s1 s2 s3 s4 s5 s6 s7 s8=x:=⟨_,rfl⟩
 rw [hc] at fc
 have fd:=pt3_fV s0 s1 s2 s3 s4 s5 s6 s7 s8 s9 s10 s11
 obtain ⟨d,hd⟩:∃ x,pt3 s0 s1 s2 s3 s4 s5 s6 s7 s8 s9 s10 s11=x:=⟨_,rfl⟩
 rw [hd] at fd
 have fe:=pt4_fV s0 s1 s2 s3 s4 s5 s6 s7 s8 s9 s10 s11 s12 s13 s14
 obtain ⟨e,he⟩:∃ x,pt4 s0 s1 s2 s3 s4 s5 s6 s7 s8 s9 s10 s11 s12 s13 s14=x:=⟨_,rfl⟩
 rw [he] at fe
 obtain ⟨ok,hok⟩:∃ x,ok5 s0 s1 s2 s3 s4 s5 s6 s7 s8 s9 s10 s11 s12 s13 s14=x:=⟨_,rfl⟩
 have hn:=(⟨ha,hb,hc,hd,he,hok⟩:_∧_∧_∧_∧_∧_)
 have B:=(⟨i40 fa (by decide),i40 fb (by decide),i40 fc (by decide),i40 fd (by decide),i40 fe (by decide),i16 fa (by decide),i16 fb (by decide),i16 fc (by decide),i16 fd (by decide),i16 fe (by decide),i52 fa (by decide),i52 fb (by decide),i52 fc (by decide),i52 fd (by decide),i52 fe (by decide),bf fa (by decide),bf fb (by decide),bf fc (by decide),bf fd (by decide),bf fe (by decide)⟩:_∧_∧_∧_∧_∧_∧_∧_∧_∧_∧_∧_∧_∧_∧_∧_∧_∧_∧_∧_)
 refine CSpec_go (E:=⟨TF,Ku1⟩) (fn10 hP) HE hP.mix ?_
 cases ok
 case false =>
  simp only [go_sem,hl,hn]
  exact .refl _
 obtain ⟨g,hg⟩:∃ zz,vadq a b=zz:=⟨_,rfl⟩
 have fg:=vadq_fV fa fb
 rw [hg] at fg
 obtain ⟨m,hm⟩:∃ zz,vscq qhf g=zz:=⟨_,rfl⟩
 have fm:=vscq_fV qhf_fl fg
 rw [hm] at fm
 obtain ⟨q,kq⟩:∃ q,crB a b c d=q:=⟨_,rfl⟩
 have y:=crB_sym a b c d
 rw [kq] at y
 have mb:crB a b m e=true:=crB_1 (.inl (by rw [← hm,← hg]; exact mid_btw a b))
 have k:=(⟨kq,y.1,y.2.1,y.2.2,mb⟩:crB (a.1,a.2.1,a.2.2) (b.1,b.2.1,b.2.2) (c.1,c.2.1,c.2.2) (d.1,d.2.1,d.2.2)=q∧crB (b.1,b.2.1,b.2.2) (a.1,a.2.1,a.2.2) (c.1,c.2.1,c.2.2) (d.1,d.2.1,d.2.2)=q∧crB (c.1,c.2.1,c.2.2) (d.1,d.2.1,d.2.2) (a.1,a.2.1,a.2.2) (b.1,b.2.1,b.2.2)=q∧crB (d.1,d.2.1,d.2.2) (c.1,c.2.1,c.2.2) (b.1,b.2.1,b.2.2) (a.1,a.2.1,a.2.2)=q∧crB (a.1,a.2.1,a.2.2) (b.1,b.2.1,b.2.2) (m.1,m.2.1,m.2.2) (e.1,e.2.1,e.2.2)=true)
 have M:=(⟨i40 fm (by decide),bx fa (by decide),bx fb (by decide),vadq_c hg,vscq_c hm⟩:_∧_∧_∧_∧_)
 obtain ⟨r,kr⟩:∃ r,btB a c b=r:=⟨_,rfl⟩
 have kr':btB (a.1,a.2.1,a.2.2) (c.1,c.2.1,c.2.2) (b.1,b.2.1,b.2.2)=r:=kr
 cases r
 case false =>
  simp only [go_sem,nw8,hl,hn,B,M,k,kr',rl8]
  exact .refl _
 have hq:q=true:=by rw [← kq]; exact crB_1 (.inl ((btB_iff ..).1 kr))
 subst hq
 simp only [go_sem,nw8,hl,hn,B,M,k,kr',rl8]
 exact .refl _
end Go.Proofs.YtapddfjimhohcaaGreatDoor.AM
