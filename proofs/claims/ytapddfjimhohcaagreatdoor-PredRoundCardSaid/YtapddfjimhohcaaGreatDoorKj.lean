/- The laws of sides: turning, swaps. -/
import Derived.Test.YtapddfjimhohcaaGreatDoorKi
namespace Go.Proofs.YtapddfjimhohcaaGreatDoor.AM
set_option linter.all false
set_option autoImplicit true
set_option relaxedAutoImplicit true
open Go Go.Proofs
set_option maxRecDepth 100000
set_option maxHeartbeats 16000000
set_option linter.unusedSimpArgs false
variable {P:Program}
theorem anE_3 (n f u v:V3):anE n f u v = -1∨anE n f u v=0∨anE n f u v=1:=by
 unfold anE anF
 split
 · simp
 · rcases hf01 n (flE n f) (flE n u) with h|h<;>rcases hf01 n (flE n f) (flE n v) with h'|h'<;>rw [h,h']<;>simp<;>rcases c3v (vdet n (flE n u) (flE n v)) with e|e|e<;>rw [e]<;>simp
theorem wnegA (n f u v:V3):IntKind.i64.wrap (0-anE n f u v) = -anE n f u v:=by rcases anE_3 n f u v with h|h|h<;>rw [h]<;>rfl
theorem PredRound_spec (hP:PrgOk P) (L:List ByteArray) (hL:L.length=15) (hs:∀ s ∈ L,s.size≤maxS):CSpec P 7 [.agg (L.map .str)] (.bool true):=by
 obtain ⟨s0,s1,s2,s3,s4,s5,s6,s7,s8,s9,s10,s11,s12,s13,s14,rfl,hl⟩:=fifteen hL hs
 have HE:=Ku1_all hP TF hP.tF
 simp only [List.map_cons,List.map_nil]
 have fa:=pt0_fV s0 s1 s2
 obtain ⟨a,ha⟩:∃ x,pt0 s0 s1 s2=x:=⟨_,rfl⟩
 rw [ha] at fa
 have fb:=pt1_fV s0 s1 s2 s3 s4 s5
 obtain ⟨b,hb⟩:∃ x,pt1 s0 s1 s2 s3 s4 s5=x:=⟨_,rfl⟩
 rw [hb] at fb
 have fc:=pt2_fV s0 s1 s2 s3 s4 s5 s6 s7 s8
 obtain ⟨c,hc⟩:∃ x,pt2 s0 s1 s2 s3 s4 s5 s6 s7 s8=x:=⟨_,rfl⟩
 rw [hc] at fc
 have fd:=pt3_fV s0 s1 s2 s3 s4 s5 s6 s7 s8 s9 s10 s11
 obtain ⟨d,hd⟩:∃ x,pt3 s0 s1 s2 s3 s4 s5 s6 s7 s8 s9 s10 s11=x:=⟨_,rfl⟩
 rw [hd] at fd
 have fe:=pt4_fV s0 s1 s2 s3 s4 s5 s6 s7 s8 s9 s10 s11 s12 s13 s14
 obtain ⟨e,he⟩:∃ x,pt4 s0 s1 s2 s3 s4 s5 s6 s7 s8 s9 s10 s11 s12 s13 s14=x:=⟨_,rfl⟩
 rw [he] at fe
 obtain ⟨ok,hok⟩:∃ x,ok5 s0 s1 s2 s3 s4 s5 s6 s7 s8 s9 s10 s11 s12 s13 s14=x:=⟨_,rfl⟩
 have hn:=(⟨ha,hb,hc,hd,he,hok⟩:_∧_∧_∧_∧_∧_)
 have B:=(⟨i40 fa (by decide),i40 fb (by decide),i40 fc (by decide),i40 fd (by decide),i40 fe (by decide),i16 fa (by decide),i16 fb (by decide),i16 fc (by decide),i16 fd (by decide),i16 fe (by decide),i52 fa (by decide),i52 fb (by decide),i52 fc (by decide),i52 fd (by decide),i52 fe (by decide),bf fa (by decide),bf fb (by decide),bf fc (by decide),bf fd (by decide),bf fe (by decide)⟩:_∧_∧_∧_∧_∧_∧_∧_∧_∧_∧_∧_∧_∧_∧_∧_∧_∧_∧_∧_)
 refine CSpec_go (E:=⟨TF,Ku1⟩) (fn7 hP) HE hP.mix ?_
 cases ok
 case false =>
  simp only [go_sem,hl,hn]
  exact .refl _
 obtain ⟨xb,hxb⟩:∃ zz,vcq a b=zz:=⟨_,rfl⟩
 have fxb:=vcq_fV fa fb
 rw [hxb] at fxb
 obtain ⟨xc,hxc⟩:∃ zz,vcq a c=zz:=⟨_,rfl⟩
 have fxc:=vcq_fV fa fc
 rw [hxc] at fxc
 obtain ⟨xd,hxd⟩:∃ zz,vcq a d=zz:=⟨_,rfl⟩
 have fxd:=vcq_fV fa fd
 rw [hxd] at fxd
 obtain ⟨xe,hxe⟩:∃ zz,vcq a e=zz:=⟨_,rfl⟩
 have fxe:=vcq_fV fa fe
 rw [hxe] at fxe
 have xz:decide (((xb.1,xb.2.1,xb.2.2):V3)=v0)=decide (xb=v0)∧decide (((xc.1,xc.2.1,xc.2.2):V3)=v0)=decide (xc=v0)∧decide (((xd.1,xd.2.1,xd.2.2):V3)=v0)=decide (xd=v0)∧decide (((xe.1,xe.2.1,xe.2.2):V3)=v0)=decide (xe=v0):=⟨rfl,rfl,rfl,rfl⟩
 have X:=(⟨bx fa (by decide),bx fb (by decide),bx fc (by decide),bx fd (by decide),bx fe (by decide),vcq_c hxb,vcq_c hxc,vcq_c hxd,vcq_c hxe,bf fxb (by decide),bf fxc (by decide),bf fxd (by decide),bf fxe (by decide),xz⟩:_∧_∧_∧_∧_∧_∧_∧_∧_∧_∧_∧_∧_∧_)
 obtain ⟨uv,huv⟩:∃ z,anE a b c d=z:=⟨_,rfl⟩
 obtain ⟨vw,hvw⟩:∃ z,anE a b d e=z:=⟨_,rfl⟩
 obtain ⟨uw,huw⟩:∃ z,anE a b c e=z:=⟨_,rfl⟩
 have k1:anE (a.1,a.2.1,a.2.2) (b.1,b.2.1,b.2.2) (c.1,c.2.1,c.2.2) (d.1,d.2.1,d.2.2)=uv∧anE (a.1,a.2.1,a.2.2) (b.1,b.2.1,b.2.2) (d.1,d.2.1,d.2.2) (e.1,e.2.1,e.2.2)=vw∧anE (a.1,a.2.1,a.2.2) (b.1,b.2.1,b.2.2) (c.1,c.2.1,c.2.2) (e.1,e.2.1,e.2.2)=uw∧anE (a.1,a.2.1,a.2.2) (b.1,b.2.1,b.2.2) (d.1,d.2.1,d.2.2) (c.1,c.2.1,c.2.2) = -uv∧IntKind.i64.wrap (0-uv) = -uv:=⟨huv,hvw,huw,by rw [← huv]; exact anE_sym a b c d,by rw [← huv]; exact wnegA a b c d⟩
 simp only [go_sem,nw8,hl,hn,B,X,k1,rl8]
 refine trN_once HE hP.mix 163 1000 ?_
 by_cases nb:xb=v0
 · have z:=decide_eq_true nb
   simp only [go_sem,nw8,hl,hn,B,X,z]
   exact .refl _
 have zb:=decide_eq_false nb
 simp only [go_sem,nw8,hl,hn,B,X,zb]
 refine goN_once HE hP.mix 163 ?_
 by_cases nc:xc=v0
 · have z:=decide_eq_true nc
   simp only [go_sem,nw8,hl,hn,B,X,z]
   exact .refl _
 have zc:=decide_eq_false nc
 simp only [go_sem,nw8,hl,hn,B,X,zc]
 refine goN_once HE hP.mix 163 ?_
 by_cases nd:xd=v0
 · have z:=decide_eq_true nd
   simp only [go_sem,nw8,hl,hn,B,X,z]
   exact .refl _
 have zd:=decide_eq_false nd
 simp only [go_sem,nw8,hl,hn,B,X,zd]
 refine goN_once HE hP.mix 163 ?_
 by_cases ne:xe=v0
 · have z:=decide_eq_true ne
   simp only [go_sem,nw8,hl,hn,B,X,z]
   exact .refl _
 have ze:=decide_eq_false ne
 simp only [go_sem,nw8,hl,hn,B,X,ze]
 refine goN_once HE hP.mix 163 ?_
 have wb:vcr a b ≠ v0:=fun h=>nb (by rw [← hxb,vcq_vcr,h])
 have wc:vcr a c ≠ v0:=fun h=>nc (by rw [← hxc,vcq_vcr,h])
 have wd:vcr a d ≠ v0:=fun h=>nd (by rw [← hxd,vcq_vcr,h])
 have we:vcr a e ≠ v0:=fun h=>ne (by rw [← hxe,vcq_vcr,h])
 obtain ⟨p1,p2⟩:=anE_f wb wc
 obtain ⟨p3,p4⟩:=anE_f wb wd
 obtain ⟨fu,hfu⟩:∃ z,anE a b b c=z:=⟨_,rfl⟩
 obtain ⟨fv,hfv⟩:∃ z,anE a b b d=z:=⟨_,rfl⟩
 rw [hfu] at p1
 rw [hfv] at p3
 obtain ⟨g,hg⟩:∃ zz,vscq ((2:Int):Rat) c=zz:=⟨_,rfl⟩
 have fg:=vscq_fV (fl_i64 (n:=2) (by decide) (by decide)) fc
 rw [hg] at fg
 obtain ⟨t,ht⟩:∃ zz,vadq g a=zz:=⟨_,rfl⟩
 have ft:=vadq_fV fg fa
 rw [ht] at ft
 obtain ⟨o,ho⟩:∃ zz,vscq ((5:Int):Rat) a=zz:=⟨_,rfl⟩
 have fo:=vscq_fV (fl_i64 (n:=5) (by decide) (by decide)) fa
 rw [ho] at fo
 have ht2:anE a b c t=0:=by rw [← ht,← hg,vadq_vad,vscq_vsc]; exact anE_dup wb wc
 have ho2:anE o b c d=uv:=by rw [← ho,vscq_vsc,← huv]; exact anE_k (by decide +kernel) wb wc wd
 obtain ⟨m,hm⟩:∃ z:V3,(qneg a.1,qneg a.2.1,qneg a.2.2)=z:=⟨_,rfl⟩
 have fm:fV m 1024:=by rw [← hm]; exact ⟨fl_qneg fa.1,fl_qneg fa.2.1,fl_qneg fa.2.2⟩
 have hm1:vsc (-1) a=m:=by rw [← hm,qneg_eq,qneg_eq,qneg_eq]; unfold vsc; refine v3_ext ?_ ?_ ?_<;>(simp only []; grind)
 have hm2:fu ≠ 0→fv ≠ 0→anE m b c d = -uv:=fun h1 h2=>by rw [← hm1,← huv]; exact anE_mir wb wc wd (by rw [hfu]; exact h1) (by rw [hfv]; exact h2)
 have hmc:qneg a.1=m.1∧qneg a.2.1=m.2.1∧qneg a.2.2=m.2.2:=by subst hm; exact ⟨rfl,rfl,rfl⟩
 have k2:anE (a.1,a.2.1,a.2.2) (b.1,b.2.1,b.2.2) (b.1,b.2.1,b.2.2) (c.1,c.2.1,c.2.2)=fu∧anE (a.1,a.2.1,a.2.2) (b.1,b.2.1,b.2.2) (b.1,b.2.1,b.2.2) (d.1,d.2.1,d.2.2)=fv∧anE (a.1,a.2.1,a.2.2) (b.1,b.2.1,b.2.2) (c.1,c.2.1,c.2.2) (t.1,t.2.1,t.2.2)=0∧anE (o.1,o.2.1,o.2.2) (b.1,b.2.1,b.2.2) (c.1,c.2.1,c.2.2) (d.1,d.2.1,d.2.2)=uv:=⟨hfu,hfv,ht2,ho2⟩
 have M:=(⟨i40 ft (by decide),i40 fo (by decide),i40 fm (by decide),bf fg (by decide),vscq_c hg,vadq_c ht,vscq_c ho,hmc,(smi (n:=2) (by decide) (by decide)),(smi (n:=5) (by decide) (by decide))⟩:_∧_∧_∧_∧_∧_∧_∧_∧_∧_)
 have t1:uv<0→vw<0→uw<0:=fun h1 h2=>by rw [← huw]; exact anE_trans wb wc wd we (by rw [huv]; exact h1) (by rw [hvw]; exact h2)
 have t2:uv=0→vw=uw:=fun h=>by rw [← hvw,← huw]; exact anE_eq wb wc wd we (by rw [huv]; exact h)
 have n1:¬ (0<fu):=by omega
 have n1:(fu > 0)=False∧(0<fu)=False:=⟨eq_false (by omega),eq_false (by omega)⟩
 by_cases c1:uv<0
 case pos =>
  have c0:(uv == 0)=false:=by simpa using (show uv ≠ 0 by omega)
  by_cases c2:vw<0
  case pos =>
   have c3:(uw ≥ 0)=False∧(0≤uw)=False:=⟨eq_false (by have:=t1 c1 c2; omega),eq_false (by have:=t1 c1 c2; omega)⟩
   by_cases q1:fu=0
   · have z1:(fu == 0)=true:=by simpa using q1
     simp only [go_sem,nw8,hl,hn,B,X,M,k1,k2,rl8,n1,z1,c0,c1,c2,c3]
     exact .refl _
   have z1:(fu == 0)=false:=by simpa using q1
   by_cases q2:fv=0
   · have z2:(fv == 0)=true:=by simpa using q2
     simp only [go_sem,nw8,hl,hn,B,X,M,k1,k2,rl8,n1,z1,z2,c0,c1,c2,c3]
     exact .refl _
   have z2:(fv == 0)=false:=by simpa using q2
   have k3:anE (m.1,m.2.1,m.2.2) (b.1,b.2.1,b.2.2) (c.1,c.2.1,c.2.2) (d.1,d.2.1,d.2.2) = -uv:=hm2 q1 q2
   simp only [go_sem,nw8,hl,hn,B,X,M,k1,k2,k3,rl8,n1,z1,z2,c0,c1,c2,c3]
   exact .refl _
  case neg =>
   by_cases q1:fu=0
   · have z1:(fu == 0)=true:=by simpa using q1
     simp only [go_sem,nw8,hl,hn,B,X,M,k1,k2,rl8,n1,z1,c0,c1,c2]
     exact .refl _
   have z1:(fu == 0)=false:=by simpa using q1
   by_cases q2:fv=0
   · have z2:(fv == 0)=true:=by simpa using q2
     simp only [go_sem,nw8,hl,hn,B,X,M,k1,k2,rl8,n1,z1,z2,c0,c1,c2]
     exact .refl _
   have z2:(fv == 0)=false:=by simpa using q2
   have k3:anE (m.1,m.2.1,m.2.2) (b.1,b.2.1,b.2.2) (c.1,c.2.1,c.2.2) (d.1,d.2.1,d.2.2) = -uv:=hm2 q1 q2
   simp only [go_sem,nw8,hl,hn,B,X,M,k1,k2,k3,rl8,n1,z1,z2,c0,c1,c2]
   exact .refl _
 by_cases c4:uv=0
 case pos =>
  have c0:(uv == 0)=true:=by simpa using c4
  have c5:(vw != uw)=false:=by rw [t2 c4]; simp
  by_cases q1:fu=0
  · have z1:(fu == 0)=true:=by simpa using q1
    simp only [go_sem,nw8,hl,hn,B,X,M,k1,k2,rl8,n1,z1,c0,c1,c5]
    exact .refl _
  have z1:(fu == 0)=false:=by simpa using q1
  by_cases q2:fv=0
  · have z2:(fv == 0)=true:=by simpa using q2
    simp only [go_sem,nw8,hl,hn,B,X,M,k1,k2,rl8,n1,z1,z2,c0,c1,c5]
    exact .refl _
  have z2:(fv == 0)=false:=by simpa using q2
  have k3:anE (m.1,m.2.1,m.2.2) (b.1,b.2.1,b.2.2) (c.1,c.2.1,c.2.2) (d.1,d.2.1,d.2.2) = -uv:=hm2 q1 q2
  simp only [go_sem,nw8,hl,hn,B,X,M,k1,k2,k3,rl8,n1,z1,z2,c0,c1,c5]
  exact .refl _
 case neg =>
  have c0:(uv == 0)=false:=by simpa using c4
  by_cases q1:fu=0
  · have z1:(fu == 0)=true:=by simpa using q1
    simp only [go_sem,nw8,hl,hn,B,X,M,k1,k2,rl8,n1,z1,c0,c1]
    exact .refl _
  have z1:(fu == 0)=false:=by simpa using q1
  by_cases q2:fv=0
  · have z2:(fv == 0)=true:=by simpa using q2
    simp only [go_sem,nw8,hl,hn,B,X,M,k1,k2,rl8,n1,z1,z2,c0,c1]
    exact .refl _
  have z2:(fv == 0)=false:=by simpa using q2
  have k3:anE (m.1,m.2.1,m.2.2) (b.1,b.2.1,b.2.2) (c.1,c.2.1,c.2.2) (d.1,d.2.1,d.2.2) = -uv:=hm2 q1 q2
  simp only [go_sem,nw8,hl,hn,B,X,M,k1,k2,k3,rl8,n1,z1,z2,c0,c1]
  exact .refl _
end Go.Proofs.YtapddfjimhohcaaGreatDoor.AM
