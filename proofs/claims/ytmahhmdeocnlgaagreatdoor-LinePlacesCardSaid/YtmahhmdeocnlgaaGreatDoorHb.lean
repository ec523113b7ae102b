/- The laws of lines: places; one form. -/
import Derived.Test.YtmahhmdeocnlgaaGreatDoorHa
namespace Go.Proofs.YtmahhmdeocnlgaaGreatDoor.AM
set_option linter.all false
set_option autoImplicit true
set_option relaxedAutoImplicit true
open Go Go.Proofs
set_option maxRecDepth 100000
set_option maxHeartbeats 8000000
set_option linter.unusedSimpArgs false
variable {P:Program}
theorem plcQ_fl {p d q:V3} (hp:fV p 65536) (hd:fV d 8192) (hq:fV q 1048576):fl (plcQ p d q).1≤16777216:=by
 have fv:=vsbq_fV hq hp
 unfold plcQ
 split
 · exact Nat.le_trans (fl_qdiv (qdt_fl fv hd) (qdt_fl hd hd)) (by decide)
 · exact fl_zero _
theorem plnQ_fl {p d n:V3} {o:Rat} (hp:fV p 4194304) (hd:fV d 262144) (hn:fV n 8192) (ho:fl o≤8192):fl (plnQ p d n o).1≤67108864:=by
 unfold plnQ
 split
 · split<;>exact fl_zero _
 · exact Nat.le_trans (fl_qdiv (fl_qneg (fl_qsub (qdt_fl hn hp) ho)) (qdt_fl hn hd)) (by decide)
theorem LinePlaces_spec (hP:PrgOk P) (L:List ByteArray) (hl:L.length=6) (hs:∀ s ∈ L,s.size≤maxS) (t:ByteArray) (x' y' z':ByteArray) (M:List ByteArray) (hm:M.length=4) (hms:∀ s ∈ M,s.size≤maxS) (hx':x'.size≤maxS) (hy':y'.size≤maxS) (hz':z'.size≤maxS) :
 CSpec P 7 [.agg (L.map .str),.str t,.agg [.str x',.str y',.str z'],.agg (M.map .str)] (.bool true):=by
 obtain ⟨x,y,z,u,v,w,rfl,hx,hy,hz,hu,hv,hw⟩:=six hl hs
 obtain ⟨c1,c2,c3,c4,rfl,k1,k2,k3,k4⟩:=four hm hms
 have lx:=len_s hx'
 have ly:=len_s hy'
 have lz:=len_s hz'
 have HE:=Lx7_all hP TF hP.tF
 simp only [List.map_cons,List.map_nil]
 refine CSpec_go (E:=⟨TF,Lx7⟩) (fn7 hP) HE hP.mix ?_
 cases h1:mdO x y z u v w
 · by_cases h3:plO c1 c2 c3 c4=true
   · have h3':=eq_true h3
     simp only [go_sem,hx,hy,hz,hu,hv,hw,lx,ly,lz,k1,k2,k3,k4,h1,h3']
     exact .refl _
   · have h3':=eq_false h3
     simp only [go_sem,hx,hy,hz,hu,hv,hw,lx,ly,lz,k1,k2,k3,k4,h1,h3']
     exact .refl _
 cases h2:okM x' y' z'
 · by_cases h3:plO c1 c2 c3 c4=true
   · have h3':=eq_true h3
     simp only [go_sem,hx,hy,hz,hu,hv,hw,lx,ly,lz,k1,k2,k3,k4,h1,h2,h3']
     exact .refl _
   · have h3':=eq_false h3
     simp only [go_sem,hx,hy,hz,hu,hv,hw,lx,ly,lz,k1,k2,k3,k4,h1,h2,h3']
     exact .refl _
 by_cases h3:plO c1 c2 c3 c4=true
 case neg =>
  have h3':=eq_false h3
  simp only [go_sem,hx,hy,hz,hu,hv,hw,lx,ly,lz,k1,k2,k3,k4,h1,h2,h3']
  exact .refl _
 have h3':=eq_true h3
 by_cases h4:90<t.size
 · simp only [go_sem,hx,hy,hz,hu,hv,hw,lx,ly,lz,k1,k2,k3,k4,h1,h2,h3',h4]
   exact .refl _
 have lt:(bl t).length≤140737488355328:=by have:=size_bl t; omega
 by_cases h5:(parF (bl t)).2=0
 case neg =>
  have h5':((parF (bl t)).2 != 0)=true:=by simpa using h5
  simp only [go_sem,hx,hy,hz,hu,hv,hw,lx,ly,lz,k1,k2,k3,k4,h1,h2,h3',h4,lt,h5']
  exact .refl _
 have h5':((parF (bl t)).2 != 0)=false:=by rw [h5]; rfl
 have hft:fromT (parF (bl t)).1:=⟨t,rfl,h5,lt⟩
 have fX:=parF_fl (bl t)
 obtain ⟨X,hX⟩:∃ q,(parF (bl t)).1=q:=⟨_,rfl⟩
 rw [hX] at hft fX
 have fq:=ptV_fl x' y' z'
 obtain ⟨q,hq⟩:∃ q,ptV x' y' z'=q:=⟨_,rfl⟩
 rw [hq] at fq
 obtain ⟨p,e,hLl,hYl,h1l,fpl,fel⟩:=mdO_t h1
 have hdl:ldr (e.1,e.2.1,e.2.2)=e:=ldr_nz h1l.nz
 obtain ⟨a,hca,hna,hfa⟩:=plO_t h3
 have hoa:(plO c1 c2 c3 c4=true)=True:=eq_true h3
 have fna:fV (nP a) 8192:=⟨hfa.1,hfa.2.1,hfa.2.2.1⟩
 have hpa:=pnr_n hna
 have fA:=atQ_fV fpl fel fX
 obtain ⟨A,hA⟩:∃ r,atQ p e X=r:=⟨_,rfl⟩
 rw [hA] at fA
 have kA:atQ (p.1,p.2.1,p.2.2) e X=A∧atQ (p.1,p.2.1,p.2.2) (e.1,e.2.1,e.2.2) X=A:=⟨hA,hA⟩
 have fR:=plcQ_fl fpl fel (fV_mono fq (by decide))
 obtain ⟨R,hR⟩:∃ r,plcQ p e q=r:=⟨_,rfl⟩
 rw [hR] at fR
 have kR:plcQ (p.1,p.2.1,p.2.2) e (q.1,q.2.1,q.2.2)=R∧plcQ (p.1,p.2.1,p.2.2) (e.1,e.2.1,e.2.2) (q.1,q.2.1,q.2.2)=R:=⟨hR,hR⟩
 have fS:=plnQ_fl (fV_mono fpl (by decide)) (fV_mono fel (by decide)) fna hfa.2.2.2
 obtain ⟨S,hS⟩:∃ r,plnQ p e (nP a) a.2.2.2=r:=⟨_,rfl⟩
 rw [hS] at fS
 have kS:plnQ (p.1,p.2.1,p.2.2) e (nP a) a.2.2.2=S∧plnR (p.1,p.2.1,p.2.2) (e.1,e.2.1,e.2.2) (nP (a.1,a.2.1,a.2.2.1,a.2.2.2)) a.2.2.2=S:=⟨hS,by rw [plnR_eq]; exact hS⟩
 have en:e ≠ v0:=h1l.nz
 have en':(((e.1,e.2.1,e.2.2):V3)=v0)=False:=eq_false en
 have sX:=sm (Nat.le_trans fX (by decide))
 simp only [go_sem,hx,hy,hz,hu,hv,hw,lx,ly,lz,k1,k2,k3,k4,h1,h2,h3',h4,lt,h5',hX,hft,sX,hq,hLl,hYl,hdl,hca,hpa,kA,kR,kS,en',ne_eq,not_false_eq_true,bw fpl (by decide),bw fel (by decide),b22 fpl (by decide),b22 fel (by decide),bw fq (by decide),Nat.le_trans hfa.1 (show _≤16777216 by decide),Nat.le_trans hfa.2.1 (show _≤16777216 by decide),Nat.le_trans hfa.2.2.1 (show _≤16777216 by decide),Nat.le_trans hfa.2.2.2 (show _≤16777216 by decide),bf fA (by decide),Nat.le_trans fR (show _≤FB by decide),Nat.le_trans fS (show _≤FB by decide),decide_true,beq_s,beq_self_eq_true]
 exact .refl _
end Go.Proofs.YtmahhmdeocnlgaaGreatDoor.AM
