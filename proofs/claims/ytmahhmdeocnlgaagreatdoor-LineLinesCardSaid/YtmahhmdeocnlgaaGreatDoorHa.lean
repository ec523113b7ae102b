/- The laws of lines: meets, lines. -/
import Derived.Test.YtmahhmdeocnlgaaGreatDoorB12
namespace Go.Proofs.YtmahhmdeocnlgaaGreatDoor.AM
set_option linter.all false
set_option autoImplicit true
set_option relaxedAutoImplicit true
open Go Go.Proofs
set_option maxRecDepth 100000
set_option maxHeartbeats 8000000
set_option linter.unusedSimpArgs false
variable {P:Program}
theorem linQ_fV {p d q c:V3} (hp:fV p 65536) (hd:fV d 8192) (hq:fV q 65536) (hc:fV c 8192):fV (linQ p d q c).1 4194304:=by
 have z:fV v0 4194304:=⟨fl_zero _,fl_zero _,fl_zero _⟩
 have fn:=vcq_fV hd hc
 have fv:=vsbq_fV hq hp
 have fw:=vcq_fV fv hc
 have ft:=fl_qdiv (qdt_fl fw fn) (qdt_fl fn fn)
 unfold linQ
 split
 · exact z
 · split
   · exact fV_mono (atQ_fV hp hd ft) (by decide)
   · exact z
theorem zero6_spec (hP:PrgOk P):CSpec P 37 [] (.agg [.opq (.rfrac (((0:Int):Rat))),.pad,.pad,.opq (.rfrac (((0:Int):Rat))),.pad,.pad,.opq (.rfrac (((0:Int):Rat))),.pad,.pad,.opq (.rfrac (((1:Int):Rat))),.pad,.pad,.opq (.rfrac (((0:Int):Rat))),.pad,.pad,.opq (.rfrac (((0:Int):Rat))),.pad,.pad]):=by
 have HE:=Lx7_all hP TF hP.tF
 have i0:=(smi (n:=0) (by decide) (by decide)).2
 have i1:=(smi (n:=1) (by decide) (by decide)).2
 refine CSpec_go (E:=⟨TF,Lx7⟩) (fn37 hP) HE hP.mix ?_
 simp only [go_sem,i0,i1]
 exact fin_z
noncomputable def zero6S:List AV→Option (Prop × AV)
 | []=>some (True,(.agg [.opq (.rfrac (((0:Int):Rat))),.pad,.pad,.opq (.rfrac (((0:Int):Rat))),.pad,.pad,.opq (.rfrac (((0:Int):Rat))),.pad,.pad,.opq (.rfrac (((1:Int):Rat))),.pad,.pad,.opq (.rfrac (((0:Int):Rat))),.pad,.pad,.opq (.rfrac (((0:Int):Rat))),.pad,.pad]))
 | _=>none
theorem zero6S_ok (hP:PrgOk P) (args p r) (h:zero6S args=some (p,r)) (hp:p):CSpec P 37 args r:=by
 unfold zero6S at h
 split at h
 · simp only [Option.some.injEq,Prod.mk.injEq] at h
   obtain ⟨rfl,rfl⟩:=h
   exact zero6_spec hP
 · simp at h
attribute [go_sem] zero6S
noncomputable def Lx8:Nat→List AV→Option (Prop × AV):=addS Lx7 37 zero6S
theorem Lx8_all (hP:PrgOk P) (T) (hT:TyOk P T):EnvOk P ⟨T,Lx8⟩:=((Lx7_all hP T hT).add (zero6S_ok hP))
theorem Lx8_at (f a):Lx8 f a=(addS Lx7 37 zero6S) f a:=rfl
attribute [go_sem] Lx8_at
theorem LineLines_spec (hP:PrgOk P) (L:List ByteArray) (hl:L.length=6) (hs:∀ s ∈ L,s.size≤maxS) (M:List ByteArray) (hm:M.length=6) (ht:∀ s ∈ M,s.size≤maxS):CSpec P 6 [.agg (L.map .str),.agg (M.map .str)] (.bool true):=by
 obtain ⟨x,y,z,u,v,w,rfl,hx,hy,hz,hu,hv,hw⟩:=six hl hs
 obtain ⟨x',y',z',u',v',w',rfl,hx',hy',hz',hu',hv',hw'⟩:=six hm ht
 have HE:=Lx8_all hP TF hP.tF
 simp only [List.map_cons,List.map_nil]
 refine CSpec_go (E:=⟨TF,Lx8⟩) (fn6 hP) HE hP.mix ?_
 by_cases h1:mdO x y z u v w=true
 case neg =>
  have h1':mdO x y z u v w=false:=by simpa using h1
  cases h2:mdO x' y' z' u' v' w'
  · simp only [go_sem,hx,hy,hz,hu,hv,hw,hx',hy',hz',hu',hv',hw',h1',h2]
    exact .refl _
  · simp only [go_sem,hx,hy,hz,hu,hv,hw,hx',hy',hz',hu',hv',hw',h1',h2]
    exact .refl _
 by_cases h2:mdO x' y' z' u' v' w'=true
 case neg =>
  have h2':mdO x' y' z' u' v' w'=false:=by simpa using h2
  simp only [go_sem,hx,hy,hz,hu,hv,hw,hx',hy',hz',hu',hv',hw',h1,h2']
  exact .refl _
 obtain ⟨p,e,hLl,hYl,h1l,fpl,fel⟩:=mdO_t h1
 have hdl:ldr (e.1,e.2.1,e.2.2)=e:=ldr_nz h1l.nz
 obtain ⟨q,c,hLm,hYm,h1m,fpm,fem⟩:=mdO_t h2
 have hdm:ldr (c.1,c.2.1,c.2.2)=c:=ldr_nz h1m.nz
 have fR:=linQ_fV fpl fel fpm fem
 obtain ⟨R,hR⟩:∃ r,linQ p e q c=r:=⟨_,rfl⟩
 rw [hR] at fR
 have kR:linQ (p.1,p.2.1,p.2.2) e (q.1,q.2.1,q.2.2) c=R∧linQ (p.1,p.2.1,p.2.2) (e.1,e.2.1,e.2.2) (q.1,q.2.1,q.2.2) (c.1,c.2.1,c.2.2)=R:=⟨hR,hR⟩
 have i0:=smi (n:=0) (by decide) (by decide)
 have i1:=smi (n:=1) (by decide) (by decide)
 have f0:=sm (fl_zero 4095)
 obtain ⟨K,hK⟩:∃ k,cmpL (p,e) (q,c)=k:=⟨_,rfl⟩
 have kK:cmpL ((p.1,p.2.1,p.2.2),e) ((q.1,q.2.1,q.2.2),c)=K∧cmpL ((p.1,p.2.1,p.2.2),(e.1,e.2.1,e.2.2)) ((q.1,q.2.1,q.2.2),(c.1,c.2.1,c.2.2))=K:=⟨hK,hK⟩
 obtain ⟨J,hJ⟩:∃ k,cmpL axL (p,e)=k:=⟨_,rfl⟩
 have kJ:cmpL ((0,0,0),ldr (0,0,0)) ((p.1,p.2.1,p.2.2),e)=J∧cmpL ((((0:Int):Rat),((0:Int):Rat),((0:Int):Rat)),(((1:Int):Rat),((0:Int):Rat),((0:Int):Rat))) ((p.1,p.2.1,p.2.2),(e.1,e.2.1,e.2.2))=J:=by
  refine ⟨?_,hJ⟩
  rw [show ldr ((0,0,0):V3)=ax1 from ldr_v0]
  exact hJ
 simp only [go_sem,hx,hy,hz,hu,hv,hw,hx',hy',hz',hu',hv',hw',h1,h2,hLl,hLm,hYl,hYm,hdl,hdm,b16 fpl (by decide),b16 fpm (by decide),b16 fel (by decide),b16 fem (by decide),bf fpl (by decide),bf fpm (by decide),bf fel (by decide),bf fem (by decide),kR,bf fR (by decide),beq_s,decide_true,kK,kJ,f0,i0,i1]
 exact .refl _
end Go.Proofs.YtmahhmdeocnlgaaGreatDoor.AM
