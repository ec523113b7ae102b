/- Arguments that are rows of strings: how long they are. -/
import Derived.Test.YtmahhmdeocnlgaaB3
import Derived.Test.YtmahhmdeocnlgaaB6
namespace Go.Proofs.Ytmahhmdeocnlgaa.AM
set_option linter.all false
set_option autoImplicit true
set_option relaxedAutoImplicit true
open Go Go.Proofs
section
variable {H:Type} {enc:TypeId × Value→H} {P:Program} {w:World}
end
end Go.Proofs.Ytmahhmdeocnlgaa.AM
/- The laws of vectors: their helpers. -/
namespace Go.Proofs.Ytmahhmdeocnlgaa.AM
set_option linter.all false
set_option autoImplicit true
set_option relaxedAutoImplicit true
open Go Go.Proofs
set_option maxRecDepth 100000
set_option maxHeartbeats 8000000
set_option linter.unusedSimpArgs false
variable {P:Program}
noncomputable def Zt0:Nat→List AV→Option (Prop × AV):=Yt2
theorem Zt0_all (hP:PrgOk P) (T) (hT:TyOk P T):EnvOk P ⟨T,Zt0⟩:=(Yt2_all hP T hT)
attribute [go_sem] Zt0
noncomputable def Zt1:Nat→List AV→Option (Prop × AV):=Zt0
theorem Zt1_all (hP:PrgOk P) (T) (hT:TyOk P T):EnvOk P ⟨T,Zt1⟩:=(Zt0_all hP T hT)
attribute [go_sem] Zt1
theorem eqAgg3 (t1 t2 t3:Nat × Nat) (sz b:Nat) (z1 z2 z3 a1 a2 a3 b1 b2 b3:ByteArray):eqAgg ⟨.struct [t1,t2,t3],sz,b,[.str z1,.str z2,.str z3]⟩ .eql [.str a1,.str a2,.str a3] [.str b1,.str b2,.str b3]=some (True,.bool ((a1.toList == b1.toList) && ((a2.toList == b2.toList) && ((a3.toList == b3.toList) && true)))):=by
 rw [eqAgg_eql _ _ _ _ _ _ rfl rfl]
 have:([AV.str a1,.str a2,.str a3].length=[AV.str z1,.str z2,.str z3].length)=True:=eq_true rfl
 simp only [eqStrs_cons,eqStrs_nil,Option.map_some,this]
theorem eqAgg3n (t1 t2 t3:Nat × Nat) (sz b:Nat) (z1 z2 z3 a1 a2 a3 b1 b2 b3:ByteArray):eqAgg ⟨.struct [t1,t2,t3],sz,b,[.str z1,.str z2,.str z3]⟩ .neq [.str a1,.str a2,.str a3] [.str b1,.str b2,.str b3]=some (True,.bool (!((a1.toList == b1.toList) && ((a2.toList == b2.toList) && ((a3.toList == b3.toList) && true))))):=by
 rw [eqAgg_neq _ _ _ _ _ _ rfl rfl]
 have:([AV.str a1,.str a2,.str a3].length=[AV.str z1,.str z2,.str z3].length)=True:=eq_true rfl
 simp only [eqStrs_cons,eqStrs_nil,Option.map_some,this]
attribute [go_sem] eqAgg3 eqAgg3n
noncomputable def Zt2:Nat→List AV→Option (Prop × AV):=Zt1
theorem Zt2_all (hP:PrgOk P) (T) (hT:TyOk P T):EnvOk P ⟨T,Zt2⟩:=(Zt1_all hP T hT)
attribute [go_sem] Zt2
noncomputable def Zt3:Nat→List AV→Option (Prop × AV):=Zt2
theorem Zt3_all (hP:PrgOk P) (T) (hT:TyOk P T):EnvOk P ⟨T,Zt3⟩:=(Zt2_all hP T hT)
attribute [go_sem] Zt3
noncomputable def Zt4:Nat→List AV→Option (Prop × AV):=Zt3
theorem Zt4_all (hP:PrgOk P) (T) (hT:TyOk P T):EnvOk P ⟨T,Zt4⟩:=(Zt3_all hP T hT)
attribute [go_sem] Zt4
end Go.Proofs.Ytmahhmdeocnlgaa.AM
/- Vectors: how long what is reckoned becomes. -/
namespace Go.Proofs.Ytmahhmdeocnlgaa.AM
set_option linter.all false
set_option autoImplicit true
set_option relaxedAutoImplicit true
open Go Go.Proofs
set_option maxRecDepth 100000
structure BV (a:V3):Prop where
 r:fV a 65536
 d:fV a 8388608
 t:fV a 67108864
 x:fV a 268435456
 f:fV a FB
theorem qdt_fl {a b:V3} {n m:Nat} (ha:fV a n) (hb:fV b m):fl (qdt a b)≤n+m+(n+m)+1+(n+m)+1:=fl_qadd (fl_qadd (fl_qmul ha.1 hb.1) (fl_qmul ha.2.1 hb.2.1)) (fl_qmul ha.2.2 hb.2.2)
noncomputable def ngV (a:V3):V3:=(qneg a.1,qneg a.2.1,qneg a.2.2)
theorem ngV_eq (a:V3):ngV a=vsc (-1) a:=by unfold ngV vsc; simp only [qneg_eq]; refine v3_ext ?_ ?_ ?_<;>(simp only []; grind)
noncomputable def nrm (d:V3):V3:=if cmpV (dirA d) v0<0 then ngV (dirA d) else dirA d
theorem nrm_sc {d:V3} (h:d ≠ v0):∃ k:Rat,k ≠ 0∧nrm d=vsc k d:=by
 obtain ⟨k,hk,e⟩:=dirA_sc h
 unfold nrm
 split
 · exact ⟨-1*k,by grind,by rw [ngV_eq,e,sc_sc]⟩
 · exact ⟨k,by grind,e⟩
theorem nrm_nz {d:V3} (h:d ≠ v0):nrm d ≠ v0:=by
 obtain ⟨k,hk,e⟩:=nrm_sc h
 rw [e]; exact vsc_nz hk h
theorem dt_self {d:V3} (h:d ≠ v0):vdt d d ≠ 0:=by
 have hsq:∀ x:Rat,0≤x*x:=fun x=>by
  rcases (Rat.le_total:0≤x∨x≤0) with h|h
  · exact Rat.mul_nonneg h h
  · have:=Rat.mul_nonneg (a:=-x) (b:=-x) (by grind) (by grind)
    grind
 have h1:=hsq d.1
 have h2:=hsq d.2.1
 have h3:=hsq d.2.2
 unfold vdt
 intro e
 have e1:d.1*d.1=0:=by grind
 have e2:d.2.1*d.2.1=0:=by grind
 have e3:d.2.2*d.2.2=0:=by grind
 exact h ((v0_iff d).2 ⟨(Rat.mul_eq_zero.1 e1).elim id id,(Rat.mul_eq_zero.1 e2).elim id id,(Rat.mul_eq_zero.1 e3).elim id id⟩)
noncomputable def lnT (p e:V3):Rat:=qdiv (qdt p e) (qdt e e)
noncomputable def lnP (p e:V3):V3:=(qsub p.1 (qmul (lnT p e) e.1),qsub p.2.1 (qmul (lnT p e) e.2.1),qsub p.2.2 (qmul (lnT p e) e.2.2))
abbrev V4:=Rat × Rat × Rat × Rat
def m4 (h:V4):Nat:=lcmD (lcmD (lcmD (lcmD 1 h.1.den) h.2.1.den) h.2.2.1.den) h.2.2.2.den
theorem m4_pos (h:V4):0<m4 h:=lcmD_pos (lcmD_pos (lcmD_pos (lcmD_pos (by decide) h.1.den_pos) h.2.1.den_pos) h.2.2.1.den_pos) h.2.2.2.den_pos
theorem m4_1 (h:V4):h.1.den ∣ m4 h:=Nat.dvd_trans (lcmD_r _ _) (Nat.dvd_trans (lcmD_l _ _) (Nat.dvd_trans (lcmD_l _ _) (lcmD_l _ _)))
theorem m4_2 (h:V4):h.2.1.den ∣ m4 h:=Nat.dvd_trans (lcmD_r _ _) (Nat.dvd_trans (lcmD_l _ _) (lcmD_l _ _))
theorem m4_3 (h:V4):h.2.2.1.den ∣ m4 h:=Nat.dvd_trans (lcmD_r _ _) (lcmD_l _ _)
def n4 (h:V4) (x:Rat):Int:=x.num*((m4 h / x.den:Nat):Int)
def l4 (h:V4):List Int:=[n4 h h.1,n4 h h.2.1,n4 h h.2.2.1,n4 h h.2.2.2]
def g4 (h:V4):Nat:=gcdL (l4 h)
def p4 (h:V4) (x:Rat):Int:=primZ (g4 h) (n4 h x)
def s4 (h:V4):Bool:=if h.1=0 then (if h.2.1=0 then decide (h.2.2.1<0) else decide (h.2.1<0)) else decide (h.1<0)
def q4 (h:V4) (x:Rat):Int:=if s4 h then -p4 h x else p4 h x
noncomputable def plN (h:V4):V4:=((q4 h h.1:Int),(q4 h h.2.1:Int),(q4 h h.2.2.1:Int),(q4 h h.2.2.2:Int))
theorem n4_eq {h:V4} {x:Rat} (hd:x.den ∣ m4 h):((n4 h x:Int):Rat)=x*(m4 h:Rat):=by
 unfold n4
 obtain ⟨c,hc⟩:=hd
 have hd:m4 h / x.den=c:=by rw [hc]; exact Nat.mul_div_cancel_left c x.den_pos
 rw [hd,hc,Rat.intCast_mul,num_den x,Rat.natCast_mul,Rat.mul_assoc]
 rfl
theorem g4_nz {h:V4} {x:Rat} (hd:x.den ∣ m4 h) (hx:n4 h x ∈ l4 h) (h0:x ≠ 0):g4 h ≠ 0:=fun e=>by
 have hm:=nat_nz (Nat.pos_iff_ne_zero.1 (m4_pos h))
 have h1:=gcdL_zero e hx
 have h2:=n4_eq hd
 rw [h1] at h2
 rcases Rat.mul_eq_zero.1 h2.symm with h3|h3
 · exact h0 h3
 · exact hm h3
theorem p4_mul {h:V4} (hg:g4 h ≠ 0) {x:Rat} (hd:x.den ∣ m4 h) (hx:n4 h x ∈ l4 h):((p4 h x:Int):Rat)=((m4 h:Rat) / (g4 h:Rat))*x:=by
 have e:primZ (g4 h) (n4 h x)*(g4 h:Int)=n4 h x:=primZ_mul hg (gcdL_dvd hx)
 have e2:((p4 h x:Int):Rat)*(g4 h:Rat)=x*(m4 h:Rat):=by
  rw [← n4_eq hd]
  have:((primZ (g4 h) (n4 h x)*(g4 h:Int):Int):Rat)=((n4 h x:Int):Rat):=by rw [e]
  rw [Rat.intCast_mul] at this
  exact this
 have hg':=nat_nz hg
 generalize (g4 h:Rat)=g at *
 generalize (m4 h:Rat)=m at *
 generalize ((p4 h x:Int):Rat)=d at *
 rw [Rat.div_def]
 have h1:=Rat.mul_inv_cancel g hg'
 generalize g⁻¹=i at *
 calc d=d*g*i:=by rw [Rat.mul_assoc,h1,Rat.mul_one]
  _=m*i*x:=by rw [e2]; grind
end Go.Proofs.Ytmahhmdeocnlgaa.AM
/- Package plane: what is read off a plane. -/
namespace Go.Proofs.Ytmahhmdeocnlgaa.AM
set_option linter.all false
set_option autoImplicit true
set_option relaxedAutoImplicit true
open Go Go.Proofs
set_option maxRecDepth 100000
set_option maxHeartbeats 8000000
set_option linter.unusedSimpArgs false
variable {P:Program}
def cells4:List AV→Option V4
 | [.opq (.frac (x)),.pad,.pad,.pad,.pad,.opq (.frac (y)),.pad,.pad,.pad,.pad,.opq (.frac (z)),.pad,.pad,.pad,.pad,.opq (.frac (w)),.pad,.pad,.pad,.pad]=>some (x,y,z,w)
 | _=>none
theorem cells4_eq (x y z w):cells4 [.opq (.frac (x)),.pad,.pad,.pad,.pad,.opq (.frac (y)),.pad,.pad,.pad,.pad,.opq (.frac (z)),.pad,.pad,.pad,.pad,.opq (.frac (w)),.pad,.pad,.pad,.pad]=some (x,y,z,w):=rfl
theorem cells4_inv {A:List AV} {a:V4} (h:cells4 A=some a):A=[.opq (.frac (a.1)),.pad,.pad,.pad,.pad,.opq (.frac (a.2.1)),.pad,.pad,.pad,.pad,.opq (.frac (a.2.2.1)),.pad,.pad,.pad,.pad,.opq (.frac (a.2.2.2)),.pad,.pad,.pad,.pad]:=by
 unfold cells4 at h
 split at h
 · simp only [Option.some.injEq] at h; subst h; rfl
 · simp at h
def rawP:AV→Option V4
 | .agg A=>cells4 A
 | _=>none
theorem rawP_eq (A):rawP (.agg A)=cells4 A:=rfl
theorem rawP_inv {v:AV} {a:V4} (h:rawP v=some a):v=(.agg [.opq (.frac (a.1)),.pad,.pad,.pad,.pad,.opq (.frac (a.2.1)),.pad,.pad,.pad,.pad,.opq (.frac (a.2.2.1)),.pad,.pad,.pad,.pad,.opq (.frac (a.2.2.2)),.pad,.pad,.pad,.pad]):=by
 unfold rawP at h
 split at h
 · rw [cells4_inv h]
 · simp at h
def fP (a:V4) (n:Nat):Prop:=fl a.1≤n∧fl a.2.1≤n∧fl a.2.2.1≤n∧fl a.2.2.2≤n
theorem fP_eq (x y z w n):fP (x,y,z,w) n=(fl x≤n∧fl y≤n∧fl z≤n∧fl w≤n):=rfl
noncomputable def pnr (n:V3):V3:=if n=v0 then (((0:Int):Rat),((0:Int):Rat),((1:Int):Rat)) else n
def nP (h:V4):V3:=(h.1,h.2.1,h.2.2.1)
theorem nP_eq (x y z w):nP (x,y,z,w)=(x,y,z):=rfl
theorem pnr_nz {n:V3} (h:n ≠ v0):pnr n=n:=if_neg h
attribute [go_sem] cells4_eq rawP_eq fP_eq
noncomputable def onP1 (f:V4→Prop × AV):List AV→Option (Prop × AV)
 | [x]=>(rawP x).map f
 | _=>none
theorem onP1_eq (f x):onP1 f [x]=(rawP x).map f:=rfl
theorem onP1_ok {fi:Nat} {f:V4→Prop × AV} (h:∀ a,(f a).1→CSpec P fi [(.agg [.opq (.frac (a.1)),.pad,.pad,.pad,.pad,.opq (.frac (a.2.1)),.pad,.pad,.pad,.pad,.opq (.frac (a.2.2.1)),.pad,.pad,.pad,.pad,.opq (.frac (a.2.2.2)),.pad,.pad,.pad,.pad])] (f a).2) (args p r) (he:onP1 f args=some (p,r)) (hp:p):CSpec P fi args r:=by
 unfold onP1 at he
 split at he
 · simp only [Option.map_eq_some_iff] at he
   obtain ⟨a,h1,h2⟩:=he
   have:=h a (by rw [h2]; exact hp)
   rw [h2] at this; rw [rawP_inv h1]; exact this
 · simp at he
attribute [go_sem] onP1_eq
theorem pnorm_spec (hP:PrgOk P) (h:V4) (hh:fP h FB):CSpec P 77 [(.agg [.opq (.frac (h.1)),.pad,.pad,.pad,.pad,.opq (.frac (h.2.1)),.pad,.pad,.pad,.pad,.opq (.frac (h.2.2.1)),.pad,.pad,.pad,.pad,.opq (.frac (h.2.2.2)),.pad,.pad,.pad,.pad])] (.agg [.opq (.frac ((pnr (nP h)).1)),.pad,.pad,.pad,.pad,.opq (.frac ((pnr (nP h)).2.1)),.pad,.pad,.pad,.pad,.opq (.frac ((pnr (nP h)).2.2)),.pad,.pad,.pad,.pad]):=by
 have HE:=Zt4_all hP TF hP.tF
 obtain ⟨a,b,c,d⟩:=h
 obtain ⟨a1,a2,a3,a4⟩:=hh
 simp only [nP_eq] at a1 a2 a3 ⊢
 have b0:((-9223372036854775808:Int)≤0∧(0:Int)≤9223372036854775807)=True:=eq_true (by decide)
 have b1:((-9223372036854775808:Int)≤1∧(1:Int)≤9223372036854775807)=True:=eq_true (by decide)
 refine CSpec_go (E:=⟨TF,Zt4⟩) (fn77 hP) HE hP.mix ?_
 by_cases hz:((a,b,c):V3)=v0
 · have hz':=decide_eq_true hz
   unfold pnr
   rw [if_pos hz]
   simp only [go_sem,hz',b0,b1,a1,a2,a3]
   exact fin_z
 · have hz':=decide_eq_false hz
   rw [pnr_nz hz]
   simp only [go_sem,hz',a1,a2,a3]
   exact fin_z
noncomputable def pnormS:List AV→Option (Prop × AV):=onP1 fun h=>(fP h FB,(.agg [.opq (.frac ((pnr (nP h)).1)),.pad,.pad,.pad,.pad,.opq (.frac ((pnr (nP h)).2.1)),.pad,.pad,.pad,.pad,.opq (.frac ((pnr (nP h)).2.2)),.pad,.pad,.pad,.pad]))
theorem pnormS_ok (hP:PrgOk P) (args p r):pnormS args=some (p,r)→p→CSpec P 77 args r:=onP1_ok (fun a h=>by exact pnorm_spec hP a h) args p r
attribute [go_sem] pnormS
noncomputable def Pt0:Nat→List AV→Option (Prop × AV):=addS Zt4 77 pnormS
theorem Pt0_all (hP:PrgOk P) (T) (hT:TyOk P T):EnvOk P ⟨T,Pt0⟩:=((Zt4_all hP T hT).add (pnormS_ok hP))
theorem Pt0_at (f a):Pt0 f a=(addS Zt4 77 pnormS) f a:=rfl
attribute [go_sem] Pt0_at
theorem pNorm_spec (hP:PrgOk P) (h:V4) (hh:fP h FB):CSpec P 43 [(.agg [.opq (.frac (h.1)),.pad,.pad,.pad,.pad,.opq (.frac (h.2.1)),.pad,.pad,.pad,.pad,.opq (.frac (h.2.2.1)),.pad,.pad,.pad,.pad,.opq (.frac (h.2.2.2)),.pad,.pad,.pad,.pad])] (.agg [.opq (.frac ((pnr (nP h)).1)),.pad,.pad,.pad,.pad,.opq (.frac ((pnr (nP h)).2.1)),.pad,.pad,.pad,.pad,.opq (.frac ((pnr (nP h)).2.2)),.pad,.pad,.pad,.pad]):=by
 have HE:=Pt0_all hP TF hP.tF
 obtain ⟨a1,a2,a3,a4⟩:=hh
 refine CSpec_go (E:=⟨TF,Pt0⟩) (fn43 hP) HE hP.mix ?_
 simp only [go_sem,a1,a2,a3,a4]
 exact fin_z
noncomputable def pNormS:List AV→Option (Prop × AV):=onP1 fun h=>(fP h FB,(.agg [.opq (.frac ((pnr (nP h)).1)),.pad,.pad,.pad,.pad,.opq (.frac ((pnr (nP h)).2.1)),.pad,.pad,.pad,.pad,.opq (.frac ((pnr (nP h)).2.2)),.pad,.pad,.pad,.pad]))
theorem pNormS_ok (hP:PrgOk P) (args p r):pNormS args=some (p,r)→p→CSpec P 43 args r:=onP1_ok (fun a h=>by exact pNorm_spec hP a h) args p r
theorem pOff_spec (hP:PrgOk P) (h:V4):CSpec P 46 [(.agg [.opq (.frac (h.1)),.pad,.pad,.pad,.pad,.opq (.frac (h.2.1)),.pad,.pad,.pad,.pad,.opq (.frac (h.2.2.1)),.pad,.pad,.pad,.pad,.opq (.frac (h.2.2.2)),.pad,.pad,.pad,.pad])] (.agg [.opq (.frac (h.2.2.2)),.pad,.pad,.pad,.pad]):=by
 have HE:=Pt0_all hP TF hP.tF
 refine CSpec_go (E:=⟨TF,Pt0⟩) (fn46 hP) HE hP.mix ?_
 simp only [go_sem]
 exact fin_z
noncomputable def pOffS:List AV→Option (Prop × AV):=onP1 fun h=>(True,(.agg [.opq (.frac (h.2.2.2)),.pad,.pad,.pad,.pad]))
theorem pOffS_ok (hP:PrgOk P) (args p r):pOffS args=some (p,r)→p→CSpec P 46 args r:=onP1_ok (fun a _=>by exact pOff_spec hP a) args p r
noncomputable def patV (h:V4) (p:V3):Rat:=qsub (qdt (pnr (nP h)) p) h.2.2.2
theorem pAt_spec (hP:PrgOk P) (h:V4) (p:V3) (hh:fP h 16777216) (hp:fV p 67108864):CSpec P 48 [(.agg [.opq (.frac (h.1)),.pad,.pad,.pad,.pad,.opq (.frac (h.2.1)),.pad,.pad,.pad,.pad,.opq (.frac (h.2.2.1)),.pad,.pad,.pad,.pad,.opq (.frac (h.2.2.2)),.pad,.pad,.pad,.pad]),(.agg [.opq (.frac (p.1)),.pad,.pad,.pad,.pad,.opq (.frac (p.2.1)),.pad,.pad,.pad,.pad,.opq (.frac (p.2.2)),.pad,.pad,.pad,.pad])] (.agg [.opq (.frac (patV h p)),.pad,.pad,.pad,.pad]):=by
 have HE:=Pt0_all hP TF hP.tF
 have f1:fV (pnr (nP h)) 16777216:=by
  unfold pnr; split
  · exact ⟨Nat.le_trans (fl_i64 (by decide) (by decide)) (by decide),Nat.le_trans (fl_i64 (by decide) (by decide)) (by decide),Nat.le_trans (fl_i64 (by decide) (by decide)) (by decide)⟩
  · exact ⟨hh.1,hh.2.1,hh.2.2.1⟩
 have f4:=Nat.le_trans (qdt_fl f1 hp) (show _≤FB by decide)
 have f5:=Nat.le_trans hh.2.2.2 (show _≤FB by decide)
 obtain ⟨n1,n2,n3⟩:=fV_mono f1 (show _≤67108864 by decide)
 obtain ⟨p1,p2,p3⟩:=hp
 unfold patV
 refine CSpec_go (E:=⟨TF,Pt0⟩) (fn48 hP) HE hP.mix ?_
 obtain ⟨m,hm⟩:∃ m,pnr (nP h)=m:=⟨_,rfl⟩
 rw [hm] at n1 n2 n3 f4
 have f4':fl (qdt (m.1,m.2.1,m.2.2) (p.1,p.2.1,p.2.2))≤FB:=f4
 have hm':pnr (nP (h.1,h.2.1,h.2.2.1,h.2.2.2))=m:=hm
 obtain ⟨h1,h2,h3,h4⟩:=hh
 have h1':=Nat.le_trans h1 (show _≤FB by decide)
 have h2':=Nat.le_trans h2 (show _≤FB by decide)
 have h3':=Nat.le_trans h3 (show _≤FB by decide)
 simp only [go_sem,hm',n1,n2,n3,p1,p2,p3,f4',f5,h1',h2',h3']
 exact fin_z
noncomputable def pAtS:List AV→Option (Prop × AV)
 | [x,y]=>(rawP x).bind fun h=>(rawV y).map fun p=>(fP h 16777216∧fV p 67108864,(.agg [.opq (.frac (patV h p)),.pad,.pad,.pad,.pad]))
 | _=>none
theorem pAtS_eq (x y):pAtS [x,y]=(rawP x).bind fun h=>(rawV y).map fun p=>(fP h 16777216∧fV p 67108864,(.agg [.opq (.frac (patV h p)),.pad,.pad,.pad,.pad])):=rfl
theorem pAtS_ok (hP:PrgOk P) (args p r) (he:pAtS args=some (p,r)) (hp:p):CSpec P 48 args r:=by
 unfold pAtS at he
 split at he
 · simp only [Option.bind_eq_some_iff,Option.map_eq_some_iff,Prod.mk.injEq] at he
   obtain ⟨h,h1,p,h2,rfl,rfl⟩:=he
   rw [rawP_inv h1,rawV_inv h2]
   exact pAt_spec hP h p hp.1 hp.2
 · simp at he
attribute [go_sem] pNormS pOffS pAtS_eq
noncomputable def Pt1:Nat→List AV→Option (Prop × AV):=addS (addS (addS Pt0 43 pNormS) 46 pOffS) 48 pAtS
theorem Pt1_all (hP:PrgOk P) (T) (hT:TyOk P T):EnvOk P ⟨T,Pt1⟩:=((((Pt0_all hP T hT).add (pNormS_ok hP)).add (pOffS_ok hP)).add (pAtS_ok hP))
theorem Pt1_at (f a):Pt1 f a=(addS (addS (addS Pt0 43 pNormS) 46 pOffS) 48 pAtS) f a:=rfl
attribute [go_sem] Pt1_at
abbrev LN:=V3 × V3
def cells6:List AV→Option LN
 | [.opq (.frac (x)),.pad,.pad,.pad,.pad,.opq (.frac (y)),.pad,.pad,.pad,.pad,.opq (.frac (z)),.pad,.pad,.pad,.pad,.opq (.frac (u)),.pad,.pad,.pad,.pad,.opq (.frac (v)),.pad,.pad,.pad,.pad,.opq (.frac (w)),.pad,.pad,.pad,.pad]=>some ((x,y,z),(u,v,w))
 | _=>none
theorem cells6_eq (x y z u v w):cells6 [.opq (.frac (x)),.pad,.pad,.pad,.pad,.opq (.frac (y)),.pad,.pad,.pad,.pad,.opq (.frac (z)),.pad,.pad,.pad,.pad,.opq (.frac (u)),.pad,.pad,.pad,.pad,.opq (.frac (v)),.pad,.pad,.pad,.pad,.opq (.frac (w)),.pad,.pad,.pad,.pad]=some ((x,y,z),(u,v,w)):=rfl
theorem cells6_inv {A:List AV} {l:LN} (h:cells6 A=some l):A=[.opq (.frac (l.1.1)),.pad,.pad,.pad,.pad,.opq (.frac (l.1.2.1)),.pad,.pad,.pad,.pad,.opq (.frac (l.1.2.2)),.pad,.pad,.pad,.pad,.opq (.frac (l.2.1)),.pad,.pad,.pad,.pad,.opq (.frac (l.2.2.1)),.pad,.pad,.pad,.pad,.opq (.frac (l.2.2.2)),.pad,.pad,.pad,.pad]:=by
 unfold cells6 at h
 split at h
 · simp only [Option.some.injEq] at h; subst h; rfl
 · simp at h
def rawLn:AV→Option LN
 | .agg A=>cells6 A
 | _=>none
theorem rawLn_eq (A):rawLn (.agg A)=cells6 A:=rfl
theorem rawLn_inv {v:AV} {l:LN} (h:rawLn v=some l):v=(.agg [.opq (.frac (l.1.1)),.pad,.pad,.pad,.pad,.opq (.frac (l.1.2.1)),.pad,.pad,.pad,.pad,.opq (.frac (l.1.2.2)),.pad,.pad,.pad,.pad,.opq (.frac (l.2.1)),.pad,.pad,.pad,.pad,.opq (.frac (l.2.2.1)),.pad,.pad,.pad,.pad,.opq (.frac (l.2.2.2)),.pad,.pad,.pad,.pad]):=by
 unfold rawLn at h
 split at h
 · rw [cells6_inv h]
 · simp at h
attribute [go_sem] cells6_eq rawLn_eq
noncomputable def lnM (p d:V3):LN:=if d=v0 then (v0,v0) else (lnP p (nrm d),nrm d)
def lnE (d:V3):Int:=if d=v0 then 2 else 0
theorem nrm_fV {d:V3} {n:Nat} (h:fV d n):fV (nrm d) (n+(1+n+n+n)):=by
 have k:=dir_fV h
 unfold nrm
 split
 · exact ⟨fl_qneg k.1,fl_qneg k.2.1,fl_qneg k.2.2⟩
 · exact k
theorem lMake_spec (hP:PrgOk P) (p d:V3) (hp:fV p 1048576) (hd:fV d 1048576):CSpec P 6 [(.agg [.opq (.frac (p.1)),.pad,.pad,.pad,.pad,.opq (.frac (p.2.1)),.pad,.pad,.pad,.pad,.opq (.frac (p.2.2)),.pad,.pad,.pad,.pad]),(.agg [.opq (.frac (d.1)),.pad,.pad,.pad,.pad,.opq (.frac (d.2.1)),.pad,.pad,.pad,.pad,.opq (.frac (d.2.2)),.pad,.pad,.pad,.pad])] (.tup [(.agg [.opq (.frac ((lnM p d).1.1)),.pad,.pad,.pad,.pad,.opq (.frac ((lnM p d).1.2.1)),.pad,.pad,.pad,.pad,.opq (.frac ((lnM p d).1.2.2)),.pad,.pad,.pad,.pad,.opq (.frac ((lnM p d).2.1)),.pad,.pad,.pad,.pad,.opq (.frac ((lnM p d).2.2.1)),.pad,.pad,.pad,.pad,.opq (.frac ((lnM p d).2.2.2)),.pad,.pad,.pad,.pad]),.int .i64 (lnE d)]):=by
 have HE:=Pt1_all hP TF hP.tF
 unfold lnM lnE
 obtain ⟨D1,D2,D3⟩:=fV_mono hd (show _≤FB by decide)
 refine CSpec_go (E:=⟨TF,Pt1⟩) (fn6 hP) HE hP.mix ?_
 by_cases hz:d=v0
 · have hz':decide (((d.1,d.2.1,d.2.2):V3)=v0)=true:=decide_eq_true hz
   rw [if_pos hz,if_pos hz]
   simp only [go_sem,hz',D1,D2,D3]
   exact fin_z
 have hz':decide (((d.1,d.2.1,d.2.2):V3)=v0)=false:=decide_eq_false hz
 rw [if_neg hz,if_neg hz]
 have hen:=nrm_nz hz
 have fe:=nrm_fV hd
 obtain ⟨x1,x2,x3⟩:=fV_mono hd (show _≤268435456 by decide)
 have fa:=dir_fV hd
 obtain ⟨a,ha⟩:∃ a,dirA (d.1,d.2.1,d.2.2)=a:=⟨_,rfl⟩
 have hda:dirA d=a:=ha
 rw [hda] at fa
 obtain ⟨A1,A2,A3⟩:=fV_mono fa (show _≤FB by decide)
 have f0:fl 0≤FB:=fl_zero _
 obtain ⟨P1,P2,P3⟩:=fV_mono hp (show _≤FB by decide)
 obtain ⟨Q1,Q2,Q3⟩:=fV_mono hp (show _≤67108864 by decide)
 by_cases hc:cmpV a v0<0
 · have hc':decide (cmpV (a.1,a.2.1,a.2.2) (0,0,0)<0)=true:=decide_eq_true hc
   have hn:nrm d=(qneg a.1,qneg a.2.1,qneg a.2.2):=by unfold nrm; rw [hda,if_pos hc]; rfl
   obtain ⟨e,he⟩:∃ e:V3,(qneg a.1,qneg a.2.1,qneg a.2.2)=e:=⟨_,rfl⟩
   have e1:qneg a.1=e.1:=congrArg (·.1) he
   have e2:qneg a.2.1=e.2.1:=congrArg (·.2.1) he
   have e3:qneg a.2.2=e.2.2:=congrArg (·.2.2) he
   rw [hn,he] at fe hen ⊢
   obtain ⟨E1,E2,E3⟩:=fV_mono fe (show _≤FB by decide)
   obtain ⟨F1,F2,F3⟩:=fV_mono fe (show _≤67108864 by decide)
   have g1:=qdt_fl (a:=p) (b:=e) hp fe
   have g2:=qdt_fl (a:=e) (b:=e) fe fe
   have hq:qdt e e ≠ 0:=by rw [qdt_vdt]; exact dt_self hen
   have hq':(qdt ((e).1,(e).2.1,(e).2.2) ((e).1,(e).2.1,(e).2.2)=0)=False:=eq_false hq
   have g1':fl (qdt (p.1,p.2.1,p.2.2) ((e).1,(e).2.1,(e).2.2))≤FB:=Nat.le_trans g1 (by decide)
   have g2':fl (qdt ((e).1,(e).2.1,(e).2.2) ((e).1,(e).2.1,(e).2.2))≤FB:=Nat.le_trans g2 (by decide)
   obtain ⟨t,ht⟩:∃ t,qdiv (qdt (p.1,p.2.1,p.2.2) ((e).1,(e).2.1,(e).2.2)) (qdt ((e).1,(e).2.1,(e).2.2) ((e).1,(e).2.1,(e).2.2))=t:=⟨_,rfl⟩
   have ft:=fl_qdiv g1 g2
   have ht':lnT p e=t:=ht
   rw [show qdiv (qdt p e) (qdt e e)=t from ht] at ft
   have ft':fl t≤FB:=Nat.le_trans ft (by decide)
   have m1:=Nat.le_trans (fl_qmul ft fe.1) (show _≤FB by decide)
   have m2:=Nat.le_trans (fl_qmul ft fe.2.1) (show _≤FB by decide)
   have m3:=Nat.le_trans (fl_qmul ft fe.2.2) (show _≤FB by decide)
   unfold lnP
   rw [ht']
   simp only [go_sem,hz',D1,D2,D3,x1,x2,x3,ha,A1,A2,A3,f0,E1,E2,E3,F1,F2,F3,P1,P2,P3,Q1,Q2,Q3,hq',g1',g2',ht,ft',m1,m2,m3,hc',e1,e2,e3]
   exact fin_z
 · have hc':decide (cmpV (a.1,a.2.1,a.2.2) (0,0,0)<0)=false:=decide_eq_false hc
   have hn:nrm d=a:=by unfold nrm; rw [hda,if_neg hc]
   rw [hn] at fe hen ⊢
   obtain ⟨E1,E2,E3⟩:=fV_mono fe (show _≤FB by decide)
   obtain ⟨F1,F2,F3⟩:=fV_mono fe (show _≤67108864 by decide)
   have g1:=qdt_fl (a:=p) (b:=a) hp fe
   have g2:=qdt_fl (a:=a) (b:=a) fe fe
   have hq:qdt a a ≠ 0:=by rw [qdt_vdt]; exact dt_self hen
   have hq':(qdt ((a).1,(a).2.1,(a).2.2) ((a).1,(a).2.1,(a).2.2)=0)=False:=eq_false hq
   have g1':fl (qdt (p.1,p.2.1,p.2.2) ((a).1,(a).2.1,(a).2.2))≤FB:=Nat.le_trans g1 (by decide)
   have g2':fl (qdt ((a).1,(a).2.1,(a).2.2) ((a).1,(a).2.1,(a).2.2))≤FB:=Nat.le_trans g2 (by decide)
   obtain ⟨t,ht⟩:∃ t,qdiv (qdt (p.1,p.2.1,p.2.2) ((a).1,(a).2.1,(a).2.2)) (qdt ((a).1,(a).2.1,(a).2.2) ((a).1,(a).2.1,(a).2.2))=t:=⟨_,rfl⟩
   have ft:=fl_qdiv g1 g2
   have ht':lnT p a=t:=ht
   rw [show qdiv (qdt p a) (qdt a a)=t from ht] at ft
   have ft':fl t≤FB:=Nat.le_trans ft (by decide)
   have m1:=Nat.le_trans (fl_qmul ft fe.1) (show _≤FB by decide)
   have m2:=Nat.le_trans (fl_qmul ft fe.2.1) (show _≤FB by decide)
   have m3:=Nat.le_trans (fl_qmul ft fe.2.2) (show _≤FB by decide)
   unfold lnP
   rw [ht']
   simp only [go_sem,hz',D1,D2,D3,x1,x2,x3,ha,A1,A2,A3,f0,E1,E2,E3,F1,F2,F3,P1,P2,P3,Q1,Q2,Q3,hq',g1',g2',ht,ft',m1,m2,m3,hc']
   exact fin_z
noncomputable def lMakeS:List AV→Option (Prop × AV):=onV2 fun p d=>(fV p 1048576∧fV d 1048576,.tup [(.agg [.opq (.frac ((lnM p d).1.1)),.pad,.pad,.pad,.pad,.opq (.frac ((lnM p d).1.2.1)),.pad,.pad,.pad,.pad,.opq (.frac ((lnM p d).1.2.2)),.pad,.pad,.pad,.pad,.opq (.frac ((lnM p d).2.1)),.pad,.pad,.pad,.pad,.opq (.frac ((lnM p d).2.2.1)),.pad,.pad,.pad,.pad,.opq (.frac ((lnM p d).2.2.2)),.pad,.pad,.pad,.pad]),.int .i64 (lnE d)])
theorem lMakeS_ok (hP:PrgOk P) (args p r):lMakeS args=some (p,r)→p→CSpec P 6 args r:=onV2_ok (fun a b h=>by exact lMake_spec hP a b h.1 h.2) args p r
attribute [go_sem] lMakeS
noncomputable def Pt2:Nat→List AV→Option (Prop × AV):=addS Pt1 6 lMakeS
theorem Pt2_all (hP:PrgOk P) (T) (hT:TyOk P T):EnvOk P ⟨T,Pt2⟩:=((Pt1_all hP T hT).add (lMakeS_ok hP))
theorem Pt2_at (f a):Pt2 f a=(addS Pt1 6 lMakeS) f a:=rfl
attribute [go_sem] Pt2_at
noncomputable def vsbq (q p:V3):V3:=(qsub q.1 p.1,qsub q.2.1 p.2.1,qsub q.2.2 p.2.2)
noncomputable def onN1 (f:LN→Prop × AV):List AV→Option (Prop × AV)
 | [x]=>(rawLn x).map f
 | _=>none
theorem onN1_eq (f x):onN1 f [x]=(rawLn x).map f:=rfl
theorem onN1_ok {fi:Nat} {f:LN→Prop × AV} (h:∀ l,(f l).1→CSpec P fi [(.agg [.opq (.frac (l.1.1)),.pad,.pad,.pad,.pad,.opq (.frac (l.1.2.1)),.pad,.pad,.pad,.pad,.opq (.frac (l.1.2.2)),.pad,.pad,.pad,.pad,.opq (.frac (l.2.1)),.pad,.pad,.pad,.pad,.opq (.frac (l.2.2.1)),.pad,.pad,.pad,.pad,.opq (.frac (l.2.2.2)),.pad,.pad,.pad,.pad])] (f l).2) (args p r) (he:onN1 f args=some (p,r)) (hp:p):CSpec P fi args r:=by
 unfold onN1 at he
 split at he
 · simp only [Option.map_eq_some_iff] at he
   obtain ⟨a,h1,h2⟩:=he
   have:=h a (by rw [h2]; exact hp)
   rw [h2] at this; rw [rawLn_inv h1]; exact this
 · simp at he
attribute [go_sem] onN1_eq
noncomputable def ldr (d:V3):V3:=if d=v0 then (((1:Int):Rat),((0:Int):Rat),((0:Int):Rat)) else d
theorem ldr_nz {n:V3} (h:n ≠ v0):ldr n=n:=if_neg h
theorem ldr_fV {d:V3} {n:Nat} (h:fV d n) (hn:64≤n):fV (ldr d) n:=by
 unfold ldr; split
 · exact ⟨Nat.le_trans (fl_i64 (by decide) (by decide)) hn,Nat.le_trans (fl_i64 (by decide) (by decide)) hn,Nat.le_trans (fl_i64 (by decide) (by decide)) hn⟩
 · exact h
theorem lPoint_spec (hP:PrgOk P) (l:LN):CSpec P 11 [(.agg [.opq (.frac (l.1.1)),.pad,.pad,.pad,.pad,.opq (.frac (l.1.2.1)),.pad,.pad,.pad,.pad,.opq (.frac (l.1.2.2)),.pad,.pad,.pad,.pad,.opq (.frac (l.2.1)),.pad,.pad,.pad,.pad,.opq (.frac (l.2.2.1)),.pad,.pad,.pad,.pad,.opq (.frac (l.2.2.2)),.pad,.pad,.pad,.pad])] (.agg [.opq (.frac (l.1.1)),.pad,.pad,.pad,.pad,.opq (.frac (l.1.2.1)),.pad,.pad,.pad,.pad,.opq (.frac (l.1.2.2)),.pad,.pad,.pad,.pad]):=by
 have HE:=Pt2_all hP TF hP.tF
 refine CSpec_go (E:=⟨TF,Pt2⟩) (fn11 hP) HE hP.mix ?_
 simp only [go_sem]
 exact fin_z
noncomputable def lPointS:List AV→Option (Prop × AV):=onN1 fun l=>(True,(.agg [.opq (.frac (l.1.1)),.pad,.pad,.pad,.pad,.opq (.frac (l.1.2.1)),.pad,.pad,.pad,.pad,.opq (.frac (l.1.2.2)),.pad,.pad,.pad,.pad]))
theorem lPointS_ok (hP:PrgOk P) (args p r):lPointS args=some (p,r)→p→CSpec P 11 args r:=onN1_ok (fun l _=>by exact lPoint_spec hP l) args p r
theorem lDir_spec (hP:PrgOk P) (l:LN) (hl:fV l.2 FB):CSpec P 12 [(.agg [.opq (.frac (l.1.1)),.pad,.pad,.pad,.pad,.opq (.frac (l.1.2.1)),.pad,.pad,.pad,.pad,.opq (.frac (l.1.2.2)),.pad,.pad,.pad,.pad,.opq (.frac (l.2.1)),.pad,.pad,.pad,.pad,.opq (.frac (l.2.2.1)),.pad,.pad,.pad,.pad,.opq (.frac (l.2.2.2)),.pad,.pad,.pad,.pad])] (.agg [.opq (.frac ((ldr l.2).1)),.pad,.pad,.pad,.pad,.opq (.frac ((ldr l.2).2.1)),.pad,.pad,.pad,.pad,.opq (.frac ((ldr l.2).2.2)),.pad,.pad,.pad,.pad]):=by
 have HE:=Pt2_all hP TF hP.tF
 obtain ⟨⟨p1,p2,p3⟩,a,b,c⟩:=l
 obtain ⟨a1,a2,a3⟩:=hl
 simp only [] at a1 a2 a3 ⊢
 have b0:((-9223372036854775808:Int)≤0∧(0:Int)≤9223372036854775807)=True:=eq_true (by decide)
 have b1:((-9223372036854775808:Int)≤1∧(1:Int)≤9223372036854775807)=True:=eq_true (by decide)
 refine CSpec_go (E:=⟨TF,Pt2⟩) (fn12 hP) HE hP.mix ?_
 by_cases hz:((a,b,c):V3)=v0
 · have hz':=decide_eq_true hz
   unfold ldr
   rw [if_pos hz]
   simp only [go_sem,hz',b0,b1,a1,a2,a3]
   exact fin_z
 · have hz':=decide_eq_false hz
   rw [ldr_nz hz]
   simp only [go_sem,hz',a1,a2,a3]
   exact fin_z
noncomputable def lDirS:List AV→Option (Prop × AV):=onN1 fun l=>(fV l.2 FB,(.agg [.opq (.frac ((ldr l.2).1)),.pad,.pad,.pad,.pad,.opq (.frac ((ldr l.2).2.1)),.pad,.pad,.pad,.pad,.opq (.frac ((ldr l.2).2.2)),.pad,.pad,.pad,.pad]))
theorem lDirS_ok (hP:PrgOk P) (args p r):lDirS args=some (p,r)→p→CSpec P 12 args r:=onN1_ok (fun l h=>by exact lDir_spec hP l h) args p r
attribute [go_sem] lPointS lDirS
noncomputable def Pt3:Nat→List AV→Option (Prop × AV):=addS (addS Pt2 11 lPointS) 12 lDirS
theorem Pt3_all (hP:PrgOk P) (T) (hT:TyOk P T):EnvOk P ⟨T,Pt3⟩:=(((Pt2_all hP T hT).add (lPointS_ok hP)).add (lDirS_ok hP))
theorem Pt3_at (f a):Pt3 f a=(addS (addS Pt2 11 lPointS) 12 lDirS) f a:=rfl
attribute [go_sem] Pt3_at
theorem lThr_spec (hP:PrgOk P) (p q:V3) (hp:fV p 262144) (hq:fV q 262144):CSpec P 4 [(.agg [.opq (.frac (p.1)),.pad,.pad,.pad,.pad,.opq (.frac (p.2.1)),.pad,.pad,.pad,.pad,.opq (.frac (p.2.2)),.pad,.pad,.pad,.pad]),(.agg [.opq (.frac (q.1)),.pad,.pad,.pad,.pad,.opq (.frac (q.2.1)),.pad,.pad,.pad,.pad,.opq (.frac (q.2.2)),.pad,.pad,.pad,.pad])] (.tup [(.agg [.opq (.frac ((lnM p (vsbq q p)).1.1)),.pad,.pad,.pad,.pad,.opq (.frac ((lnM p (vsbq q p)).1.2.1)),.pad,.pad,.pad,.pad,.opq (.frac ((lnM p (vsbq q p)).1.2.2)),.pad,.pad,.pad,.pad,.opq (.frac ((lnM p (vsbq q p)).2.1)),.pad,.pad,.pad,.pad,.opq (.frac ((lnM p (vsbq q p)).2.2.1)),.pad,.pad,.pad,.pad,.opq (.frac ((lnM p (vsbq q p)).2.2.2)),.pad,.pad,.pad,.pad]),.int .i64 (lnE (vsbq q p))]):=by
 have HE:=Pt3_all hP TF hP.tF
 obtain ⟨p1,p2,p3⟩:=fV_mono hp (show _≤FB by decide)
 obtain ⟨q1,q2,q3⟩:=fV_mono hq (show _≤FB by decide)
 obtain ⟨P1,P2,P3⟩:=fV_mono hp (show _≤1048576 by decide)
 have s1:=Nat.le_trans (fl_qsub hq.1 hp.1) (show _≤1048576 by decide)
 have s2:=Nat.le_trans (fl_qsub hq.2.1 hp.2.1) (show _≤1048576 by decide)
 have s3:=Nat.le_trans (fl_qsub hq.2.2 hp.2.2) (show _≤1048576 by decide)
 unfold vsbq
 refine CSpec_go (E:=⟨TF,Pt3⟩) (fn4 hP) HE hP.mix ?_
 simp only [go_sem,p1,p2,p3,q1,q2,q3,P1,P2,P3,s1,s2,s3]
 exact fin_z
def wMulA:List AV→Option (Prop × AV):=onW2 fun a b=>(wl a≤34359738368∧wl b≤34359738368,.agg [.bool (decide (a*b<0)),.opq (.nat (a*b).natAbs),.pad])
theorem wMulA_ok (hP:PrgOk P) (args p r):wMulA args=some (p,r)→p→CSpec P 35 args r:=onW2_ok (fun a b h=>by exact (wMul_spec hP a b h.1 h.2).conv (CvL.conv (.wholeIn _ .nil))) args p r
attribute [go_sem] wMulA
noncomputable def Mt0:Nat→List AV→Option (Prop × AV):=addS Pt3 35 wMulA
theorem Mt0_all (hP:PrgOk P) (T) (hT:TyOk P T):EnvOk P ⟨T,Mt0⟩:=((Pt3_all hP T hT).add (wMulA_ok hP))
theorem Mt0_at (f a):Mt0 f a=(addS Pt3 35 wMulA) f a:=rfl
attribute [go_sem] Mt0_at
theorem p4_sg {h:V4} (hg:g4 h ≠ 0) (x:Rat):sg (decide (n4 h x<0)) ((n4 h x).natAbs / g4 h)=p4 h x:=by unfold p4 primZ; rw [if_neg hg]
theorem p4_sign {h:V4} (hg:g4 h ≠ 0) {x:Rat} (hd:x.den ∣ m4 h) (hx:n4 h x ∈ l4 h):(x=0 ↔ p4 h x=0)∧(x<0 ↔ p4 h x<0):=by
 have e:=p4_mul hg hd hx
 have hk:(0:Rat)<(m4 h:Rat) / (g4 h:Rat):=by
  rw [Rat.div_def]
  exact Rat.mul_pos (nat_pos' (Nat.pos_iff_ne_zero.1 (m4_pos h))) (Rat.inv_pos.2 (nat_pos' hg))
 generalize (m4 h:Rat) / (g4 h:Rat)=k at *
 generalize p4 h x=r at *
 have m1:0<x→0<k*x:=fun h=>Rat.mul_pos hk h
 have m2:x<0→k*x<0:=fun h=>by have:=Rat.mul_pos hk (show 0 < -x by grind); grind
 have c0:((r:Int):Rat)=0 ↔ r=0:=by rw [← Rat.intCast_zero]; exact Rat.intCast_inj
 have c1:((r:Int):Rat)<0 ↔ r<0:=by rw [← Rat.intCast_zero]; exact Rat.intCast_lt_intCast
 rw [← c0,← c1,e]
 rcases (show x<0∨x=0∨0<x by grind) with h|h|h
 · have:=m2 h; constructor<;>constructor<;>intro<;>grind
 · subst h; constructor<;>constructor<;>intro<;>grind
 · have:=m1 h; constructor<;>constructor<;>intro<;>grind
theorem plN_t {h:V4} (e:s4 h=true):plN h=(((-p4 h h.1:Int):Rat),((-p4 h h.2.1:Int):Rat),((-p4 h h.2.2.1:Int):Rat),((-p4 h h.2.2.2:Int):Rat)):=by unfold plN q4; simp [e]
theorem plN_f {h:V4} (e:s4 h=false):plN h=(((p4 h h.1:Int):Rat),((p4 h h.2.1:Int):Rat),((p4 h h.2.2.1:Int):Rat),((p4 h h.2.2.2:Int):Rat)):=by unfold plN q4; simp [e]
theorem sgn_0 (z:Int):(sgnZ z == 0)=decide (z=0):=by
 unfold sgnZ; split
 · simp_all
 · split<;>simp_all
theorem pMake_spec (hP:PrgOk P) (h:V4) (hn:nP h ≠ v0) (hb:fP h 4194304):CSpec P 7 [(.agg [.opq (.frac (h.1)),.pad,.pad,.pad,.pad,.opq (.frac (h.2.1)),.pad,.pad,.pad,.pad,.opq (.frac (h.2.2.1)),.pad,.pad,.pad,.pad]),(.agg [.opq (.frac (h.2.2.2)),.pad,.pad,.pad,.pad])] (.tup [(.agg [.opq (.frac ((plN h).1)),.pad,.pad,.pad,.pad,.opq (.frac ((plN h).2.1)),.pad,.pad,.pad,.pad,.opq (.frac ((plN h).2.2.1)),.pad,.pad,.pad,.pad,.opq (.frac ((plN h).2.2.2)),.pad,.pad,.pad,.pad]),.int .i64 0]):=by
 have HE:=Mt0_all hP TF hP.tF
 obtain ⟨x,y,z,w⟩:=h
 obtain ⟨h1,h2,h3,h4⟩:=hb
 have hn':decide (((x,y,z):V3)=v0)=false:=decide_eq_false hn
 simp only [] at h1 h2 h3 h4 ⊢
 have w1:IntKind.i64.wrap (0+1)=1:=rfl
 have w2:IntKind.i64.wrap (1+1)=2:=rfl
 have n1:(1:Int).toNat=1:=rfl
 have le1:((0:Int)≤1)=True:=eq_true (by decide)
 have w3:IntKind.i64.wrap (2+1)=3:=rfl
 have n2:(2:Int).toNat=2:=rfl
 have le2:((0:Int)≤2)=True:=eq_true (by decide)
 have w4:IntKind.i64.wrap (3+1)=4:=rfl
 have n3:(3:Int).toNat=3:=rfl
 have le3:((0:Int)≤3)=True:=eq_true (by decide)
 have b1:blen 1≤68719476736:=by decide
 obtain ⟨m1,hm1⟩:∃ m,1*(x.den / Nat.gcd 1 x.den)=m:=⟨_,rfl⟩
 obtain ⟨m2,hm2⟩:∃ m,m1*(y.den / Nat.gcd m1 y.den)=m:=⟨_,rfl⟩
 obtain ⟨m3,hm3⟩:∃ m,m2*(z.den / Nat.gcd m2 z.den)=m:=⟨_,rfl⟩
 obtain ⟨M,hm4⟩:∃ m,m3*(w.den / Nat.gcd m3 w.den)=m:=⟨_,rfl⟩
 have hmV:m4 (x,y,z,w)=M:=by rw [← hm4,← hm3,← hm2,← hm1]; rfl
 have d1:=fl_den h1
 have d2:=fl_den h2
 have d3:=fl_den h3
 have d4:=fl_den h4
 have c1:blen m1≤1+4194304:=by rw [← hm1]; exact lcmD_blen (show blen 1≤1 by decide) d1
 have c2:blen m2≤1+4194304+4194304:=by rw [← hm2]; exact lcmD_blen c1 d2
 have c3:blen m3≤1+4194304+4194304+4194304:=by rw [← hm3]; exact lcmD_blen c2 d3
 have c4:blen M≤1+4194304+4194304+4194304+4194304:=by rw [← hm4]; exact lcmD_blen c3 d4
 have e1:blen x.den≤34359738368:=by omega
 have f1:blen x.den≤68719476736:=by omega
 have k1:blen m1≤68719476736:=by omega
 have gc1:blen (Nat.gcd 1 x.den)≤68719476736:=gcd_blen b1 f1
 have z1:=gcd_ne (m:=1) x.den_pos
 have q1:blen (x.den / Nat.gcd 1 x.den)≤68719476736:=blen_le_of (Nat.div_le_self _ _) f1
 have e2:blen y.den≤34359738368:=by omega
 have f2:blen y.den≤68719476736:=by omega
 have k2:blen m2≤68719476736:=by omega
 have gc2:blen (Nat.gcd m1 y.den)≤68719476736:=gcd_blen k1 f2
 have z2:=gcd_ne (m:=m1) y.den_pos
 have q2:blen (y.den / Nat.gcd m1 y.den)≤68719476736:=blen_le_of (Nat.div_le_self _ _) f2
 have e3:blen z.den≤34359738368:=by omega
 have f3:blen z.den≤68719476736:=by omega
 have k3:blen m3≤68719476736:=by omega
 have gc3:blen (Nat.gcd m2 z.den)≤68719476736:=gcd_blen k2 f3
 have z3:=gcd_ne (m:=m2) z.den_pos
 have q3:blen (z.den / Nat.gcd m2 z.den)≤68719476736:=blen_le_of (Nat.div_le_self _ _) f3
 have e4:blen w.den≤34359738368:=by omega
 have f4:blen w.den≤68719476736:=by omega
 have k4:blen M≤68719476736:=by omega
 have gc4:blen (Nat.gcd m3 w.den)≤68719476736:=gcd_blen k3 f4
 have z4:=gcd_ne (m:=m3) w.den_pos
 have q4:blen (w.den / Nat.gcd m3 w.den)≤68719476736:=blen_le_of (Nat.div_le_self _ _) f4
 have o1:(x.den=0)=False:=eq_false x.den_nz
 have r1:blen (M / x.den)≤68719476736:=blen_le_of (Nat.div_le_self _ _) k4
 have s1:wl x.num≤34359738368:=Nat.le_trans (fl_num h1) (by decide)
 have o2:(y.den=0)=False:=eq_false y.den_nz
 have r2:blen (M / y.den)≤68719476736:=blen_le_of (Nat.div_le_self _ _) k4
 have s2:wl y.num≤34359738368:=Nat.le_trans (fl_num h2) (by decide)
 have o3:(z.den=0)=False:=eq_false z.den_nz
 have r3:blen (M / z.den)≤68719476736:=blen_le_of (Nat.div_le_self _ _) k4
 have s3:wl z.num≤34359738368:=Nat.le_trans (fl_num h3) (by decide)
 have o4:(w.den=0)=False:=eq_false w.den_nz
 have r4:blen (M / w.den)≤68719476736:=blen_le_of (Nat.div_le_self _ _) k4
 have s4:wl w.num≤34359738368:=Nat.le_trans (fl_num h4) (by decide)
 have a1:=Nat.le_trans h1 (show _≤FB by decide)
 have a2:=Nat.le_trans h2 (show _≤FB by decide)
 have a3:=Nat.le_trans h3 (show _≤FB by decide)
 have a4:=Nat.le_trans h4 (show _≤FB by decide)
 have u0:∀ d:Nat,wl ((M / d:Nat):Int)≤1+4194304+4194304+4194304+4194304:=fun d=>blen_le_of (Nat.div_le_self _ _) c4
 have t1:wl ((M / x.den:Nat):Int)≤34359738368:=Nat.le_trans (u0 _) (by decide)
 obtain ⟨N1,hN1⟩:∃ N,x.num*((M / x.den:Nat):Int)=N:=⟨_,rfl⟩
 have u1:blen N1.natAbs≤68719476736:=by rw [← hN1]; exact Nat.le_trans (wl_mul (fl_num h1) (u0 _)) (by decide)
 have hn1:n4 (x,y,z,w) x=N1:=by unfold n4; rw [hmV]; exact hN1
 have t2:wl ((M / y.den:Nat):Int)≤34359738368:=Nat.le_trans (u0 _) (by decide)
 obtain ⟨N2,hN2⟩:∃ N,y.num*((M / y.den:Nat):Int)=N:=⟨_,rfl⟩
 have u2:blen N2.natAbs≤68719476736:=by rw [← hN2]; exact Nat.le_trans (wl_mul (fl_num h2) (u0 _)) (by decide)
 have hn2:n4 (x,y,z,w) y=N2:=by unfold n4; rw [hmV]; exact hN2
 have t3:wl ((M / z.den:Nat):Int)≤34359738368:=Nat.le_trans (u0 _) (by decide)
 obtain ⟨N3,hN3⟩:∃ N,z.num*((M / z.den:Nat):Int)=N:=⟨_,rfl⟩
 have u3:blen N3.natAbs≤68719476736:=by rw [← hN3]; exact Nat.le_trans (wl_mul (fl_num h3) (u0 _)) (by decide)
 have hn3:n4 (x,y,z,w) z=N3:=by unfold n4; rw [hmV]; exact hN3
 have t4:wl ((M / w.den:Nat):Int)≤34359738368:=Nat.le_trans (u0 _) (by decide)
 obtain ⟨N4,hN4⟩:∃ N,w.num*((M / w.den:Nat):Int)=N:=⟨_,rfl⟩
 have u4:blen N4.natAbs≤68719476736:=by rw [← hN4]; exact Nat.le_trans (wl_mul (fl_num h4) (u0 _)) (by decide)
 have hn4:n4 (x,y,z,w) w=N4:=by unfold n4; rw [hmV]; exact hN4
 obtain ⟨G,hG⟩:∃ G,g4 (x,y,z,w)=G:=⟨_,rfl⟩
 obtain ⟨G1,hG1⟩:∃ g,Nat.gcd 0 N1.natAbs=g:=⟨_,rfl⟩
 obtain ⟨G2,hG2⟩:∃ g,Nat.gcd G1 N2.natAbs=g:=⟨_,rfl⟩
 obtain ⟨G3,hG3⟩:∃ g,Nat.gcd G2 N3.natAbs=g:=⟨_,rfl⟩
 have hG4:Nat.gcd G3 N4.natAbs=G:=by rw [← hG3,← hG2,← hG1,← hG,← hn1,← hn2,← hn3,← hn4]; rfl
 have b0:blen 0≤68719476736:=by decide
 have v1:blen G1≤68719476736:=by rw [← hG1]; exact gcd_blen b0 u1
 have v2:blen G2≤68719476736:=by rw [← hG2]; exact gcd_blen v1 u2
 have v3:blen G3≤68719476736:=by rw [← hG3]; exact gcd_blen v2 u3
 have v4:blen G≤68719476736:=by rw [← hG4]; exact gcd_blen v3 u4
 have hg0:G ≠ 0:=by
  rw [← hG]
  have hn2:((x,y,z):V3) ≠ v0:=hn
  by_cases e1:x=0
  · by_cases e2:y=0
    · by_cases e3:z=0
      · exact absurd ((v0_iff _).2 ⟨e1,e2,e3⟩) hn2
      · exact g4_nz (m4_3 (x,y,z,w)) (by simp [l4]) e3
    · exact g4_nz (m4_2 (x,y,z,w)) (by simp [l4]) e2
  · exact g4_nz (m4_1 (x,y,z,w)) (by simp [l4]) e1
 have hg0':(G=0)=False:=eq_false hg0
 obtain ⟨R1,hR1⟩:∃ R,sg (decide (N1<0)) (N1.natAbs / G)=R:=⟨_,rfl⟩
 have hp1:p4 (x,y,z,w) x=R1:=by rw [← p4_sg (by rw [hG]; exact hg0),hG,hn1]; exact hR1
 have j1:blen (N1.natAbs / G)≤68719476736:=blen_le_of (Nat.div_le_self _ _) u1
 have i1:wl R1≤68719476736:=by rw [← hR1]; unfold wl; rw [sg_abs]; exact j1
 obtain ⟨R2,hR2⟩:∃ R,sg (decide (N2<0)) (N2.natAbs / G)=R:=⟨_,rfl⟩
 have hp2:p4 (x,y,z,w) y=R2:=by rw [← p4_sg (by rw [hG]; exact hg0),hG,hn2]; exact hR2
 have j2:blen (N2.natAbs / G)≤68719476736:=blen_le_of (Nat.div_le_self _ _) u2
 have i2:wl R2≤68719476736:=by rw [← hR2]; unfold wl; rw [sg_abs]; exact j2
 obtain ⟨R3,hR3⟩:∃ R,sg (decide (N3<0)) (N3.natAbs / G)=R:=⟨_,rfl⟩
 have hp3:p4 (x,y,z,w) z=R3:=by rw [← p4_sg (by rw [hG]; exact hg0),hG,hn3]; exact hR3
 have j3:blen (N3.natAbs / G)≤68719476736:=blen_le_of (Nat.div_le_self _ _) u3
 have i3:wl R3≤68719476736:=by rw [← hR3]; unfold wl; rw [sg_abs]; exact j3
 obtain ⟨R4,hR4⟩:∃ R,sg (decide (N4<0)) (N4.natAbs / G)=R:=⟨_,rfl⟩
 have hp4:p4 (x,y,z,w) w=R4:=by rw [← p4_sg (by rw [hG]; exact hg0),hG,hn4]; exact hR4
 have j4:blen (N4.natAbs / G)≤68719476736:=blen_le_of (Nat.div_le_self _ _) u4
 have i4:wl R4≤68719476736:=by rw [← hR4]; unfold wl; rw [sg_abs]; exact j4
 refine CSpec_go (E:=⟨TF,Mt0⟩) (fn7 hP) HE hP.mix ?_
 simp only [go_sem,hn',le1,le2,le3,n1,n2,n3,a1,a2,a3,a4]
 refine trX_once HE hP.mix 121 200 (by kernel_rfl) ?_
 simp only [go_sem,w1,n1,n2,n3,le1,le2,le3,a1,a2,a3,a4,b1,e1,f1,gc1,z1,q1,hm1]
 refine goX_once HE hP.mix 121 300 (by kernel_rfl) ?_
 simp only [go_sem,w2,n1,n2,n3,le1,le2,le3,b1,e2,f2,k1,gc2,z2,q2,hm2]
 refine goX_once HE hP.mix 121 400 (by kernel_rfl) ?_
 simp only [go_sem,w3,n1,n2,n3,le1,le2,le3,b1,e3,f3,k2,gc3,z3,q3,hm3]
 refine goX_once HE hP.mix 121 500 (by kernel_rfl) ?_
 simp only [go_sem,w4,n1,n2,n3,le1,le2,le3,b1,e4,f4,k3,gc4,z4,q4,hm4]
 refine goX_once HE hP.mix 121 600 (by kernel_rfl) ?_
 simp only [go_sem]
 refine trX_once HE hP.mix 121 700 (by kernel_rfl) ?_
 simp only [go_sem,w1,n1,n2,n3,le1,le2,le3,e1,f1,k4,o1,r1,s1,t1,sg_f,hN1,a1,a2,a3,a4,ne_eq,not_false_eq_true,imp_self]
 try refine ⟨by simp,?_⟩
 refine goX_once HE hP.mix 121 800 (by kernel_rfl) ?_
 simp only [go_sem,w2,n1,n2,n3,le1,le2,le3,e2,f2,k4,o2,r2,s2,t2,sg_f,hN2,a1,a2,a3,a4,ne_eq,not_false_eq_true,imp_self]
 try refine ⟨by simp,?_⟩
 refine goX_once HE hP.mix 121 900 (by kernel_rfl) ?_
 simp only [go_sem,w3,n1,n2,n3,le1,le2,le3,e3,f3,k4,o3,r3,s3,t3,sg_f,hN3,a1,a2,a3,a4,ne_eq,not_false_eq_true,imp_self]
 try refine ⟨by simp,?_⟩
 refine goX_once HE hP.mix 121 1000 (by kernel_rfl) ?_
 simp only [go_sem,w4,n1,n2,n3,le1,le2,le3,e4,f4,k4,o4,r4,s4,t4,sg_f,hN4,a1,a2,a3,a4,ne_eq,not_false_eq_true,imp_self]
 refine ⟨by simp,?_⟩
 refine goX_once HE hP.mix 121 1100 (by kernel_rfl) ?_
 simp only [go_sem]
 refine icX_vc (E:=⟨TF,Mt0⟩) (fn38 hP) HE hP.mix rfl rfl (Nat.le_of_ble_eq_true rfl) 1200 ?_
 simp only [go_sem]
 refine icX_vc (E:=⟨TF,Mt0⟩) (fn74 hP) HE hP.mix rfl rfl (Nat.le_of_ble_eq_true rfl) 1300 ?_
 simp only [go_sem]
 refine trX_once HE hP.mix 13 1350 (by kernel_rfl) ?_
 simp only [go_sem,w1]
 refine icX_vc (E:=⟨TF,Mt0⟩) (fn75 hP) HE hP.mix rfl rfl (Nat.le_of_ble_eq_true rfl) 1400 ?_
 simp only [go_sem,le1,le2,le3,n1,n2,n3,b0,u1,hG1]
 unfold finX
 simp only [go_sem,w1]
 refine goX_once HE hP.mix 13 1450 (by kernel_rfl) ?_
 simp only [go_sem,w2]
 refine icX_vc (E:=⟨TF,Mt0⟩) (fn75 hP) HE hP.mix rfl rfl (Nat.le_of_ble_eq_true rfl) 1500 ?_
 simp only [go_sem,le1,le2,le3,n1,n2,n3,v1,u2,hG2]
 unfold finX
 simp only [go_sem,w2]
 refine goX_once HE hP.mix 13 1550 (by kernel_rfl) ?_
 simp only [go_sem,w3]
 refine icX_vc (E:=⟨TF,Mt0⟩) (fn75 hP) HE hP.mix rfl rfl (Nat.le_of_ble_eq_true rfl) 1600 ?_
 simp only [go_sem,le1,le2,le3,n1,n2,n3,v2,u3,hG3]
 unfold finX
 simp only [go_sem,w3]
 refine goX_once HE hP.mix 13 1650 (by kernel_rfl) ?_
 simp only [go_sem,w4]
 refine icX_vc (E:=⟨TF,Mt0⟩) (fn75 hP) HE hP.mix rfl rfl (Nat.le_of_ble_eq_true rfl) 1700 ?_
 simp only [go_sem,le1,le2,le3,n1,n2,n3,v3,u4,hG4]
 unfold finX
 simp only [go_sem,w4]
 refine goX_once HE hP.mix 13 1750 (by kernel_rfl) ?_
 simp only [go_sem]
 unfold finX
 simp only [go_sem]
 refine icX_vc (E:=⟨TF,Mt0⟩) (fn74 hP) HE hP.mix rfl rfl (Nat.le_of_ble_eq_true rfl) 1850 ?_
 simp only [go_sem]
 refine trX_once HE hP.mix 13 1900 (by kernel_rfl) ?_
 simp only [go_sem,w1]
 refine icX_vc (E:=⟨TF,Mt0⟩) (fn76 hP) HE hP.mix rfl rfl (Nat.le_of_ble_eq_true rfl) 1950 ?_
 simp only [go_sem,le1,le2,le3,n1,n2,n3,u1,v4,hg0',j1,hR1]
 unfold finX
 simp only [go_sem,w1]
 refine goX_once HE hP.mix 13 2000 (by kernel_rfl) ?_
 simp only [go_sem,w2]
 refine icX_vc (E:=⟨TF,Mt0⟩) (fn76 hP) HE hP.mix rfl rfl (Nat.le_of_ble_eq_true rfl) 2050 ?_
 simp only [go_sem,le1,le2,le3,n1,n2,n3,u2,v4,hg0',j2,hR2]
 unfold finX
 simp only [go_sem,w2]
 refine goX_once HE hP.mix 13 2100 (by kernel_rfl) ?_
 simp only [go_sem,w3]
 refine icX_vc (E:=⟨TF,Mt0⟩) (fn76 hP) HE hP.mix rfl rfl (Nat.le_of_ble_eq_true rfl) 2150 ?_
 simp only [go_sem,le1,le2,le3,n1,n2,n3,u3,v4,hg0',j3,hR3]
 unfold finX
 simp only [go_sem,w3]
 refine goX_once HE hP.mix 13 2200 (by kernel_rfl) ?_
 simp only [go_sem,w4]
 refine icX_vc (E:=⟨TF,Mt0⟩) (fn76 hP) HE hP.mix rfl rfl (Nat.le_of_ble_eq_true rfl) 2250 ?_
 simp only [go_sem,le1,le2,le3,n1,n2,n3,u4,v4,hg0',j4,hR4]
 unfold finX
 simp only [go_sem,w4]
 refine goX_once HE hP.mix 13 2300 (by kernel_rfl) ?_
 simp only [go_sem]
 unfold finX
 simp only [go_sem]
 unfold finX
 simp only [go_sem]
 have i0:wl 0≤68719476736:=by decide
 have zw:((0:Int)=0)=True:=eq_true rfl
 have hgg:g4 (x,y,z,w) ≠ 0:=by rw [hG]; exact hg0
 have sx:=p4_sign hgg (m4_1 (x,y,z,w)) (by simp [l4])
 have sy:=p4_sign hgg (m4_2 (x,y,z,w)) (by simp [l4])
 have sz:=p4_sign hgg (m4_3 (x,y,z,w)) (by simp [l4])
 simp only [hp1,hp2,hp3] at sx sy sz
 have hs4:AM.s4 (x,y,z,w)=if R1=0 then (if R2=0 then decide (R3<0) else decide (R2<0)) else decide (R1<0):=by
  unfold AM.s4; simp only [sx.1,sx.2,sy.1,sy.2,sz.1,sz.2]
 refine trX_once HE hP.mix 121 2400 (by kernel_rfl) ?_
 by_cases t1:R1=0
 · have t1':=decide_eq_true t1
   simp only [go_sem,w1,le1,le2,le3,n1,n2,n3,i0,i1,i2,i3,i4,sgn_0,t1',zw]
   refine goX_once HE hP.mix 121 2500 (by kernel_rfl) ?_
   by_cases t2:R2=0
   · have t2':=decide_eq_true t2
     simp only [go_sem,w2,le1,le2,le3,n1,n2,n3,i0,i1,i2,i3,i4,sgn_0,t2',zw]
     refine goX_once HE hP.mix 121 2600 (by kernel_rfl) ?_
     have t3:decide (R3=0)=false:=decide_eq_false fun h3=>hn ((v0_iff _).2 ⟨sx.1.2 t1,sy.1.2 t2,sz.1.2 h3⟩)
     simp only [go_sem,w3,le1,le2,le3,n1,n2,n3,i0,i1,i2,i3,i4,sgn_0,t3,zw]
     by_cases hlt:R3<0
     · rw [show plN (x,y,z,w)=(((-0:Int):Rat),((-0:Int):Rat),((-R3:Int):Rat),((-R4:Int):Rat)) by rw [plN_t (by rw [hs4]; simp [t1,t2,hlt])]; simp only [hp1,hp2,hp3,hp4,t1,t2]]
       have hlt':=decide_eq_true hlt
       simp only [go_sem,sgn_neg,sgn_0,t1,t2,hlt',le1,le2,le3,n1,n2,n3,i0,i1,i2,i3,i4,zw]
       refine trX_once HE hP.mix 121 2900 (by kernel_rfl) ?_
       simp only [go_sem,w1,le1,le2,le3,n1,n2,n3,i0,i1,i2,i3,i4]
       refine goX_once HE hP.mix 121 3000 (by kernel_rfl) ?_
       simp only [go_sem,w2,le1,le2,le3,n1,n2,n3,i0,i1,i2,i3,i4]
       refine goX_once HE hP.mix 121 3100 (by kernel_rfl) ?_
       simp only [go_sem,w3,le1,le2,le3,n1,n2,n3,i0,i1,i2,i3,i4]
       refine goX_once HE hP.mix 121 3200 (by kernel_rfl) ?_
       simp only [go_sem,w4,le1,le2,le3,n1,n2,n3,i0,i1,i2,i3,i4]
       refine goX_once HE hP.mix 121 3300 (by kernel_rfl) ?_
       simp only [go_sem,le1,le2,le3,n1,n2,n3,i0,i1,i2,i3,i4]
       exact fin_z
     · rw [show plN (x,y,z,w)=(((0:Int):Rat),((0:Int):Rat),((R3:Int):Rat),((R4:Int):Rat)) by rw [plN_f (by rw [hs4]; simp [t1,t2,hlt])]; simp only [hp1,hp2,hp3,hp4,t1,t2]]
       have hlt':=decide_eq_false hlt
       simp only [go_sem,sgn_neg,sgn_0,t1,t2,hlt',le1,le2,le3,n1,n2,n3,i0,i1,i2,i3,i4,zw]
       exact fin_z
   · have t2':=decide_eq_false t2
     simp only [go_sem,w2,le1,le2,le3,n1,n2,n3,i0,i1,i2,i3,i4,sgn_0,t2',zw]
     by_cases hlt:R2<0
     · rw [show plN (x,y,z,w)=(((-0:Int):Rat),((-R2:Int):Rat),((-R3:Int):Rat),((-R4:Int):Rat)) by rw [plN_t (by rw [hs4]; simp [t1,t2,hlt])]; simp only [hp1,hp2,hp3,hp4,t1,t2]]
       have hlt':=decide_eq_true hlt
       simp only [go_sem,sgn_neg,sgn_0,t1,t2,hlt',le1,le2,le3,n1,n2,n3,i0,i1,i2,i3,i4,zw]
       refine trX_once HE hP.mix 121 2900 (by kernel_rfl) ?_
       simp only [go_sem,w1,le1,le2,le3,n1,n2,n3,i0,i1,i2,i3,i4]
       refine goX_once HE hP.mix 121 3000 (by kernel_rfl) ?_
       simp only [go_sem,w2,le1,le2,le3,n1,n2,n3,i0,i1,i2,i3,i4]
       refine goX_once HE hP.mix 121 3100 (by kernel_rfl) ?_
       simp only [go_sem,w3,le1,le2,le3,n1,n2,n3,i0,i1,i2,i3,i4]
       refine goX_once HE hP.mix 121 3200 (by kernel_rfl) ?_
       simp only [go_sem,w4,le1,le2,le3,n1,n2,n3,i0,i1,i2,i3,i4]
       refine goX_once HE hP.mix 121 3300 (by kernel_rfl) ?_
       simp only [go_sem,le1,le2,le3,n1,n2,n3,i0,i1,i2,i3,i4]
       exact fin_z
     · rw [show plN (x,y,z,w)=(((0:Int):Rat),((R2:Int):Rat),((R3:Int):Rat),((R4:Int):Rat)) by rw [plN_f (by rw [hs4]; simp [t1,t2,hlt])]; simp only [hp1,hp2,hp3,hp4,t1,t2]]
       have hlt':=decide_eq_false hlt
       simp only [go_sem,sgn_neg,sgn_0,t1,t2,hlt',le1,le2,le3,n1,n2,n3,i0,i1,i2,i3,i4,zw]
       exact fin_z
 · have t1':=decide_eq_false t1
   simp only [go_sem,w1,le1,le2,le3,n1,n2,n3,i0,i1,i2,i3,i4,sgn_0,t1',zw]
   by_cases hlt:R1<0
   · rw [show plN (x,y,z,w)=(((-R1:Int):Rat),((-R2:Int):Rat),((-R3:Int):Rat),((-R4:Int):Rat)) by rw [plN_t (by rw [hs4]; simp [t1,hlt])]; simp only [hp1,hp2,hp3,hp4,t1]]
     have hlt':=decide_eq_true hlt
     simp only [go_sem,sgn_neg,sgn_0,t1,hlt',le1,le2,le3,n1,n2,n3,i0,i1,i2,i3,i4,zw]
     refine trX_once HE hP.mix 121 2900 (by kernel_rfl) ?_
     simp only [go_sem,w1,le1,le2,le3,n1,n2,n3,i0,i1,i2,i3,i4]
     refine goX_once HE hP.mix 121 3000 (by kernel_rfl) ?_
     simp only [go_sem,w2,le1,le2,le3,n1,n2,n3,i0,i1,i2,i3,i4]
     refine goX_once HE hP.mix 121 3100 (by kernel_rfl) ?_
     simp only [go_sem,w3,le1,le2,le3,n1,n2,n3,i0,i1,i2,i3,i4]
     refine goX_once HE hP.mix 121 3200 (by kernel_rfl) ?_
     simp only [go_sem,w4,le1,le2,le3,n1,n2,n3,i0,i1,i2,i3,i4]
     refine goX_once HE hP.mix 121 3300 (by kernel_rfl) ?_
     simp only [go_sem,le1,le2,le3,n1,n2,n3,i0,i1,i2,i3,i4]
     exact fin_z
   · rw [show plN (x,y,z,w)=(((R1:Int):Rat),((R2:Int):Rat),((R3:Int):Rat),((R4:Int):Rat)) by rw [plN_f (by rw [hs4]; simp [t1,hlt])]; simp only [hp1,hp2,hp3,hp4,t1]]
     have hlt':=decide_eq_false hlt
     simp only [go_sem,sgn_neg,sgn_0,t1,hlt',le1,le2,le3,n1,n2,n3,i0,i1,i2,i3,i4,zw]
     exact fin_z
noncomputable def plV (h:V4):V4:=if nP h=v0 then (0,0,0,0) else plN h
def plE (h:V4):Int:=if nP h=v0 then 2 else 0
theorem pMakV_spec (hP:PrgOk P) (n:V3) (d:Rat) (hpre:fV n 4194304∧fl d≤4194304):CSpec P 7 [(.agg [.opq (.frac (n.1)),.pad,.pad,.pad,.pad,.opq (.frac (n.2.1)),.pad,.pad,.pad,.pad,.opq (.frac (n.2.2)),.pad,.pad,.pad,.pad]),(.agg [.opq (.frac (d)),.pad,.pad,.pad,.pad])] (.tup [(.agg [.opq (.frac ((plV (n.1,n.2.1,n.2.2,d)).1)),.pad,.pad,.pad,.pad,.opq (.frac ((plV (n.1,n.2.1,n.2.2,d)).2.1)),.pad,.pad,.pad,.pad,.opq (.frac ((plV (n.1,n.2.1,n.2.2,d)).2.2.1)),.pad,.pad,.pad,.pad,.opq (.frac ((plV (n.1,n.2.1,n.2.2,d)).2.2.2)),.pad,.pad,.pad,.pad]),.int .i64 (plE (n.1,n.2.1,n.2.2,d))]):=by
 by_cases hz:nP (n.1,n.2.1,n.2.2,d)=v0
 · unfold plV plE
   rw [if_pos hz,if_pos hz]
   have HE:=Mt0_all hP TF hP.tF
   obtain ⟨x,y,z⟩:=n
   obtain ⟨h1,h4⟩:=hpre
   obtain ⟨a1,a2,a3⟩:=fV_mono h1 (show _≤FB by decide)
   have hz':decide (((x,y,z):V3)=v0)=true:=decide_eq_true hz
   refine CSpec_go (E:=⟨TF,Mt0⟩) (fn7 hP) HE hP.mix ?_
   simp only [go_sem,hz',a1,a2,a3]
   exact fin_z
 · have:=pMake_spec hP (n.1,n.2.1,n.2.2,d) hz ⟨hpre.1.1,hpre.1.2.1,hpre.1.2.2,hpre.2⟩
   unfold plV plE
   rw [if_neg hz,if_neg hz]
   exact this
noncomputable def pMakVS:List AV→Option (Prop × AV)
 | [x0,x1]=>(rawV x0).bind fun n=>(rawF x1).bind fun d=>some (d.1∧(fV n 4194304∧fl d.2≤4194304),.tup [(.agg [.opq (.frac ((plV (n.1,n.2.1,n.2.2,d.2)).1)),.pad,.pad,.pad,.pad,.opq (.frac ((plV (n.1,n.2.1,n.2.2,d.2)).2.1)),.pad,.pad,.pad,.pad,.opq (.frac ((plV (n.1,n.2.1,n.2.2,d.2)).2.2.1)),.pad,.pad,.pad,.pad,.opq (.frac ((plV (n.1,n.2.1,n.2.2,d.2)).2.2.2)),.pad,.pad,.pad,.pad]),.int .i64 (plE (n.1,n.2.1,n.2.2,d.2))])
 | _=>none
theorem pMakVS_eq (x0 x1):pMakVS [x0,x1]=(rawV x0).bind fun n=>(rawF x1).bind fun d=>some (d.1∧(fV n 4194304∧fl d.2≤4194304),.tup [(.agg [.opq (.frac ((plV (n.1,n.2.1,n.2.2,d.2)).1)),.pad,.pad,.pad,.pad,.opq (.frac ((plV (n.1,n.2.1,n.2.2,d.2)).2.1)),.pad,.pad,.pad,.pad,.opq (.frac ((plV (n.1,n.2.1,n.2.2,d.2)).2.2.1)),.pad,.pad,.pad,.pad,.opq (.frac ((plV (n.1,n.2.1,n.2.2,d.2)).2.2.2)),.pad,.pad,.pad,.pad]),.int .i64 (plE (n.1,n.2.1,n.2.2,d.2))]):=rfl
theorem pMakVS_ok (hP:PrgOk P) (args p r) (he:pMakVS args=some (p,r)) (hp:p):CSpec P 7 args r:=by
 unfold pMakVS at he
 split at he
 · simp only [Option.bind_eq_some_iff,Option.some.injEq,Prod.mk.injEq] at he
   obtain ⟨n,hhn,⟨ud,d⟩,hhd,rfl,rfl⟩:=he
   rw [rawV_inv hhn]
   exact (pMakV_spec hP n d hp.2).cv (.agg (.refl _) (rawF_cv hhd hp.1 (.refl _)))
 · simp at he
attribute [go_sem] pMakVS_eq
noncomputable def Mt1:Nat→List AV→Option (Prop × AV):=addS Pt3 7 pMakVS
theorem Mt1_all (hP:PrgOk P) (T) (hT:TyOk P T):EnvOk P ⟨T,Mt1⟩:=((Pt3_all hP T hT).add (pMakVS_ok hP))
theorem Mt1_at (f a):Mt1 f a=(addS Pt3 7 pMakVS) f a:=rfl
attribute [go_sem] Mt1_at
noncomputable def Mt2:Nat→List AV→Option (Prop × AV):=Mt1
theorem Mt2_all (hP:PrgOk P) (T) (hT:TyOk P T):EnvOk P ⟨T,Mt2⟩:=(Mt1_all hP T hT)
attribute [go_sem] Mt2
theorem pnr_fV {n:V3} {k:Nat} (h:fV n k) (hk:64≤k):fV (pnr n) k:=by
 unfold pnr; split
 · exact ⟨Nat.le_trans (fl_i64 (by decide) (by decide)) hk,Nat.le_trans (fl_i64 (by decide) (by decide)) hk,Nat.le_trans (fl_i64 (by decide) (by decide)) hk⟩
 · exact h
theorem vcq_fV {a b:V3} {n m:Nat} (ha:fV a n) (hb:fV b m):fV (vcq a b) (n+m+(n+m)+1) :=
 ⟨fl_qsub (fl_qmul ha.2.1 hb.2.2) (fl_qmul ha.2.2 hb.2.1),fl_qsub (fl_qmul ha.2.2 hb.1) (fl_qmul ha.1 hb.2.2),fl_qsub (fl_qmul ha.1 hb.2.1) (fl_qmul ha.2.1 hb.1)⟩
noncomputable def Mt3:Nat→List AV→Option (Prop × AV):=Mt2
theorem Mt3_all (hP:PrgOk P) (T) (hT:TyOk P T):EnvOk P ⟨T,Mt3⟩:=(Mt2_all hP T hT)
attribute [go_sem] Mt3
noncomputable def Mt4:Nat→List AV→Option (Prop × AV):=Mt3
theorem Mt4_all (hP:PrgOk P) (T) (hT:TyOk P T):EnvOk P ⟨T,Mt4⟩:=(Mt3_all hP T hT)
attribute [go_sem] Mt4
theorem bw {x:V3} {n:Nat} (h:fV x n) (hn:n≤8388608):(fl x.1≤8388608∧fl x.2.1≤8388608∧fl x.2.2≤8388608)∧(fl x.1≤16777216∧fl x.2.1≤16777216∧fl x.2.2≤16777216)∧(fl x.1≤67108864∧fl x.2.1≤67108864∧fl x.2.2≤67108864)∧(fl x.1≤268435456∧fl x.2.1≤268435456∧fl x.2.2≤268435456)∧(fl x.1≤FB∧fl x.2.1≤FB∧fl x.2.2≤FB) :=
 ⟨fV_mono h hn,fV_mono h (by omega),fV_mono h (by omega),fV_mono h (by omega),fV_mono h (Nat.le_trans hn (by decide))⟩
theorem bt {x:V3} {n:Nat} (h:fV x n) (hn:n≤67108864):(fl x.1≤67108864∧fl x.2.1≤67108864∧fl x.2.2≤67108864)∧(fl x.1≤268435456∧fl x.2.1≤268435456∧fl x.2.2≤268435456)∧(fl x.1≤FB∧fl x.2.1≤FB∧fl x.2.2≤FB) :=
 ⟨fV_mono h hn,fV_mono h (by omega),fV_mono h (Nat.le_trans hn (by decide))⟩
theorem bf {x:V3} {n:Nat} (h:fV x n) (hn:n≤FB):fl x.1≤FB∧fl x.2.1≤FB∧fl x.2.2≤FB:=fV_mono h hn
theorem bm {x:V3} {n:Nat} (h:fV x n) (hn:n≤1048576):fl x.1≤1048576∧fl x.2.1≤1048576∧fl x.2.2≤1048576:=fV_mono h hn
theorem fk {x:Rat} {n:Nat} (h:fl x≤n) (hn:n≤FB):fl x≤FB∧wl x.num≤68719476736 :=
 ⟨Nat.le_trans h hn,Nat.le_trans (fl_num h) (Nat.le_trans hn (by decide))⟩
noncomputable def vadq (a b:V3):V3:=(qadd a.1 b.1,qadd a.2.1 b.2.1,qadd a.2.2 b.2.2)
noncomputable def vscq (k:Rat) (a:V3):V3:=(qmul k a.1,qmul k a.2.1,qmul k a.2.2)
theorem vsbq_c {a b v:V3} (h:vsbq a b=v):qsub a.1 b.1=v.1∧qsub a.2.1 b.2.1=v.2.1∧qsub a.2.2 b.2.2=v.2.2:=by subst h; exact ⟨rfl,rfl,rfl⟩
theorem vadq_c {a b v:V3} (h:vadq a b=v):qadd a.1 b.1=v.1∧qadd a.2.1 b.2.1=v.2.1∧qadd a.2.2 b.2.2=v.2.2:=by subst h; exact ⟨rfl,rfl,rfl⟩
theorem vscq_c {k:Rat} {a v:V3} (h:vscq k a=v):qmul k a.1=v.1∧qmul k a.2.1=v.2.1∧qmul k a.2.2=v.2.2:=by subst h; exact ⟨rfl,rfl,rfl⟩
theorem vcq_c {a b v:V3} (h:vcq a b=v):(vcq (a.1,a.2.1,a.2.2) (b.1,b.2.1,b.2.2)=v)∧qsub (qmul a.2.1 b.2.2) (qmul a.2.2 b.2.1)=v.1∧qsub (qmul a.2.2 b.1) (qmul a.1 b.2.2)=v.2.1∧qsub (qmul a.1 b.2.1) (qmul a.2.1 b.1)=v.2.2:=by subst h; exact ⟨rfl,rfl,rfl,rfl⟩
theorem qdt_c {a b:V3} {k:Rat} (h:qdt a b=k):qdt (a.1,a.2.1,a.2.2) (b.1,b.2.1,b.2.2)=k:=h
theorem ldr_c {a v:V3} (h:ldr a=v):ldr (a.1,a.2.1,a.2.2)=v:=h
theorem nz_c {a:V3} {b:Bool} (h:decide (a=v0)=b):decide (((a.1,a.2.1,a.2.2):V3)=v0)=b:=h
theorem vsbq_fV {a b:V3} {n m:Nat} (ha:fV a n) (hb:fV b m):fV (vsbq a b) (n+m+1):=⟨fl_qsub ha.1 hb.1,fl_qsub ha.2.1 hb.2.1,fl_qsub ha.2.2 hb.2.2⟩
theorem vadq_fV {a b:V3} {n m:Nat} (ha:fV a n) (hb:fV b m):fV (vadq a b) (n+m+1):=⟨fl_qadd ha.1 hb.1,fl_qadd ha.2.1 hb.2.1,fl_qadd ha.2.2 hb.2.2⟩
theorem vscq_fV {k:Rat} {a:V3} {n m:Nat} (hk:fl k≤n) (ha:fV a m):fV (vscq k a) (n+m):=⟨fl_qmul hk ha.1,fl_qmul hk ha.2.1,fl_qmul hk ha.2.2⟩
noncomputable def atQ (p d:V3) (t:Rat):V3:=vadq p (vscq t d)
noncomputable def plcQ (p d q:V3):Rat × Bool:=if vcq (vsbq q p) d=v0 then (qdiv (qdt (vsbq q p) d) (qdt d d),true) else (0,false)
noncomputable def plnQ (p d n:V3) (o:Rat):Rat × Bool × Int :=
 if qdt n d=0 then (if qsub (qdt n p) o=0 then (0,true,0) else (0,false,60)) else (qdiv (qneg (qsub (qdt n p) o)) (qdt n d),false,0)
noncomputable def linQ (p d q c:V3):V3 × Int :=
 if vcq d c=v0 then (v0,60) else if qdt (vsbq q p) (vcq d c)=0 then (atQ p d (qdiv (qdt (vcq (vsbq q p) c) (vcq d c)) (qdt (vcq d c) (vcq d c))),0) else (v0,60)
theorem ldr_ne (a:V3):ldr a ≠ v0:=by
 unfold ldr; split
 · intro h; exact absurd (Rat.intCast_inj.1 (congrArg (·.1) h:((1:Int):Rat)=((0:Int):Rat))) (by decide)
 · assumption
theorem qdt_ne {a:V3} (h:a ≠ v0):qdt a a ≠ 0:=by rw [qdt_vdt]; exact dt_self h
theorem lThg_spec (hP:PrgOk P) (p:V3) (q:V3) (hpre:fV p 262144∧fV q 262144):CSpec P 4 [(.agg [.opq (.frac (p.1)),.pad,.pad,.pad,.pad,.opq (.frac (p.2.1)),.pad,.pad,.pad,.pad,.opq (.frac (p.2.2)),.pad,.pad,.pad,.pad]),(.agg [.opq (.frac (q.1)),.pad,.pad,.pad,.pad,.opq (.frac (q.2.1)),.pad,.pad,.pad,.pad,.opq (.frac (q.2.2)),.pad,.pad,.pad,.pad])] (.tup [(.agg [.opq (.frac ((lnM p (vsbq q p)).1.1)),.pad,.pad,.pad,.pad,.opq (.frac ((lnM p (vsbq q p)).1.2.1)),.pad,.pad,.pad,.pad,.opq (.frac ((lnM p (vsbq q p)).1.2.2)),.pad,.pad,.pad,.pad,.opq (.frac ((lnM p (vsbq q p)).2.1)),.pad,.pad,.pad,.pad,.opq (.frac ((lnM p (vsbq q p)).2.2.1)),.pad,.pad,.pad,.pad,.opq (.frac ((lnM p (vsbq q p)).2.2.2)),.pad,.pad,.pad,.pad]),.int .i64 (lnE (vsbq q p))]):=by
 exact lThr_spec hP p q hpre.1 hpre.2
noncomputable def lThgS:List AV→Option (Prop × AV)
 | [x0,x1]=>(rawV x0).bind fun p=>(rawV x1).bind fun q=>some ((fV p 262144∧fV q 262144),.tup [(.agg [.opq (.frac ((lnM p (vsbq q p)).1.1)),.pad,.pad,.pad,.pad,.opq (.frac ((lnM p (vsbq q p)).1.2.1)),.pad,.pad,.pad,.pad,.opq (.frac ((lnM p (vsbq q p)).1.2.2)),.pad,.pad,.pad,.pad,.opq (.frac ((lnM p (vsbq q p)).2.1)),.pad,.pad,.pad,.pad,.opq (.frac ((lnM p (vsbq q p)).2.2.1)),.pad,.pad,.pad,.pad,.opq (.frac ((lnM p (vsbq q p)).2.2.2)),.pad,.pad,.pad,.pad]),.int .i64 (lnE (vsbq q p))])
 | _=>none
theorem lThgS_eq (x0 x1):lThgS [x0,x1]=(rawV x0).bind fun p=>(rawV x1).bind fun q=>some ((fV p 262144∧fV q 262144),.tup [(.agg [.opq (.frac ((lnM p (vsbq q p)).1.1)),.pad,.pad,.pad,.pad,.opq (.frac ((lnM p (vsbq q p)).1.2.1)),.pad,.pad,.pad,.pad,.opq (.frac ((lnM p (vsbq q p)).1.2.2)),.pad,.pad,.pad,.pad,.opq (.frac ((lnM p (vsbq q p)).2.1)),.pad,.pad,.pad,.pad,.opq (.frac ((lnM p (vsbq q p)).2.2.1)),.pad,.pad,.pad,.pad,.opq (.frac ((lnM p (vsbq q p)).2.2.2)),.pad,.pad,.pad,.pad]),.int .i64 (lnE (vsbq q p))]):=rfl
theorem lThgS_ok (hP:PrgOk P) (args p r) (he:lThgS args=some (p,r)) (hp:p):CSpec P 4 args r:=by
 unfold lThgS at he
 split at he
 · simp only [Option.bind_eq_some_iff,Option.some.injEq,Prod.mk.injEq] at he
   obtain ⟨p,hhp,q,hhq,rfl,rfl⟩:=he
   rw [rawV_inv hhp,rawV_inv hhq]
   exact lThg_spec hP p q hp
 · simp at he
attribute [go_sem] lThgS_eq
noncomputable def Lx0:Nat→List AV→Option (Prop × AV):=addS Mt4 4 lThgS
theorem Lx0_all (hP:PrgOk P) (T) (hT:TyOk P T):EnvOk P ⟨T,Lx0⟩:=((Mt4_all hP T hT).add (lThgS_ok hP))
theorem Lx0_at (f a):Lx0 f a=(addS Mt4 4 lThgS) f a:=rfl
attribute [go_sem] Lx0_at
theorem lAt_spec (hP:PrgOk P) (l:LN) (t:Rat) (hpre:fV l.1 16777216∧fV l.2 16777216∧fl t≤268435456):CSpec P 50 [(.agg [.opq (.frac (l.1.1)),.pad,.pad,.pad,.pad,.opq (.frac (l.1.2.1)),.pad,.pad,.pad,.pad,.opq (.frac (l.1.2.2)),.pad,.pad,.pad,.pad,.opq (.frac (l.2.1)),.pad,.pad,.pad,.pad,.opq (.frac (l.2.2.1)),.pad,.pad,.pad,.pad,.opq (.frac (l.2.2.2)),.pad,.pad,.pad,.pad]),(.agg [.opq (.frac (t)),.pad,.pad,.pad,.pad])] ((.agg [.opq (.frac ((atQ l.1 (ldr l.2) t).1)),.pad,.pad,.pad,.pad,.opq (.frac ((atQ l.1 (ldr l.2) t).2.1)),.pad,.pad,.pad,.pad,.opq (.frac ((atQ l.1 (ldr l.2) t).2.2)),.pad,.pad,.pad,.pad])):=by
 have HE:=Lx0_all hP TF hP.tF
 obtain ⟨hp,hl,ht⟩:=hpre
 obtain ⟨d,hd⟩:∃ zz,ldr l.2=zz:=⟨_,rfl⟩
 have fd:=ldr_fV hl (by decide)
 rw [hd] at fd
 obtain ⟨s,hs⟩:∃ zz,vscq t d=zz:=⟨_,rfl⟩
 have fs:=vscq_fV ht fd
 rw [hs] at fs
 unfold atQ
 rw [hd,hs]
 unfold vadq
 refine CSpec_go (E:=⟨TF,Lx0⟩) (fn50 hP) HE hP.mix ?_
 simp only [go_sem,bf hp (by decide),bf hl (by decide),bf fd (by decide),bf fs (by decide),fk ht (by decide),ldr_c hd,vscq_c hs]
 exact fin_z
noncomputable def lAtS:List AV→Option (Prop × AV)
 | [x0,x1]=>(rawLn x0).bind fun l=>(rawF x1).bind fun t=>some (t.1∧(fV l.1 16777216∧fV l.2 16777216∧fl t.2≤268435456),(.agg [.opq (.frac ((atQ l.1 (ldr l.2) t.2).1)),.pad,.pad,.pad,.pad,.opq (.frac ((atQ l.1 (ldr l.2) t.2).2.1)),.pad,.pad,.pad,.pad,.opq (.frac ((atQ l.1 (ldr l.2) t.2).2.2)),.pad,.pad,.pad,.pad]))
 | _=>none
theorem lAtS_eq (x0 x1):lAtS [x0,x1]=(rawLn x0).bind fun l=>(rawF x1).bind fun t=>some (t.1∧(fV l.1 16777216∧fV l.2 16777216∧fl t.2≤268435456),(.agg [.opq (.frac ((atQ l.1 (ldr l.2) t.2).1)),.pad,.pad,.pad,.pad,.opq (.frac ((atQ l.1 (ldr l.2) t.2).2.1)),.pad,.pad,.pad,.pad,.opq (.frac ((atQ l.1 (ldr l.2) t.2).2.2)),.pad,.pad,.pad,.pad])):=rfl
theorem lAtS_ok (hP:PrgOk P) (args p r) (he:lAtS args=some (p,r)) (hp:p):CSpec P 50 args r:=by
 unfold lAtS at he
 split at he
 · simp only [Option.bind_eq_some_iff,Option.some.injEq,Prod.mk.injEq] at he
   obtain ⟨l,hhl,⟨ut,t⟩,hht,rfl,rfl⟩:=he
   rw [rawLn_inv hhl]
   exact (lAt_spec hP l t hp.2).cv (.agg (.refl _) (rawF_cv hht hp.1 (.refl _)))
 · simp at he
attribute [go_sem] lAtS_eq
theorem lPlc_spec (hP:PrgOk P) (l:LN) (q:V3) (hpre:fV l.1 4194304∧fV l.2 4194304∧fV q 16777216):CSpec P 15 [(.agg [.opq (.frac (l.1.1)),.pad,.pad,.pad,.pad,.opq (.frac (l.1.2.1)),.pad,.pad,.pad,.pad,.opq (.frac (l.1.2.2)),.pad,.pad,.pad,.pad,.opq (.frac (l.2.1)),.pad,.pad,.pad,.pad,.opq (.frac (l.2.2.1)),.pad,.pad,.pad,.pad,.opq (.frac (l.2.2.2)),.pad,.pad,.pad,.pad]),(.agg [.opq (.frac (q.1)),.pad,.pad,.pad,.pad,.opq (.frac (q.2.1)),.pad,.pad,.pad,.pad,.opq (.frac (q.2.2)),.pad,.pad,.pad,.pad])] (.tup [(.agg [.opq (.frac ((plcQ l.1 (ldr l.2) q).1)),.pad,.pad,.pad,.pad]),.bool (plcQ l.1 (ldr l.2) q).2]):=by
 have HE:=Lx0_all hP TF hP.tF
 obtain ⟨hp,hl,hq⟩:=hpre
 have hn:=ldr_ne l.2
 obtain ⟨d,hd⟩:∃ zz,ldr l.2=zz:=⟨_,rfl⟩
 have fd:=ldr_fV hl (by decide)
 rw [hd] at fd
 obtain ⟨v,hv⟩:∃ zz,vsbq q l.1=zz:=⟨_,rfl⟩
 have fv:=vsbq_fV hq hp
 rw [hv] at fv
 obtain ⟨c,hc⟩:∃ zz,vcq v d=zz:=⟨_,rfl⟩
 have fc:=vcq_fV fv fd
 rw [hc] at fc
 obtain ⟨x,hx⟩:∃ zz,qdt v d=zz:=⟨_,rfl⟩
 have fx:=qdt_fl fv fd
 rw [hx] at fx
 obtain ⟨y,hy⟩:∃ zz,qdt d d=zz:=⟨_,rfl⟩
 have fy:=qdt_fl fd fd
 rw [hy] at fy
 unfold plcQ
 rw [hd] at hn ⊢
 rw [hv,hc,hx,hy]
 have hy0:(y=0)=False:=eq_false (by rw [← hy]; exact qdt_ne hn)
 refine CSpec_go (E:=⟨TF,Lx0⟩) (fn15 hP) HE hP.mix ?_
 by_cases hz:c=v0
 · rw [if_pos hz]
   simp only [go_sem,bf hp (by decide),bf hl (by decide),bf hq (by decide),bt fd (by decide),bt fv (by decide),bf fc (by decide),ldr_c hd,vsbq_c hv,vcq_c hc,nz_c (decide_eq_true hz),qdt_c hx,qdt_c hy,fk fx (by decide),fk fy (by decide),hy0]
   exact fin_z
 · rw [if_neg hz]
   simp only [go_sem,bf hp (by decide),bf hl (by decide),bf hq (by decide),bt fd (by decide),bt fv (by decide),bf fc (by decide),ldr_c hd,vsbq_c hv,vcq_c hc,nz_c (decide_eq_false hz)]
   exact fin_z
noncomputable def lPlcS:List AV→Option (Prop × AV)
 | [x0,x1]=>(rawLn x0).bind fun l=>(rawV x1).bind fun q=>some ((fV l.1 4194304∧fV l.2 4194304∧fV q 16777216),.tup [(.agg [.opq (.frac ((plcQ l.1 (ldr l.2) q).1)),.pad,.pad,.pad,.pad]),.bool (plcQ l.1 (ldr l.2) q).2])
 | _=>none
theorem lPlcS_eq (x0 x1):lPlcS [x0,x1]=(rawLn x0).bind fun l=>(rawV x1).bind fun q=>some ((fV l.1 4194304∧fV l.2 4194304∧fV q 16777216),.tup [(.agg [.opq (.frac ((plcQ l.1 (ldr l.2) q).1)),.pad,.pad,.pad,.pad]),.bool (plcQ l.1 (ldr l.2) q).2]):=rfl
theorem lPlcS_ok (hP:PrgOk P) (args p r) (he:lPlcS args=some (p,r)) (hp:p):CSpec P 15 args r:=by
 unfold lPlcS at he
 split at he
 · simp only [Option.bind_eq_some_iff,Option.some.injEq,Prod.mk.injEq] at he
   obtain ⟨l,hhl,q,hhq,rfl,rfl⟩:=he
   rw [rawLn_inv hhl,rawV_inv hhq]
   exact lPlc_spec hP l q hp
 · simp at he
attribute [go_sem] lPlcS_eq
noncomputable def Lx1:Nat→List AV→Option (Prop × AV):=addS (addS Lx0 50 lAtS) 15 lPlcS
theorem Lx1_all (hP:PrgOk P) (T) (hT:TyOk P T):EnvOk P ⟨T,Lx1⟩:=(((Lx0_all hP T hT).add (lAtS_ok hP)).add (lPlcS_ok hP))
theorem Lx1_at (f a):Lx1 f a=(addS (addS Lx0 50 lAtS) 15 lPlcS) f a:=rfl
attribute [go_sem] Lx1_at
theorem cz_t {x:Rat} (h:x=0):(cmpQ x 0 != 0)=false:=by rw [bne,cmpQ_z,decide_eq_true h]; rfl
theorem cz_f {x:Rat} (h:x ≠ 0):(cmpQ x 0 != 0)=true:=by rw [bne,cmpQ_z,decide_eq_false h]; rfl
theorem lLin_spec (hP:PrgOk P) (l:LN) (m:LN) (hpre:fV l.1 65536∧fV l.2 65536∧fV m.1 65536∧fV m.2 65536):CSpec P 14 [(.agg [.opq (.frac (l.1.1)),.pad,.pad,.pad,.pad,.opq (.frac (l.1.2.1)),.pad,.pad,.pad,.pad,.opq (.frac (l.1.2.2)),.pad,.pad,.pad,.pad,.opq (.frac (l.2.1)),.pad,.pad,.pad,.pad,.opq (.frac (l.2.2.1)),.pad,.pad,.pad,.pad,.opq (.frac (l.2.2.2)),.pad,.pad,.pad,.pad]),(.agg [.opq (.frac (m.1.1)),.pad,.pad,.pad,.pad,.opq (.frac (m.1.2.1)),.pad,.pad,.pad,.pad,.opq (.frac (m.1.2.2)),.pad,.pad,.pad,.pad,.opq (.frac (m.2.1)),.pad,.pad,.pad,.pad,.opq (.frac (m.2.2.1)),.pad,.pad,.pad,.pad,.opq (.frac (m.2.2.2)),.pad,.pad,.pad,.pad])] (.tup [(.agg [.opq (.frac (((linQ l.1 (ldr l.2) m.1 (ldr m.2)).1).1)),.pad,.pad,.pad,.pad,.opq (.frac (((linQ l.1 (ldr l.2) m.1 (ldr m.2)).1).2.1)),.pad,.pad,.pad,.pad,.opq (.frac (((linQ l.1 (ldr l.2) m.1 (ldr m.2)).1).2.2)),.pad,.pad,.pad,.pad]),.int .i64 (linQ l.1 (ldr l.2) m.1 (ldr m.2)).2]):=by
 have HE:=Lx1_all hP TF hP.tF
 obtain ⟨hp,hl,hq,hm⟩:=hpre
 obtain ⟨d,hd⟩:∃ zz,ldr l.2=zz:=⟨_,rfl⟩
 have fd:=ldr_fV hl (by decide)
 rw [hd] at fd
 obtain ⟨c,hc⟩:∃ zz,ldr m.2=zz:=⟨_,rfl⟩
 have fc:=ldr_fV hm (by decide)
 rw [hc] at fc
 rw [hd,hc]
 refine CSpec_go (E:=⟨TF,Lx1⟩) (fn14 hP) HE hP.mix ?_
 obtain ⟨n,hn⟩:∃ zz,vcq d c=zz:=⟨_,rfl⟩
 have fn:=vcq_fV fd fc
 rw [hn] at fn
 obtain ⟨v,hv⟩:∃ zz,vsbq m.1 l.1=zz:=⟨_,rfl⟩
 have fv:=vsbq_fV hq hp
 rw [hv] at fv
 obtain ⟨x,hx⟩:∃ zz,qdt v n=zz:=⟨_,rfl⟩
 have fx:=qdt_fl fv fn
 rw [hx] at fx
 obtain ⟨w,hw⟩:∃ zz,vcq v c=zz:=⟨_,rfl⟩
 have fw:=vcq_fV fv fc
 rw [hw] at fw
 obtain ⟨y,hy⟩:∃ zz,qdt w n=zz:=⟨_,rfl⟩
 have fy:=qdt_fl fw fn
 rw [hy] at fy
 obtain ⟨z,hz⟩:∃ zz,qdt n n=zz:=⟨_,rfl⟩
 have fz:=qdt_fl fn fn
 rw [hz] at fz
 obtain ⟨t,ht⟩:∃ zz,qdiv y z=zz:=⟨_,rfl⟩
 have ft:=fl_qdiv fy fz
 rw [ht] at ft
 unfold linQ
 rw [hn,hv,hx,hw,hy,hz,ht]
 by_cases h0:n=v0
 · rw [if_pos h0]
   simp only [go_sem,bw hl (by decide),bw hm (by decide),ldr_c hd,ldr_c hc,vcq_c hn,vsbq_c hv,bf hp (by decide),bf hq (by decide),bt fd (by decide),bt fc (by decide),bt fn (by decide),bt fv (by decide),nz_c (decide_eq_true h0)]
   exact fin_z
 rw [if_neg h0]
 have hz0:z ≠ 0:=by rw [← hz]; exact qdt_ne h0
 have hz1:(z=0)=False:=eq_false hz0
 by_cases h1:x=0
 · rw [if_pos h1]
   simp only [go_sem,bw hl (by decide),bw hm (by decide),ldr_c hd,ldr_c hc,vcq_c hn,vsbq_c hv,bw hp (by decide),bw hq (by decide),bw fd (by decide),bw fc (by decide),bt fn (by decide),bt fv (by decide),nz_c (decide_eq_false h0),qdt_c hx,fk fx (by decide),cz_t h1,vcq_c hw,bt fw (by decide),qdt_c hy,qdt_c hz,fk fy (by decide),fk fz (by decide),hz1,ht,Nat.le_trans ft (show _≤268435456 by decide)]
   exact fin_z
 · rw [if_neg h1]
   simp only [go_sem,bw hl (by decide),bw hm (by decide),ldr_c hd,ldr_c hc,vcq_c hn,vsbq_c hv,bf hp (by decide),bf hq (by decide),bt fd (by decide),bt fc (by decide),bt fn (by decide),bt fv (by decide),nz_c (decide_eq_false h0),qdt_c hx,fk fx (by decide),cz_f h1]
   exact fin_z
noncomputable def lLinS:List AV→Option (Prop × AV)
 | [x0,x1]=>(rawLn x0).bind fun l=>(rawLn x1).bind fun m=>some ((fV l.1 65536∧fV l.2 65536∧fV m.1 65536∧fV m.2 65536),.tup [(.agg [.opq (.frac (((linQ l.1 (ldr l.2) m.1 (ldr m.2)).1).1)),.pad,.pad,.pad,.pad,.opq (.frac (((linQ l.1 (ldr l.2) m.1 (ldr m.2)).1).2.1)),.pad,.pad,.pad,.pad,.opq (.frac (((linQ l.1 (ldr l.2) m.1 (ldr m.2)).1).2.2)),.pad,.pad,.pad,.pad]),.int .i64 (linQ l.1 (ldr l.2) m.1 (ldr m.2)).2])
 | _=>none
theorem lLinS_eq (x0 x1):lLinS [x0,x1]=(rawLn x0).bind fun l=>(rawLn x1).bind fun m=>some ((fV l.1 65536∧fV l.2 65536∧fV m.1 65536∧fV m.2 65536),.tup [(.agg [.opq (.frac (((linQ l.1 (ldr l.2) m.1 (ldr m.2)).1).1)),.pad,.pad,.pad,.pad,.opq (.frac (((linQ l.1 (ldr l.2) m.1 (ldr m.2)).1).2.1)),.pad,.pad,.pad,.pad,.opq (.frac (((linQ l.1 (ldr l.2) m.1 (ldr m.2)).1).2.2)),.pad,.pad,.pad,.pad]),.int .i64 (linQ l.1 (ldr l.2) m.1 (ldr m.2)).2]):=rfl
theorem lLinS_ok (hP:PrgOk P) (args p r) (he:lLinS args=some (p,r)) (hp:p):CSpec P 14 args r:=by
 unfold lLinS at he
 split at he
 · simp only [Option.bind_eq_some_iff,Option.some.injEq,Prod.mk.injEq] at he
   obtain ⟨l,hhl,m,hhm,rfl,rfl⟩:=he
   rw [rawLn_inv hhl,rawLn_inv hhm]
   exact lLin_spec hP l m hp
 · simp at he
attribute [go_sem] lLinS_eq
theorem lPln_spec (hP:PrgOk P) (l:LN) (h:V4) (hpre:fV l.1 16777216∧fV l.2 16777216∧fP h 16777216):CSpec P 13 [(.agg [.opq (.frac (l.1.1)),.pad,.pad,.pad,.pad,.opq (.frac (l.1.2.1)),.pad,.pad,.pad,.pad,.opq (.frac (l.1.2.2)),.pad,.pad,.pad,.pad,.opq (.frac (l.2.1)),.pad,.pad,.pad,.pad,.opq (.frac (l.2.2.1)),.pad,.pad,.pad,.pad,.opq (.frac (l.2.2.2)),.pad,.pad,.pad,.pad]),(.agg [.opq (.frac (h.1)),.pad,.pad,.pad,.pad,.opq (.frac (h.2.1)),.pad,.pad,.pad,.pad,.opq (.frac (h.2.2.1)),.pad,.pad,.pad,.pad,.opq (.frac (h.2.2.2)),.pad,.pad,.pad,.pad])] (.tup [(.agg [.opq (.frac ((plnQ l.1 (ldr l.2) (pnr (nP h)) h.2.2.2).1)),.pad,.pad,.pad,.pad]),.bool (plnQ l.1 (ldr l.2) (pnr (nP h)) h.2.2.2).2.1,.int .i64 (plnQ l.1 (ldr l.2) (pnr (nP h)) h.2.2.2).2.2]):=by
 have HE:=Lx1_all hP TF hP.tF
 obtain ⟨hp,hl,h1,h2,h3,h4⟩:=hpre
 have i1:=Nat.le_trans h1 (show _≤FB by decide)
 have i2:=Nat.le_trans h2 (show _≤FB by decide)
 have i3:=Nat.le_trans h3 (show _≤FB by decide)
 have i4:=Nat.le_trans h4 (show _≤FB by decide)
 obtain ⟨d,hd⟩:∃ zz,ldr l.2=zz:=⟨_,rfl⟩
 have fd:=ldr_fV hl (by decide)
 rw [hd] at fd
 obtain ⟨n,hn⟩:∃ zz,pnr (nP h)=zz:=⟨_,rfl⟩
 have fn:=pnr_fV (n:=nP h) ⟨h1,h2,h3⟩ (by decide)
 rw [hn] at fn
 have hn':pnr (nP (h.1,h.2.1,h.2.2.1,h.2.2.2))=n:=hn
 have hat:patV (h.1,h.2.1,h.2.2.1,h.2.2.2) (l.1.1,l.1.2.1,l.1.2.2)=qsub (qdt n l.1) h.2.2.2:=by rw [← hn]; rfl
 obtain ⟨a,ha⟩:∃ zz,qsub (qdt n l.1) h.2.2.2=zz:=⟨_,rfl⟩
 have fa:=fl_qsub (qdt_fl fn hp) h4
 rw [ha] at fa
 obtain ⟨k,hk⟩:∃ zz,qdt n d=zz:=⟨_,rfl⟩
 have fk:=qdt_fl fn fd
 rw [hk] at fk
 obtain ⟨b,hb⟩:∃ zz,qneg a=zz:=⟨_,rfl⟩
 have fb:=fl_qneg fa
 rw [hb] at fb
 rw [ha] at hat
 unfold plnQ
 rw [hd,hn,hk,ha,hb]
 refine CSpec_go (E:=⟨TF,Lx1⟩) (fn13 hP) HE hP.mix ?_
 by_cases h0:k=0
 · rw [if_pos h0]
   by_cases h5:a=0
   · rw [if_pos h5]
     have h5':=decide_eq_true h5
     simp only [go_sem,h1,h2,h3,h4,i1,i2,i3,i4,bt hp (by decide),bt hl (by decide),bt fd (by decide),bt fn (by decide),bf hp (by decide),bf fd (by decide),ldr_c hd,hn',hat,qdt_c hk,AM.fk fk (by decide),AM.fk fa (by decide),cz_t h0,cmpQ_z,h5']
     exact fin_z
   · rw [if_neg h5]
     have h5':=decide_eq_false h5
     simp only [go_sem,h1,h2,h3,h4,i1,i2,i3,i4,bt hp (by decide),bt hl (by decide),bt fd (by decide),bt fn (by decide),bf hp (by decide),bf fd (by decide),ldr_c hd,hn',hat,qdt_c hk,AM.fk fk (by decide),AM.fk fa (by decide),cz_t h0,cmpQ_z,h5']
     exact fin_z
 · rw [if_neg h0]
   have h0':(k=0)=False:=eq_false h0
   simp only [go_sem,h1,h2,h3,h4,i1,i2,i3,i4,bt hp (by decide),bt hl (by decide),bt fd (by decide),bt fn (by decide),bf hp (by decide),bf fd (by decide),ldr_c hd,hn',hat,qdt_c hk,AM.fk fk (by decide),AM.fk fa (by decide),cz_f h0,hb,AM.fk fb (by decide),h0']
   exact fin_z
noncomputable def lPlnS:List AV→Option (Prop × AV)
 | [x0,x1]=>(rawLn x0).bind fun l=>(rawP x1).bind fun h=>some ((fV l.1 16777216∧fV l.2 16777216∧fP h 16777216),.tup [(.agg [.opq (.frac ((plnQ l.1 (ldr l.2) (pnr (nP h)) h.2.2.2).1)),.pad,.pad,.pad,.pad]),.bool (plnQ l.1 (ldr l.2) (pnr (nP h)) h.2.2.2).2.1,.int .i64 (plnQ l.1 (ldr l.2) (pnr (nP h)) h.2.2.2).2.2])
 | _=>none
theorem lPlnS_eq (x0 x1):lPlnS [x0,x1]=(rawLn x0).bind fun l=>(rawP x1).bind fun h=>some ((fV l.1 16777216∧fV l.2 16777216∧fP h 16777216),.tup [(.agg [.opq (.frac ((plnQ l.1 (ldr l.2) (pnr (nP h)) h.2.2.2).1)),.pad,.pad,.pad,.pad]),.bool (plnQ l.1 (ldr l.2) (pnr (nP h)) h.2.2.2).2.1,.int .i64 (plnQ l.1 (ldr l.2) (pnr (nP h)) h.2.2.2).2.2]):=rfl
theorem lPlnS_ok (hP:PrgOk P) (args p r) (he:lPlnS args=some (p,r)) (hp:p):CSpec P 13 args r:=by
 unfold lPlnS at he
 split at he
 · simp only [Option.bind_eq_some_iff,Option.some.injEq,Prod.mk.injEq] at he
   obtain ⟨l,hhl,h,hhh,rfl,rfl⟩:=he
   rw [rawLn_inv hhl,rawP_inv hhh]
   exact lPln_spec hP l h hp
 · simp at he
attribute [go_sem] lPlnS_eq
noncomputable def Lx2:Nat→List AV→Option (Prop × AV):=addS (addS Lx1 14 lLinS) 13 lPlnS
theorem Lx2_all (hP:PrgOk P) (T) (hT:TyOk P T):EnvOk P ⟨T,Lx2⟩:=(((Lx1_all hP T hT).add (lLinS_ok hP)).add (lPlnS_ok hP))
theorem Lx2_at (f a):Lx2 f a=(addS (addS Lx1 14 lLinS) 13 lPlnS) f a:=rfl
attribute [go_sem] Lx2_at
noncomputable def mtP (n m:V3) (h k:Rat):V3:=vscq (qdiv ((1:Int):Rat) (qdt (vcq n m) (vcq n m))) (vadq (vscq h (vcq m (vcq n m))) (vscq k (vcq (vcq n m) n)))
noncomputable def mtQ (n m:V3) (h k:Rat):LN × Int:=if vcq n m=v0 then ((v0,v0),60) else (lnM (mtP n m h k) (vcq n m),0)
theorem lMeet_spec (hP:PrgOk P) (h:V4) (k:V4) (hpre:fP h 8192∧fP k 8192):CSpec P 9 [(.agg [.opq (.frac (h.1)),.pad,.pad,.pad,.pad,.opq (.frac (h.2.1)),.pad,.pad,.pad,.pad,.opq (.frac (h.2.2.1)),.pad,.pad,.pad,.pad,.opq (.frac (h.2.2.2)),.pad,.pad,.pad,.pad]),(.agg [.opq (.frac (k.1)),.pad,.pad,.pad,.pad,.opq (.frac (k.2.1)),.pad,.pad,.pad,.pad,.opq (.frac (k.2.2.1)),.pad,.pad,.pad,.pad,.opq (.frac (k.2.2.2)),.pad,.pad,.pad,.pad])] (.tup [(.agg [.opq (.frac (((mtQ (pnr (nP h)) (pnr (nP k)) h.2.2.2 k.2.2.2).1).1.1)),.pad,.pad,.pad,.pad,.opq (.frac (((mtQ (pnr (nP h)) (pnr (nP k)) h.2.2.2 k.2.2.2).1).1.2.1)),.pad,.pad,.pad,.pad,.opq (.frac (((mtQ (pnr (nP h)) (pnr (nP k)) h.2.2.2 k.2.2.2).1).1.2.2)),.pad,.pad,.pad,.pad,.opq (.frac (((mtQ (pnr (nP h)) (pnr (nP k)) h.2.2.2 k.2.2.2).1).2.1)),.pad,.pad,.pad,.pad,.opq (.frac (((mtQ (pnr (nP h)) (pnr (nP k)) h.2.2.2 k.2.2.2).1).2.2.1)),.pad,.pad,.pad,.pad,.opq (.frac (((mtQ (pnr (nP h)) (pnr (nP k)) h.2.2.2 k.2.2.2).1).2.2.2)),.pad,.pad,.pad,.pad]),.int .i64 (mtQ (pnr (nP h)) (pnr (nP k)) h.2.2.2 k.2.2.2).2]):=by
 have HE:=Lx2_all hP TF hP.tF
 obtain ⟨⟨h1,h2,h3,h4⟩,k1,k2,k3,k4⟩:=hpre
 have i1:=Nat.le_trans h1 (show _≤FB by decide)
 have i2:=Nat.le_trans h2 (show _≤FB by decide)
 have i3:=Nat.le_trans h3 (show _≤FB by decide)
 have i4:=Nat.le_trans h4 (show _≤FB by decide)
 have j1:=Nat.le_trans k1 (show _≤FB by decide)
 have j2:=Nat.le_trans k2 (show _≤FB by decide)
 have j3:=Nat.le_trans k3 (show _≤FB by decide)
 have j4:=Nat.le_trans k4 (show _≤FB by decide)
 obtain ⟨n,hn⟩:∃ zz,pnr (nP h)=zz:=⟨_,rfl⟩
 have fn:=pnr_fV (n:=nP h) ⟨h1,h2,h3⟩ (by decide)
 rw [hn] at fn
 obtain ⟨m,hm⟩:∃ zz,pnr (nP k)=zz:=⟨_,rfl⟩
 have fm:=pnr_fV (n:=nP k) ⟨k1,k2,k3⟩ (by decide)
 rw [hm] at fm
 obtain ⟨d,hd⟩:∃ zz,vcq n m=zz:=⟨_,rfl⟩
 have fd:=vcq_fV fn fm
 rw [hd] at fd
 obtain ⟨a,ha⟩:∃ zz,vcq m d=zz:=⟨_,rfl⟩
 have fa:=vcq_fV fm fd
 rw [ha] at fa
 obtain ⟨b,hb⟩:∃ zz,vcq d n=zz:=⟨_,rfl⟩
 have fb:=vcq_fV fd fn
 rw [hb] at fb
 obtain ⟨u,hu⟩:∃ zz,vscq h.2.2.2 a=zz:=⟨_,rfl⟩
 have fu:=vscq_fV h4 fa
 rw [hu] at fu
 obtain ⟨v,hv⟩:∃ zz,vscq k.2.2.2 b=zz:=⟨_,rfl⟩
 have fv:=vscq_fV k4 fb
 rw [hv] at fv
 obtain ⟨s,hs⟩:∃ zz,vadq u v=zz:=⟨_,rfl⟩
 have fs:=vadq_fV fu fv
 rw [hs] at fs
 obtain ⟨y,hy⟩:∃ zz,qdt d d=zz:=⟨_,rfl⟩
 have fy:=qdt_fl fd fd
 rw [hy] at fy
 have f1:fl ((1:Int):Rat)≤64:=fl_i64 (by decide) (by decide)
 have b1:((-9223372036854775808:Int)≤1∧(1:Int)≤9223372036854775807)=True:=eq_true (by decide)
 obtain ⟨q,hq⟩:∃ zz,qdiv ((1:Int):Rat) y=zz:=⟨_,rfl⟩
 have fq:=fl_qdiv f1 fy
 rw [hq] at fq
 obtain ⟨p,hp⟩:∃ zz,vscq q s=zz:=⟨_,rfl⟩
 have fp:=vscq_fV fq fs
 rw [hp] at fp
 unfold mtQ mtP
 rw [hn,hm,hd,ha,hb,hu,hv,hs,hy,hq,hp]
 have hn':pnr (nP (h.1,h.2.1,h.2.2.1,h.2.2.2))=n:=hn
 have hm':pnr (nP (k.1,k.2.1,k.2.2.1,k.2.2.2))=m:=hm
 refine CSpec_go (E:=⟨TF,Lx2⟩) (fn9 hP) HE hP.mix ?_
 by_cases h0:d=v0
 · rw [if_pos h0]
   simp only [go_sem,i1,i2,i3,i4,j1,j2,j3,j4,hn',hm',bt fn (by decide),bt fm (by decide),bt fd (by decide),vcq_c hd,nz_c (decide_eq_true h0)]
   exact fin_z
 · have hy0:(y=0)=False:=eq_false (by rw [← hy]; exact qdt_ne h0)
   have e0:lnE (d.1,d.2.1,d.2.2)=0:=if_neg h0
   rw [if_neg h0]
   simp only [go_sem,i1,i2,i3,i4,j1,j2,j3,j4,hn',hm',bt fn (by decide),bt fm (by decide),bt fd (by decide),vcq_c hd,nz_c (decide_eq_false h0),vcq_c ha,vcq_c hb,bf fa (by decide),bf fb (by decide),vscq_c hu,vscq_c hv,bf fu (by decide),bf fv (by decide),vadq_c hs,bf fs (by decide),qdt_c hy,fk fy (by decide),fk f1 (by decide),b1,hy0,hq,fk fq (by decide),vscq_c hp,bm fp (by decide),bm fd (by decide),e0]
   exact fin_z
noncomputable def lMeetS:List AV→Option (Prop × AV)
 | [x0,x1]=>(rawP x0).bind fun h=>(rawP x1).bind fun k=>some ((fP h 8192∧fP k 8192),.tup [(.agg [.opq (.frac (((mtQ (pnr (nP h)) (pnr (nP k)) h.2.2.2 k.2.2.2).1).1.1)),.pad,.pad,.pad,.pad,.opq (.frac (((mtQ (pnr (nP h)) (pnr (nP k)) h.2.2.2 k.2.2.2).1).1.2.1)),.pad,.pad,.pad,.pad,.opq (.frac (((mtQ (pnr (nP h)) (pnr (nP k)) h.2.2.2 k.2.2.2).1).1.2.2)),.pad,.pad,.pad,.pad,.opq (.frac (((mtQ (pnr (nP h)) (pnr (nP k)) h.2.2.2 k.2.2.2).1).2.1)),.pad,.pad,.pad,.pad,.opq (.frac (((mtQ (pnr (nP h)) (pnr (nP k)) h.2.2.2 k.2.2.2).1).2.2.1)),.pad,.pad,.pad,.pad,.opq (.frac (((mtQ (pnr (nP h)) (pnr (nP k)) h.2.2.2 k.2.2.2).1).2.2.2)),.pad,.pad,.pad,.pad]),.int .i64 (mtQ (pnr (nP h)) (pnr (nP k)) h.2.2.2 k.2.2.2).2])
 | _=>none
theorem lMeetS_eq (x0 x1):lMeetS [x0,x1]=(rawP x0).bind fun h=>(rawP x1).bind fun k=>some ((fP h 8192∧fP k 8192),.tup [(.agg [.opq (.frac (((mtQ (pnr (nP h)) (pnr (nP k)) h.2.2.2 k.2.2.2).1).1.1)),.pad,.pad,.pad,.pad,.opq (.frac (((mtQ (pnr (nP h)) (pnr (nP k)) h.2.2.2 k.2.2.2).1).1.2.1)),.pad,.pad,.pad,.pad,.opq (.frac (((mtQ (pnr (nP h)) (pnr (nP k)) h.2.2.2 k.2.2.2).1).1.2.2)),.pad,.pad,.pad,.pad,.opq (.frac (((mtQ (pnr (nP h)) (pnr (nP k)) h.2.2.2 k.2.2.2).1).2.1)),.pad,.pad,.pad,.pad,.opq (.frac (((mtQ (pnr (nP h)) (pnr (nP k)) h.2.2.2 k.2.2.2).1).2.2.1)),.pad,.pad,.pad,.pad,.opq (.frac (((mtQ (pnr (nP h)) (pnr (nP k)) h.2.2.2 k.2.2.2).1).2.2.2)),.pad,.pad,.pad,.pad]),.int .i64 (mtQ (pnr (nP h)) (pnr (nP k)) h.2.2.2 k.2.2.2).2]):=rfl
theorem lMeetS_ok (hP:PrgOk P) (args p r) (he:lMeetS args=some (p,r)) (hp:p):CSpec P 9 args r:=by
 unfold lMeetS at he
 split at he
 · simp only [Option.bind_eq_some_iff,Option.some.injEq,Prod.mk.injEq] at he
   obtain ⟨h,hhh,k,hhk,rfl,rfl⟩:=he
   rw [rawP_inv hhh,rawP_inv hhk]
   exact lMeet_spec hP h k hp
 · simp at he
attribute [go_sem] lMeetS_eq
noncomputable def Lx3:Nat→List AV→Option (Prop × AV):=addS Lx2 9 lMeetS
theorem Lx3_all (hP:PrgOk P) (T) (hT:TyOk P T):EnvOk P ⟨T,Lx3⟩:=((Lx2_all hP T hT).add (lMeetS_ok hP))
theorem Lx3_at (f a):Lx3 f a=(addS Lx2 9 lMeetS) f a:=rfl
attribute [go_sem] Lx3_at
theorem cmpV_self (a:V3):cmpV a a=0:=by simp [cmpV,cmpQ_self]
structure Ln1 (p e:V3):Prop where
 nz:e ≠ v0
 one:nrm e=e
 dot:vdt p e=0
noncomputable def Lx4:Nat→List AV→Option (Prop × AV):=Lx3
theorem Lx4_all (hP:PrgOk P) (T) (hT:TyOk P T):EnvOk P ⟨T,Lx4⟩:=(Lx3_all hP T hT)
attribute [go_sem] Lx4
noncomputable def Lx5:Nat→List AV→Option (Prop × AV):=Lx4
theorem Lx5_all (hP:PrgOk P) (T) (hT:TyOk P T):EnvOk P ⟨T,Lx5⟩:=(Lx4_all hP T hT)
attribute [go_sem] Lx5
end Go.Proofs.Ytmahhmdeocnlgaa.AM
/- Lines: plain facts of what the laws say. -/
namespace Go.Proofs.Ytmahhmdeocnlgaa.AM
set_option linter.all false
set_option autoImplicit true
set_option relaxedAutoImplicit true
open Go Go.Proofs
set_option maxRecDepth 100000
end Go.Proofs.Ytmahhmdeocnlgaa.AM
/- The laws of lines: what small lines give. -/
namespace Go.Proofs.Ytmahhmdeocnlgaa.AM
set_option linter.all false
set_option autoImplicit true
set_option relaxedAutoImplicit true
open Go Go.Proofs
set_option maxRecDepth 100000
set_option maxHeartbeats 8000000
set_option linter.unusedSimpArgs false
variable {P:Program}
theorem sm {x:Rat} (h:fl x≤4096):fl x≤4096∧fl x≤8192∧fl x≤65536∧fl x≤262144∧fl x≤1048576∧fl x≤4194304∧fl x≤8388608∧fl x≤16777216∧fl x≤67108864∧fl x≤268435456∧fl x≤FB∧wl x.num≤68719476736:=by
 have k:∀ m,4096≤m→fl x≤m:=fun m hm=>Nat.le_trans h hm
 exact ⟨h,k _ (by decide),k _ (by decide),k _ (by decide),k _ (by decide),k _ (by decide),k _ (by decide),k _ (by decide),k _ (by decide),k _ (by decide),k _ (by decide),Nat.le_trans (fl_num h) (by decide)⟩
theorem smi {n:Int} (h1 : -9223372036854775808≤n) (h2:n≤9223372036854775807):(fl ((n:Int):Rat)≤8192∧fl ((n:Int):Rat)≤65536∧fl ((n:Int):Rat)≤262144∧fl ((n:Int):Rat)≤1048576∧fl ((n:Int):Rat)≤4194304∧fl ((n:Int):Rat)≤8388608∧fl ((n:Int):Rat)≤16777216∧fl ((n:Int):Rat)≤67108864∧fl ((n:Int):Rat)≤268435456∧fl ((n:Int):Rat)≤FB)∧((-9223372036854775808:Int)≤n∧n≤9223372036854775807):=by
 have s:=sm (Nat.le_trans (fl_i64 h1 h2) (by decide))
 exact ⟨⟨s.2.1,s.2.2.1,s.2.2.2.1,s.2.2.2.2.1,s.2.2.2.2.2.1,s.2.2.2.2.2.2.1,s.2.2.2.2.2.2.2.1,s.2.2.2.2.2.2.2.2.1,s.2.2.2.2.2.2.2.2.2.1,s.2.2.2.2.2.2.2.2.2.2.1⟩,h1,h2⟩
theorem wakes6_spec (hP:PrgOk P):CSpec P 19 [] (.bool true):=by
 have HE:=Lx5_all hP TF hP.tF
 obtain ⟨A0,hA0⟩:∃ q:Rat,q=0:=⟨_,rfl⟩
 obtain ⟨A1,hA1⟩:∃ q:Rat,q=1:=⟨_,rfl⟩
 obtain ⟨A3,hA3⟩:∃ q:Rat,q=3:=⟨_,rfl⟩
 have f0:=sm (x:=A0) (by rw [hA0]; decide +kernel)
 have f1:=sm (x:=A1) (by rw [hA1]; decide +kernel)
 have f3:=sm (x:=A3) (by rw [hA3]; decide +kernel)
 have i0:=smi (n:=0) (by decide) (by decide)
 have i1:=smi (n:=1) (by decide) (by decide)
 have i2:=smi (n:=-2) (by decide) (by decide)
 have i3:=smi (n:=3) (by decide) (by decide)
 have kL:lnM (((1:Int):Rat),((1:Int):Rat),((0:Int):Rat)) (((-2:Int):Rat),((-2:Int):Rat),((0:Int):Rat))=((A0,A0,A0),(A1,A1,A0)):=by
  rw [hA0,hA1]; unfold lnM lnP lnT nrm ngV qdt; simp only [qadd_eq,qsub_eq,qmul_eq,qdiv_eq,qneg_eq]; decide +kernel
 have kE:lnE (((-2:Int):Rat),((-2:Int):Rat),((0:Int):Rat))=0:=by decide +kernel
 have kP:plV (((1:Int):Rat),((0:Int):Rat),((0:Int):Rat),((3:Int):Rat))=(A1,A0,A0,A3):=by rw [hA0,hA1,hA3]; decide +kernel
 have kF:plE (((1:Int):Rat),((0:Int):Rat),((0:Int):Rat),((3:Int):Rat))=0:=by decide +kernel
 have kd:ldr (A1,A1,A0)=(A1,A1,A0):=by rw [hA0,hA1]; decide +kernel
 have kn:pnr (nP (A1,A0,A0,A3))=(A1,A0,A0):=by rw [hA0,hA1,hA3]; decide +kernel
 have kQ:plnQ (A0,A0,A0) (A1,A1,A0) (A1,A0,A0) A3=(A3,false,0):=by
  rw [hA0,hA1,hA3]; unfold plnQ qdt; simp only [qadd_eq,qsub_eq,qmul_eq,qdiv_eq,qneg_eq]; decide +kernel
 have kz:decide (((A0,A0,A0):V3)=v0)=true:=by rw [hA0]; decide +kernel
 have kc:(cmpV (A1,A1,A0) (((1:Int):Rat),((1:Int):Rat),((0:Int):Rat)) == 0)=true:=by rw [hA0,hA1]; decide +kernel
 have kt:((qtS A3).toList == (ByteArray.mk #[51]).toList)=true:=lit_text [51] rfl (by decide) (by decide) (by decide) (by decide) (by decide) (by rw [hA3]; decide +kernel)
 refine CSpec_go (E:=⟨TF,Lx5⟩) (fn19 hP) HE hP.mix ?_
 simp only [go_sem,f0,f1,f3,i0,i1,i2,i3,kL,kE,kP,kF,kd,kn,kQ,kz,kc,kt]
 exact .refl _
def wakes6S:List AV→Option (Prop × AV)
 | []=>some (True,.bool true)
 | _=>none
theorem wakes6S_ok (hP:PrgOk P) (args p r) (h:wakes6S args=some (p,r)) (hp:p):CSpec P 19 args r:=by
 unfold wakes6S at h
 split at h
 · simp only [Option.some.injEq,Prod.mk.injEq] at h
   obtain ⟨rfl,rfl⟩:=h
   exact wakes6_spec hP
 · simp at h
attribute [go_sem] wakes6S
noncomputable def Lx7:Nat→List AV→Option (Prop × AV):=addS Lx5 19 wakes6S
theorem Lx7_all (hP:PrgOk P) (T) (hT:TyOk P T):EnvOk P ⟨T,Lx7⟩:=((Lx5_all hP T hT).add (wakes6S_ok hP))
theorem Lx7_at (f a):Lx7 f a=(addS Lx5 19 wakes6S) f a:=rfl
attribute [go_sem] Lx7_at
end Go.Proofs.Ytmahhmdeocnlgaa.AM
