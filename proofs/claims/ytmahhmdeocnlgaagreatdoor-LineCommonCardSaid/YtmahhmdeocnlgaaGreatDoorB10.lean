/- The document's vectors. -/
import Derived.Test.YtmahhmdeocnlgaaGreatDoorB9
import Derived.Test.YtmahhmdeocnlgaaGreatDoorB8
import Derived.Test.YtmahhmdeocnlgaaGreatDoorB3
namespace Go.Proofs.YtmahhmdeocnlgaaGreatDoor.AM
set_option linter.all false
set_option autoImplicit true
set_option relaxedAutoImplicit true
open Go Go.Proofs
set_option maxRecDepth 100000
set_option maxHeartbeats 8000000
set_option linter.unusedSimpArgs false
variable {P:Program}
def cellsW:List AV→Option V3
 | [.opq (.rfrac (x)),.pad,.pad,.opq (.rfrac (y)),.pad,.pad,.opq (.rfrac (z)),.pad,.pad]=>some (x,y,z)
 | _=>none
theorem cellsW_eq (x y z):cellsW [.opq (.rfrac (x)),.pad,.pad,.opq (.rfrac (y)),.pad,.pad,.opq (.rfrac (z)),.pad,.pad]=some (x,y,z):=rfl
theorem cellsW_inv {A:List AV} {a:V3} (h:cellsW A=some a):A=[.opq (.rfrac (a.1)),.pad,.pad,.opq (.rfrac (a.2.1)),.pad,.pad,.opq (.rfrac (a.2.2)),.pad,.pad]:=by
 unfold cellsW at h
 split at h
 · simp only [Option.some.injEq] at h; subst h; rfl
 · simp at h
def rawX:AV→Option V3
 | .agg A=>cellsW A
 | _=>none
theorem rawX_eq (A):rawX (.agg A)=cellsW A:=rfl
theorem rawX_inv {v:AV} {a:V3} (h:rawX v=some a):v=(.agg [.opq (.rfrac (a.1)),.pad,.pad,.opq (.rfrac (a.2.1)),.pad,.pad,.opq (.rfrac (a.2.2)),.pad,.pad]):=by
 unfold rawX at h
 split at h
 · rw [cellsW_inv h]
 · simp at h
noncomputable def onX1 (f:V3→Prop × AV):List AV→Option (Prop × AV)
 | [x]=>(rawX x).map f
 | _=>none
noncomputable def onX2 (f:V3→V3→Prop × AV):List AV→Option (Prop × AV)
 | [x,y]=>(rawX x).bind fun a=>(rawX y).map fun b=>f a b
 | _=>none
theorem onX1_eq (f x):onX1 f [x]=(rawX x).map f:=rfl
theorem onX2_eq (f x y):onX2 f [x,y]=(rawX x).bind fun a=>(rawX y).map fun b=>f a b:=rfl
theorem onX1_ok {fi:Nat} {f:V3→Prop × AV} (h:∀ a,(f a).1→CSpec P fi [(.agg [.opq (.rfrac (a.1)),.pad,.pad,.opq (.rfrac (a.2.1)),.pad,.pad,.opq (.rfrac (a.2.2)),.pad,.pad])] (f a).2) (args p r) (he:onX1 f args=some (p,r)) (hp:p):CSpec P fi args r:=by
 unfold onX1 at he
 split at he
 · simp only [Option.map_eq_some_iff] at he
   obtain ⟨a,h1,h2⟩:=he
   have:=h a (by rw [h2]; exact hp)
   rw [h2] at this; rw [rawX_inv h1]; exact this
 · simp at he
theorem onX2_ok {fi:Nat} {f:V3→V3→Prop × AV} (h:∀ a b,(f a b).1→CSpec P fi [(.agg [.opq (.rfrac (a.1)),.pad,.pad,.opq (.rfrac (a.2.1)),.pad,.pad,.opq (.rfrac (a.2.2)),.pad,.pad]),(.agg [.opq (.rfrac (b.1)),.pad,.pad,.opq (.rfrac (b.2.1)),.pad,.pad,.opq (.rfrac (b.2.2)),.pad,.pad])] (f a b).2) (args p r) (he:onX2 f args=some (p,r)) (hp:p):CSpec P fi args r:=by
 unfold onX2 at he
 split at he
 · simp only [Option.bind_eq_some_iff,Option.map_eq_some_iff] at he
   obtain ⟨a,h1,b,h3,h2⟩:=he
   have:=h a b (by rw [h2]; exact hp)
   rw [h2] at this; rw [rawX_inv h1,rawX_inv h3]; exact this
 · simp at he
attribute [go_sem] cellsW_eq rawX_eq onX1_eq onX2_eq
theorem qaddneg (a b:Rat):qadd a (qneg b)=qsub a b:=by rw [qsub_eq,qadd_eq,qneg_eq,Rat.sub_eq_add_neg]
theorem rvInts_spec (hP:PrgOk P) (x y z:Int) (hx : -9223372036854775808≤x∧x≤9223372036854775807) (hy : -9223372036854775808≤y∧y≤9223372036854775807) (hz : -9223372036854775808≤z∧z≤9223372036854775807):CSpec P 62 [.int .i64 x,.int .i64 y,.int .i64 z] (.agg [.opq (.rfrac ((x:Rat))),.pad,.pad,.opq (.rfrac ((y:Rat))),.pad,.pad,.opq (.rfrac ((z:Rat))),.pad,.pad]):=by
 have HE:=Vt5_all hP TF hP.tF
 obtain ⟨x1,x2⟩:=hx
 obtain ⟨y1,y2⟩:=hy
 obtain ⟨z1,z2⟩:=hz
 refine CSpec_go (E:=⟨TF,Vt5⟩) (fn62 hP) HE hP.mix ?_
 simp only [go_sem,x1,x2,y1,y2,z1,z2]
 exact fin_z
def rvIntsS:List AV→Option (Prop × AV)
 | [.int .i64 x,.int .i64 y,.int .i64 z]=>some ((-9223372036854775808≤x∧x≤9223372036854775807)∧(-9223372036854775808≤y∧y≤9223372036854775807)∧(-9223372036854775808≤z∧z≤9223372036854775807),(.agg [.opq (.rfrac ((x:Rat))),.pad,.pad,.opq (.rfrac ((y:Rat))),.pad,.pad,.opq (.rfrac ((z:Rat))),.pad,.pad]))
 | _=>none
theorem rvIntsS_ok (hP:PrgOk P) (args p r) (h:rvIntsS args=some (p,r)) (hp:p):CSpec P 62 args r:=by
 unfold rvIntsS at h
 split at h
 · simp only [Option.some.injEq,Prod.mk.injEq] at h
   obtain ⟨rfl,rfl⟩:=h
   exact rvInts_spec hP _ _ _ hp.1 hp.2.1 hp.2.2
 · simp at h
theorem rvAdd_spec (hP:PrgOk P) (a b:V3) (ha:fV a FB) (hb:fV b FB):CSpec P 78 [(.agg [.opq (.rfrac (a.1)),.pad,.pad,.opq (.rfrac (a.2.1)),.pad,.pad,.opq (.rfrac (a.2.2)),.pad,.pad]),(.agg [.opq (.rfrac (b.1)),.pad,.pad,.opq (.rfrac (b.2.1)),.pad,.pad,.opq (.rfrac (b.2.2)),.pad,.pad])] (.agg [.opq (.rfrac (qadd a.1 b.1)),.pad,.pad,.opq (.rfrac (qadd a.2.1 b.2.1)),.pad,.pad,.opq (.rfrac (qadd a.2.2 b.2.2)),.pad,.pad]):=by
 have HE:=Vt5_all hP TF hP.tF
 obtain ⟨a1,a2,a3⟩:=ha
 obtain ⟨b1,b2,b3⟩:=hb
 refine CSpec_go (E:=⟨TF,Vt5⟩) (fn78 hP) HE hP.mix ?_
 simp only [go_sem,a1,a2,a3,b1,b2,b3]
 exact fin_z
noncomputable def rvAddS:List AV→Option (Prop × AV):=onX2 fun a b=>(fV a FB∧fV b FB,(.agg [.opq (.rfrac (qadd a.1 b.1)),.pad,.pad,.opq (.rfrac (qadd a.2.1 b.2.1)),.pad,.pad,.opq (.rfrac (qadd a.2.2 b.2.2)),.pad,.pad]))
theorem rvAddS_ok (hP:PrgOk P) (args p r):rvAddS args=some (p,r)→p→CSpec P 78 args r:=onX2_ok (fun a b h=>by exact rvAdd_spec hP a b h.1 h.2) args p r
theorem rvNeg_spec (hP:PrgOk P) (a:V3):CSpec P 63 [(.agg [.opq (.rfrac (a.1)),.pad,.pad,.opq (.rfrac (a.2.1)),.pad,.pad,.opq (.rfrac (a.2.2)),.pad,.pad])] (.agg [.opq (.rfrac (qneg a.1)),.pad,.pad,.opq (.rfrac (qneg a.2.1)),.pad,.pad,.opq (.rfrac (qneg a.2.2)),.pad,.pad]):=by
 have HE:=Vt5_all hP TF hP.tF
 refine CSpec_go (E:=⟨TF,Vt5⟩) (fn63 hP) HE hP.mix ?_
 simp only [go_sem]
 exact fin_z
noncomputable def rvNegS:List AV→Option (Prop × AV):=onX1 fun a=>(True,(.agg [.opq (.rfrac (qneg a.1)),.pad,.pad,.opq (.rfrac (qneg a.2.1)),.pad,.pad,.opq (.rfrac (qneg a.2.2)),.pad,.pad]))
theorem rvNegS_ok (hP:PrgOk P) (args p r):rvNegS args=some (p,r)→p→CSpec P 63 args r:=onX1_ok (fun a _=>by exact rvNeg_spec hP a) args p r
theorem rvScale_spec (hP:PrgOk P) (k:Rat) (a:V3) (hk:fl k≤FB) (ha:fV a FB):CSpec P 67 [(.agg [.opq (.rfrac (k)),.pad,.pad]),(.agg [.opq (.rfrac (a.1)),.pad,.pad,.opq (.rfrac (a.2.1)),.pad,.pad,.opq (.rfrac (a.2.2)),.pad,.pad])] (.agg [.opq (.rfrac (qmul k a.1)),.pad,.pad,.opq (.rfrac (qmul k a.2.1)),.pad,.pad,.opq (.rfrac (qmul k a.2.2)),.pad,.pad]):=by
 have HE:=Vt5_all hP TF hP.tF
 obtain ⟨a1,a2,a3⟩:=ha
 refine CSpec_go (E:=⟨TF,Vt5⟩) (fn67 hP) HE hP.mix ?_
 simp only [go_sem,hk,a1,a2,a3]
 exact fin_z
noncomputable def rvScaleS:List AV→Option (Prop × AV)
 | [k,x]=>(rawRF k).bind fun k=>(rawX x).map fun a=>(k.1∧fl k.2≤FB∧fV a FB,(.agg [.opq (.rfrac (qmul k.2 a.1)),.pad,.pad,.opq (.rfrac (qmul k.2 a.2.1)),.pad,.pad,.opq (.rfrac (qmul k.2 a.2.2)),.pad,.pad]))
 | _=>none
theorem rvScaleS_eq (k x):rvScaleS [k,x]=(rawRF k).bind fun k=>(rawX x).map fun a=>(k.1∧fl k.2≤FB∧fV a FB,(.agg [.opq (.rfrac (qmul k.2 a.1)),.pad,.pad,.opq (.rfrac (qmul k.2 a.2.1)),.pad,.pad,.opq (.rfrac (qmul k.2 a.2.2)),.pad,.pad])):=rfl
theorem rvScaleS_ok (hP:PrgOk P) (args p r) (he:rvScaleS args=some (p,r)) (hp:p):CSpec P 67 args r:=by
 unfold rvScaleS at he
 split at he
 · simp only [Option.bind_eq_some_iff,Option.map_eq_some_iff,Prod.exists,Prod.mk.injEq] at he
   obtain ⟨q,k,h1,x,y,z,h2,rfl,rfl⟩:=he
   rw [rawX_inv h2]
   exact (rvScale_spec hP k (x,y,z) hp.2.1 hp.2.2).cv (rawRF_cv h1 hp.1 (.refl _))
 · simp at he
theorem rvDot_spec (hP:PrgOk P) (a b:V3) (ha:fV a 67108864) (hb:fV b 67108864):CSpec P 65 [(.agg [.opq (.rfrac (a.1)),.pad,.pad,.opq (.rfrac (a.2.1)),.pad,.pad,.opq (.rfrac (a.2.2)),.pad,.pad]),(.agg [.opq (.rfrac (b.1)),.pad,.pad,.opq (.rfrac (b.2.1)),.pad,.pad,.opq (.rfrac (b.2.2)),.pad,.pad])] (.agg [.opq (.rfrac (qdt a b)),.pad,.pad]):=by
 have HE:=Vt5_all hP TF hP.tF
 obtain ⟨a1,a2,a3⟩:=ha
 obtain ⟨b1,b2,b3⟩:=hb
 have i1:=Nat.le_trans a1 (show _≤FB by decide)
 have i2:=Nat.le_trans a2 (show _≤FB by decide)
 have i3:=Nat.le_trans a3 (show _≤FB by decide)
 have j1:=Nat.le_trans b1 (show _≤FB by decide)
 have j2:=Nat.le_trans b2 (show _≤FB by decide)
 have j3:=Nat.le_trans b3 (show _≤FB by decide)
 have p1:=Nat.le_trans (fl_qmul a1 b1) (show _≤FB by decide)
 have p2:=Nat.le_trans (fl_qmul a2 b2) (show _≤FB by decide)
 have p3:=Nat.le_trans (fl_qmul a3 b3) (show _≤FB by decide)
 have s1:=Nat.le_trans (fl_qadd (fl_qmul a1 b1) (fl_qmul a2 b2)) (show _≤FB by decide)
 unfold qdt
 refine CSpec_go (E:=⟨TF,Vt5⟩) (fn65 hP) HE hP.mix ?_
 simp only [go_sem,i1,i2,i3,j1,j2,j3,p1,p2,p3,s1]
 exact fin_z
noncomputable def rvDotS:List AV→Option (Prop × AV):=onX2 fun a b=>(fV a 67108864∧fV b 67108864,(.agg [.opq (.rfrac (qdt a b)),.pad,.pad]))
theorem rvDotS_ok (hP:PrgOk P) (args p r):rvDotS args=some (p,r)→p→CSpec P 65 args r:=onX2_ok (fun a b h=>by exact rvDot_spec hP a b h.1 h.2) args p r
def pickI (i:Int) (a:V3):Rat:=if i=0 then a.1 else if i=1 then a.2.1 else a.2.2
theorem pickI_0 (x y z):pickI 0 (x,y,z)=x:=rfl
theorem pickI_1 (x y z):pickI 1 (x,y,z)=y:=rfl
theorem pickI_2 (x y z):pickI 2 (x,y,z)=z:=rfl
theorem rvMin_spec (hP:PrgOk P) (a b:V3) (i j:Int) (hi:i=0∨i=1∨i=2) (hj:j=0∨j=1∨j=2) (ha:fV a 268435456) (hb:fV b 268435456):CSpec P 133 [(.agg [.opq (.rfrac (a.1)),.pad,.pad,.opq (.rfrac (a.2.1)),.pad,.pad,.opq (.rfrac (a.2.2)),.pad,.pad]),(.agg [.opq (.rfrac (b.1)),.pad,.pad,.opq (.rfrac (b.2.1)),.pad,.pad,.opq (.rfrac (b.2.2)),.pad,.pad]),.int .i64 i,.int .i64 j] (.agg [.opq (.rfrac (qsub (qmul (pickI i a) (pickI j b)) (qmul (pickI j a) (pickI i b)))),.pad,.pad]):=by
 have HE:=Vt5_all hP TF hP.tF
 obtain ⟨x1,y1,z1⟩:=a
 obtain ⟨x2,y2,z2⟩:=b
 obtain ⟨a1,a2,a3⟩:=ha
 obtain ⟨b1,b2,b3⟩:=hb
 simp only [] at a1 a2 a3 b1 b2 b3 ⊢
 have n1:(1:Int).toNat=1:=rfl
 have n2:(2:Int).toNat=2:=rfl
 have hm:∀ {x y:Rat},fl x≤268435456→fl y≤268435456→fl (qmul x y)≤FB:=fun h h'=>Nat.le_trans (fl_qmul h h') (by decide)
 have hl:∀ {x:Rat},fl x≤268435456→fl x≤FB:=fun h=>Nat.le_trans h (by decide)
 rcases hi with rfl|rfl|rfl<;>rcases hj with rfl|rfl|rfl
 all_goals
  simp only [pickI_0,pickI_1,pickI_2]
  refine CSpec_go (E:=⟨TF,Vt5⟩) (fn133 hP) HE hP.mix ?_
  simp only [go_sem,n1,n2,hl a1,hl a2,hl a3,hl b1,hl b2,hl b3,hm a1 b1,hm a1 b2,hm a1 b3,hm a2 b1,hm a2 b2,hm a2 b3,hm a3 b1,hm a3 b2,hm a3 b3]
  exact fin_z
noncomputable def rvMinS:List AV→Option (Prop × AV)
 | [x,y,.int .i64 i,.int .i64 j]=>(rawX x).bind fun a=>(rawX y).map fun b=>((i=0∨i=1∨i=2)∧(j=0∨j=1∨j=2)∧fV a 268435456∧fV b 268435456,(.agg [.opq (.rfrac (qsub (qmul (pickI i a) (pickI j b)) (qmul (pickI j a) (pickI i b)))),.pad,.pad]))
 | _=>none
theorem rvMinS_eq (x y i j):rvMinS [x,y,.int .i64 i,.int .i64 j]=(rawX x).bind fun a=>(rawX y).map fun b=>((i=0∨i=1∨i=2)∧(j=0∨j=1∨j=2)∧fV a 268435456∧fV b 268435456,(.agg [.opq (.rfrac (qsub (qmul (pickI i a) (pickI j b)) (qmul (pickI j a) (pickI i b)))),.pad,.pad])):=rfl
theorem rvMinS_ok (hP:PrgOk P) (args p r) (he:rvMinS args=some (p,r)) (hp:p):CSpec P 133 args r:=by
 unfold rvMinS at he
 split at he
 · simp only [Option.bind_eq_some_iff,Option.map_eq_some_iff,Prod.mk.injEq] at he
   obtain ⟨a,h1,b,h2,rfl,rfl⟩:=he
   rw [rawX_inv h1,rawX_inv h2]
   exact rvMin_spec hP a b _ _ hp.1 hp.2.1 hp.2.2.1 hp.2.2.2
 · simp at he
attribute [go_sem] rvIntsS rvAddS rvNegS rvScaleS_eq rvDotS rvMinS_eq pickI_0 pickI_1 pickI_2
noncomputable def Xt0:Nat→List AV→Option (Prop × AV):=addS (addS (addS (addS (addS (addS Vt5 62 rvIntsS) 78 rvAddS) 63 rvNegS) 67 rvScaleS) 65 rvDotS) 133 rvMinS
theorem Xt0_all (hP:PrgOk P) (T) (hT:TyOk P T):EnvOk P ⟨T,Xt0⟩:=(((((((Vt5_all hP T hT).add (rvIntsS_ok hP)).add (rvAddS_ok hP)).add (rvNegS_ok hP)).add (rvScaleS_ok hP)).add (rvDotS_ok hP)).add (rvMinS_ok hP))
theorem Xt0_at (f a):Xt0 f a=(addS (addS (addS (addS (addS (addS Vt5 62 rvIntsS) 78 rvAddS) 63 rvNegS) 67 rvScaleS) 65 rvDotS) 133 rvMinS) f a:=rfl
attribute [go_sem] Xt0_at
theorem rvSub_spec (hP:PrgOk P) (a b:V3) (ha:fV a FB) (hb:fV b FB):CSpec P 66 [(.agg [.opq (.rfrac (a.1)),.pad,.pad,.opq (.rfrac (a.2.1)),.pad,.pad,.opq (.rfrac (a.2.2)),.pad,.pad]),(.agg [.opq (.rfrac (b.1)),.pad,.pad,.opq (.rfrac (b.2.1)),.pad,.pad,.opq (.rfrac (b.2.2)),.pad,.pad])] (.agg [.opq (.rfrac (qsub a.1 b.1)),.pad,.pad,.opq (.rfrac (qsub a.2.1 b.2.1)),.pad,.pad,.opq (.rfrac (qsub a.2.2 b.2.2)),.pad,.pad]):=by
 have HE:=Xt0_all hP TF hP.tF
 obtain ⟨a1,a2,a3⟩:=ha
 obtain ⟨b1,b2,b3⟩:=hb
 have n1:=fl_qneg b1
 have n2:=fl_qneg b2
 have n3:=fl_qneg b3
 refine CSpec_go (E:=⟨TF,Xt0⟩) (fn66 hP) HE hP.mix ?_
 simp only [go_sem,a1,a2,a3,n1,n2,n3,qaddneg]
 exact fin_z
noncomputable def rvSubS:List AV→Option (Prop × AV):=onX2 fun a b=>(fV a FB∧fV b FB,(.agg [.opq (.rfrac (qsub a.1 b.1)),.pad,.pad,.opq (.rfrac (qsub a.2.1 b.2.1)),.pad,.pad,.opq (.rfrac (qsub a.2.2 b.2.2)),.pad,.pad]))
theorem rvSubS_ok (hP:PrgOk P) (args p r):rvSubS args=some (p,r)→p→CSpec P 66 args r:=onX2_ok (fun a b h=>by exact rvSub_spec hP a b h.1 h.2) args p r
theorem rvCross_spec (hP:PrgOk P) (a b:V3) (ha:fV a 268435456) (hb:fV b 268435456):CSpec P 75 [(.agg [.opq (.rfrac (a.1)),.pad,.pad,.opq (.rfrac (a.2.1)),.pad,.pad,.opq (.rfrac (a.2.2)),.pad,.pad]),(.agg [.opq (.rfrac (b.1)),.pad,.pad,.opq (.rfrac (b.2.1)),.pad,.pad,.opq (.rfrac (b.2.2)),.pad,.pad])] (.agg [.opq (.rfrac ((vcq a b).1)),.pad,.pad,.opq (.rfrac ((vcq a b).2.1)),.pad,.pad,.opq (.rfrac ((vcq a b).2.2)),.pad,.pad]):=by
 have HE:=Xt0_all hP TF hP.tF
 obtain ⟨x1,y1,z1⟩:=a
 obtain ⟨x2,y2,z2⟩:=b
 obtain ⟨a1,a2,a3⟩:=ha
 obtain ⟨b1,b2,b3⟩:=hb
 simp only [] at a1 a2 a3 b1 b2 b3
 have d1:((1:Int)=0∨(1:Int)=1∨(1:Int)=2)=True:=eq_true (by decide)
 have d2:((2:Int)=0∨(2:Int)=1∨(2:Int)=2)=True:=eq_true (by decide)
 have d0:((0:Int)=0∨(0:Int)=1∨(0:Int)=2)=True:=eq_true (by decide)
 unfold vcq
 simp only []
 refine CSpec_go (E:=⟨TF,Xt0⟩) (fn75 hP) HE hP.mix ?_
 simp only [go_sem,a1,a2,a3,b1,b2,b3,d0,d1,d2]
 (repeat' (first|exact Conv.refl _|refine And.intro ?_ ?_))<;>first|omega|decide|simp
noncomputable def rvCrossS:List AV→Option (Prop × AV):=onX2 fun a b=>(fV a 268435456∧fV b 268435456,(.agg [.opq (.rfrac ((vcq a b).1)),.pad,.pad,.opq (.rfrac ((vcq a b).2.1)),.pad,.pad,.opq (.rfrac ((vcq a b).2.2)),.pad,.pad]))
theorem rvCrossS_ok (hP:PrgOk P) (args p r):rvCrossS args=some (p,r)→p→CSpec P 75 args r:=onX2_ok (fun a b h=>by exact rvCross_spec hP a b h.1 h.2) args p r
theorem rvCmp_spec (hP:PrgOk P) (a b:V3) (ha:fV a FB) (hb:fV b FB):CSpec P 61 [(.agg [.opq (.rfrac (a.1)),.pad,.pad,.opq (.rfrac (a.2.1)),.pad,.pad,.opq (.rfrac (a.2.2)),.pad,.pad]),(.agg [.opq (.rfrac (b.1)),.pad,.pad,.opq (.rfrac (b.2.1)),.pad,.pad,.opq (.rfrac (b.2.2)),.pad,.pad])] (.int .i64 (cmpV a b)):=by
 have HE:=Xt0_all hP TF hP.tF
 obtain ⟨a1,a2,a3⟩:=ha
 obtain ⟨b1,b2,b3⟩:=hb
 have w1:IntKind.i64.wrap (0+1)=1:=rfl
 have w2:IntKind.i64.wrap (1+1)=2:=rfl
 have w3:IntKind.i64.wrap (2+1)=3:=rfl
 have n1:(1:Int).toNat=1:=rfl
 have n2:(2:Int).toNat=2:=rfl
 have le1:((0:Int)≤1)=True:=eq_true (by decide)
 have le2:((0:Int)≤2)=True:=eq_true (by decide)
 unfold cmpV
 refine CSpec_go (E:=⟨TF,Xt0⟩) (fn61 hP) HE hP.mix ?_
 simp only [go_sem]
 refine trX_once HE hP.mix 21 150 (by kernel_rfl) ?_
 by_cases c1:cmpQ a.1 b.1=0
 · have c1':(cmpQ a.1 b.1 != 0)=false:=by rw [c1]; rfl
   rw [if_pos c1]
   simp only [go_sem,w1,a1,b1,c1']
   refine goX_once HE hP.mix 21 200 (by kernel_rfl) ?_
   by_cases c2:cmpQ a.2.1 b.2.1=0
   · have c2':(cmpQ a.2.1 b.2.1 != 0)=false:=by rw [c2]; rfl
     rw [if_pos c2]
     simp only [go_sem,w2,n1,le1,a2,b2,c2']
     refine goX_once HE hP.mix 21 250 (by kernel_rfl) ?_
     by_cases c3:cmpQ a.2.2 b.2.2=0
     · have c3':(cmpQ a.2.2 b.2.2 != 0)=false:=by rw [c3]; rfl
       simp only [go_sem,w3,n2,le2,a3,b3,c3']
       refine goX_once HE hP.mix 21 300 (by kernel_rfl) ?_
       rw [c3]
       simp only [go_sem]
       exact fin_z
     · have c3':(cmpQ a.2.2 b.2.2 != 0)=true:=by simpa using c3
       simp only [go_sem,w3,n2,le2,a3,b3,c3']
       exact fin_z
   · have c2':(cmpQ a.2.1 b.2.1 != 0)=true:=by simpa using c2
     rw [if_neg c2]
     simp only [go_sem,w2,n1,le1,a2,b2,c2']
     exact fin_z
 · have c1':(cmpQ a.1 b.1 != 0)=true:=by simpa using c1
   rw [if_neg c1]
   simp only [go_sem,w1,a1,b1,c1']
   exact fin_z
noncomputable def rvCmpS:List AV→Option (Prop × AV):=onX2 fun a b=>(fV a FB∧fV b FB,.int .i64 (cmpV a b))
theorem rvCmpS_ok (hP:PrgOk P) (args p r):rvCmpS args=some (p,r)→p→CSpec P 61 args r:=onX2_ok (fun a b h=>by exact rvCmp_spec hP a b h.1 h.2) args p r
theorem rvZero_spec (hP:PrgOk P) (a:V3):CSpec P 59 [(.agg [.opq (.rfrac (a.1)),.pad,.pad,.opq (.rfrac (a.2.1)),.pad,.pad,.opq (.rfrac (a.2.2)),.pad,.pad])] (.bool (decide (a=v0))):=by
 have HE:=Xt0_all hP TF hP.tF
 rw [← zrV_eq]
 unfold zrV
 refine CSpec_go (E:=⟨TF,Xt0⟩) (fn59 hP) HE hP.mix ?_
 by_cases c1:a.1=0
 · have c1':=decide_eq_true c1
   by_cases c2:a.2.1=0
   · have c2':=decide_eq_true c2
     simp only [go_sem,cmpQ_z,c1',c2']
     exact fin_z
   · have c2':=decide_eq_false c2
     simp only [go_sem,cmpQ_z,c1',c2']
     exact fin_z
 · have c1':=decide_eq_false c1
   simp only [go_sem,cmpQ_z,c1']
   exact fin_z
noncomputable def rvZeroS:List AV→Option (Prop × AV):=onX1 fun a=>(True,.bool (decide (a=v0)))
theorem rvZeroS_ok (hP:PrgOk P) (args p r):rvZeroS args=some (p,r)→p→CSpec P 59 args r:=onX1_ok (fun a _=>by exact rvZero_spec hP a) args p r
theorem rvPoint_spec (hP:PrgOk P) (a:V3) (ha:fV a FB):CSpec P 91 [(.agg [.opq (.rfrac (a.1)),.pad,.pad,.opq (.rfrac (a.2.1)),.pad,.pad,.opq (.rfrac (a.2.2)),.pad,.pad])] (.agg [.str (qtS a.1),.str (qtS a.2.1),.str (qtS a.2.2)]):=by
 have HE:=Xt0_all hP TF hP.tF
 obtain ⟨a1,a2,a3⟩:=ha
 refine CSpec_go (E:=⟨TF,Xt0⟩) (fn91 hP) HE hP.mix ?_
 simp only [go_sem,a1,a2,a3]
 exact fin_z
noncomputable def rvPointS:List AV→Option (Prop × AV):=onX1 fun a=>(fV a FB,.agg [.str (qtS a.1),.str (qtS a.2.1),.str (qtS a.2.2)])
theorem rvPointS_ok (hP:PrgOk P) (args p r):rvPointS args=some (p,r)→p→CSpec P 91 args r:=onX1_ok (fun a h=>by exact rvPoint_spec hP a h) args p r
theorem rvParse_spec (hP:PrgOk P) (x y z:ByteArray) (hx:(bl x).length≤140737488355328) (hy:(bl y).length≤140737488355328) (hz:(bl z).length≤140737488355328):CSpec P 49 [.agg [.str x,.str y,.str z]] (.tup [(.agg [.opq (.rfrac ((parV (bl x) (bl y) (bl z)).1.1)),.pad,.pad,.opq (.rfrac ((parV (bl x) (bl y) (bl z)).1.2.1)),.pad,.pad,.opq (.rfrac ((parV (bl x) (bl y) (bl z)).1.2.2)),.pad,.pad]),.int .i64 (parV (bl x) (bl y) (bl z)).2]):=by
 have HE:=Xt0_all hP TF hP.tF
 have w1:IntKind.i64.wrap (0+1)=1:=rfl
 have w2:IntKind.i64.wrap (1+1)=2:=rfl
 have w3:IntKind.i64.wrap (2+1)=3:=rfl
 have n1:(1:Int).toNat=1:=rfl
 have n2:(2:Int).toNat=2:=rfl
 have le1:((0:Int)≤1)=True:=eq_true (by decide)
 have le2:((0:Int)≤2)=True:=eq_true (by decide)
 have z0:((0:Int):Rat)=0:=rfl
 have b1:((-9223372036854775808:Int)≤0∧(0:Int)≤9223372036854775807)=True:=eq_true (by decide)
 unfold parV
 refine CSpec_go (E:=⟨TF,Xt0⟩) (fn49 hP) HE hP.mix ?_
 simp only [go_sem,z0,b1]
 refine trX_once HE hP.mix 36 150 (by kernel_rfl) ?_
 by_cases c1:(parF (bl x)).2=0
 · have c1':((parF (bl x)).2 != 0)=false:=by rw [c1]; rfl
   rw [if_pos c1]
   simp only [go_sem,w1,hx,c1']
   refine goX_once HE hP.mix 36 200 (by kernel_rfl) ?_
   by_cases c2:(parF (bl y)).2=0
   · have c2':((parF (bl y)).2 != 0)=false:=by rw [c2]; rfl
     rw [if_pos c2]
     simp only [go_sem,w2,n1,le1,hy,c2']
     refine goX_once HE hP.mix 36 250 (by kernel_rfl) ?_
     by_cases c3:(parF (bl z)).2=0
     · have c3':((parF (bl z)).2 != 0)=false:=by rw [c3]; rfl
       rw [if_pos c3]
       simp only [go_sem,w3,n2,le2,hz,c3']
       refine goX_once HE hP.mix 36 300 (by kernel_rfl) ?_
       simp only [go_sem]
       exact fin_z
     · have c3':((parF (bl z)).2 != 0)=true:=by simpa using c3
       rw [if_neg c3]
       simp only [go_sem,w3,n2,le2,hz,c3',z0,b1]
       exact fin_z
   · have c2':((parF (bl y)).2 != 0)=true:=by simpa using c2
     rw [if_neg c2]
     simp only [go_sem,w2,n1,le1,hy,c2',z0,b1]
     exact fin_z
 · have c1':((parF (bl x)).2 != 0)=true:=by simpa using c1
   rw [if_neg c1]
   simp only [go_sem,w1,hx,c1',z0,b1]
   exact fin_z
noncomputable def rvParseS:List AV→Option (Prop × AV)
 | [.agg [.str x,.str y,.str z]]=>some ((bl x).length≤140737488355328∧(bl y).length≤140737488355328∧(bl z).length≤140737488355328,.tup [(.agg [.opq (.rfrac ((parV (bl x) (bl y) (bl z)).1.1)),.pad,.pad,.opq (.rfrac ((parV (bl x) (bl y) (bl z)).1.2.1)),.pad,.pad,.opq (.rfrac ((parV (bl x) (bl y) (bl z)).1.2.2)),.pad,.pad]),.int .i64 (parV (bl x) (bl y) (bl z)).2])
 | _=>none
theorem rvParseS_ok (hP:PrgOk P) (args p r) (h:rvParseS args=some (p,r)) (hp:p):CSpec P 49 args r:=by
 unfold rvParseS at h
 split at h
 · simp only [Option.some.injEq,Prod.mk.injEq] at h
   obtain ⟨rfl,rfl⟩:=h
   exact rvParse_spec hP _ _ _ hp.1 hp.2.1 hp.2.2
 · simp at h
attribute [go_sem] rvSubS rvCrossS rvCmpS rvZeroS rvPointS rvParseS
noncomputable def Xt1:Nat→List AV→Option (Prop × AV):=addS (addS (addS (addS (addS (addS Xt0 66 rvSubS) 75 rvCrossS) 61 rvCmpS) 59 rvZeroS) 91 rvPointS) 49 rvParseS
theorem Xt1_all (hP:PrgOk P) (T) (hT:TyOk P T):EnvOk P ⟨T,Xt1⟩:=(((((((Xt0_all hP T hT).add (rvSubS_ok hP)).add (rvCrossS_ok hP)).add (rvCmpS_ok hP)).add (rvZeroS_ok hP)).add (rvPointS_ok hP)).add (rvParseS_ok hP))
theorem Xt1_at (f a):Xt1 f a=(addS (addS (addS (addS (addS (addS Xt0 66 rvSubS) 75 rvCrossS) 61 rvCmpS) 59 rvZeroS) 91 rvPointS) 49 rvParseS) f a:=rfl
attribute [go_sem] Xt1_at
noncomputable def Wt4:Nat→List AV→Option (Prop × AV):=Wt3
theorem Wt4_all (hP:PrgOk P) (T) (hT:TyOk P T):EnvOk P ⟨T,Wt4⟩:=(Wt3_all hP T hT)
attribute [go_sem] Wt4
end Go.Proofs.YtmahhmdeocnlgaaGreatDoor.AM
/- Lists of numbers in cells. -/
namespace Go.Proofs.YtmahhmdeocnlgaaGreatDoor.AM
set_option linter.all false
set_option autoImplicit true
set_option relaxedAutoImplicit true
open Go Go.Proofs
theorem nq_l (q k:Nat):(q+(k+1) == q)=false:=by simp
theorem nq_r (q k:Nat):(q == q+(k+1))=false:=by simp
attribute [go_sem] nq_l nq_r true_or or_true ne_eq not_false_eq_true not_true_eq_false imp_self
class Wd {α:Type} (f:α→List AV) (k:outParam Nat):Prop where
 len:∀ a,(f a).length=k
 pos:0<k
 head:∀ a,AV.head (f a)=true
 ck:∀ a,(f a).all AV.ck=true
 only:∀ g a,onlyL g (f a)=true
 fv:∀ m j a,(f a).map (fzV m j)=f a
 fc:∀ m j a,∀ x ∈ f a,fzC m j x
def cl {α:Type} (f:α→List AV) (l:List α):List AV:=l.flatMap f
section
variable {α:Type} {f:α→List AV} {k:Nat} {l:List α} {a:α} {i:Nat}
theorem cl_cons:cl f (a::l)=f a++cl f l:=rfl
theorem cl_app (l'):cl f l++cl f l'=cl f (l++l'):=by simp [cl]
theorem cl_snoc:cl f l++f a=cl f (l++[a]):=by simp [cl]
variable [h:Wd f k]
theorem cl_len:(cl f l).length=l.length*k:=by
 induction l with
 | nil=>simp [cl]
 | cons a l ih=>rw [cl_cons,List.length_append,h.len,ih,List.length_cons,Nat.succ_mul,Nat.add_comm]
theorem cl_drop:(cl f l).drop (i*k)=cl f (l.drop i):=by
 induction i generalizing l with
 | zero=>simp
 | succ i ih =>
   cases l with
   | nil=>simp [cl]
   | cons a l =>
     rw [cl_cons,Nat.succ_mul,Nat.add_comm,← List.drop_drop,← h.len a,List.drop_left,List.drop_succ_cons,h.len a]; exact ih
theorem cl_take:(cl f l).take (i*k)=cl f (l.take i):=by
 induction i generalizing l with
 | zero=>simp [cl]
 | succ i ih =>
   cases l with
   | nil=>simp [cl]
   | cons a l =>
     rw [cl_cons,Nat.succ_mul,Nat.add_comm,List.take_append,h.len,List.take_of_length_le (by rw [h.len]; omega),Nat.add_sub_cancel_left,List.take_succ_cons,ih]; rfl
theorem cl_head {α:Type} {f:α→List AV} {k:Nat} {l:List α} [h:Wd f k]:AV.head (cl f l)=true:=by
 cases l with
 | nil=>rfl
 | cons a l =>
   have h1:=h.head a
   have h2:=h.len a
   have h3:=h.pos
   rw [cl_cons]
   cases hf:f a with
   | nil=>rw [hf] at h2; simp at h2; omega
   | cons x t=>rw [hf] at h1; cases x<;>first|rfl|exact h1
theorem cl_ck {α:Type} {f:α→List AV} {k:Nat} {l:List α} [h:Wd f k]:(cl f l).all AV.ck=true:=by
 induction l with
 | nil=>rfl
 | cons a l ih=>rw [cl_cons,List.all_append,h.ck,ih]; rfl
theorem cl_only {α:Type} {f:α→List AV} {k:Nat} {l:List α} [h:Wd f k] (g):onlyL g (cl f l)=true:=by
 induction l with
 | nil=>rfl
 | cons a l ih=>rw [cl_cons,onlyL_append,h.only,ih]; rfl
theorem cl_fv {α:Type} {f:α→List AV} {k:Nat} {l:List α} [h:Wd f k] (m j):(cl f l).map (fzV m j)=cl f l:=by
 induction l with
 | nil=>rfl
 | cons a l ih=>rw [cl_cons,List.map_append,h.fv,ih]
theorem cl_fc {α:Type} {f:α→List AV} {k:Nat} {l:List α} [h:Wd f k] (m j):(∀ x ∈ cl f l,fzC m j x)=True:=eq_true fun x hx=>by
 obtain ⟨a,_,hx⟩:=List.mem_flatMap.1 hx
 exact h.fc m j a x hx
theorem cl_all {α:Type} {f:α→List AV} {k:Nat} {l:List α} [h:Wd f k] {n:Nat} (hn:n=l.length*k):(cl f l).take n=cl f l:=List.take_of_length_le (by rw [cl_len]; omega)
theorem cl_repl {α:Type} {f:α→List AV} (n:Nat) (a:α):(List.replicate n (f a)).flatten=cl f (List.replicate n a):=by
 induction n with
 | zero=>rfl
 | succ n ih=>rw [List.replicate_succ,List.flatten_cons,ih,List.replicate_succ,cl_cons]
theorem cl_set (hi:i<l.length):(cl f l).take (i*k)++f a++(cl f l).drop (i*k+k)=cl f (l.set i a):=by
 rw [cl_take,show i*k+k=(i+1)*k by rw [Nat.succ_mul],cl_drop,cl_snoc,cl_app]
 congr 1
 rw [List.set_eq_take_append_cons_drop,if_pos hi]; simp
end
theorem CvL.imm {n:Nat} {cs cs' xs bs:List AV} (h:CvL cs cs') (h':CvL xs bs):CvL (.imm n cs::xs) (.imm n cs'::bs):=fun X φ w l hl=>by
 generalize e:(AV.imm n cs::xs)=t at hl
 cases hl with
 | imm0 a c h1 =>
   obtain ⟨e1,e2⟩:=List.cons.inj e
   simp only [AV.imm.injEq] at e1
   obtain ⟨rfl,rfl⟩:=e1
   obtain rfl:=e2
   have h2:=h X φ w [] .nil
   have:cs'=[]:=by have:=h2.length; simpa using this.symm
   subst this
   exact .imm0 _ _ (h' _ _ _ _ h1)
 | imm z h1 h2 h3 h4 =>
   obtain ⟨e1,e2⟩:=List.cons.inj e
   simp only [AV.imm.injEq] at e1
   obtain ⟨rfl,rfl⟩:=e1
   obtain rfl:=e2
   exact .imm z h1 h2 (h _ _ _ _ h3) (h' _ _ _ _ h4)
 | _=>cases e
theorem RL.app_inv {W φ w} {us bs:List AV} {l:List Value} (h:RL W φ w l (us++bs)) (hh:AV.head bs=true):RL W φ w (l.take us.length) us∧RL W φ w (l.drop us.length) bs:=by
 have:=h.split us.length (by simp) (by simpa using hh)
 simpa using this
theorem CvL.app {a b c d:List AV} (h:CvL a b) (h':CvL c d) (hc:AV.head c=true):CvL (a++c) (b++d):=fun X φ w l hl=>by
 obtain ⟨h1,h2⟩:=RL.app_inv hl hc
 have:=(h _ _ _ _ h1).app (h' _ _ _ _ h2)
 rwa [List.take_append_drop] at this
theorem CvL.cl {α:Type} {f g:α→List AV} {k:Nat} [Wd f k] (h:∀ a,CvL (f a) (g a)) (l:List α):CvL (AM.cl f l) (AM.cl g l):=by
 induction l with
 | nil=>exact .refl _
 | cons a l ih=>rw [cl_cons,cl_cons]; exact CvL.app (h a) ih cl_head
theorem CvL.clm {α β:Type} {f:α→List AV} {g:β→List AV} {k:Nat} [Wd f k] {h:α→β} (hh:∀ a,CvL (f a) (g (h a))) (l:List α):CvL (AM.cl f l) (AM.cl g (l.map h)):=by
 induction l with
 | nil=>exact .refl _
 | cons a l ih=>rw [cl_cons,List.map_cons,cl_cons]; exact CvL.app (hh a) ih cl_head
def wG (z:Int):List AV:=[.opq (.whole z),.pad,.pad]
theorem fz_flat {l:List AV} (h:∀ x ∈ l,∀ m j,fzC m j x∧fzV m j x=x):(∀ m j,l.map (fzV m j)=l)∧∀ m j,∀ x ∈ l,fzC m j x:=by
 refine ⟨fun m j=>?_,fun m j x hx=>(h x hx m j).1⟩
 conv=>rhs; rw [← List.map_id l]
 exact List.map_congr_left fun x hx=>(h x hx m j).2
theorem fz_wC (z:Int):∀ x ∈ wC z,∀ m j,fzC m j x∧fzV m j x=x:=by
 intro x hx m j
 simp only [wC,List.mem_cons,List.not_mem_nil,or_false] at hx
 rcases hx with rfl|rfl|rfl<;>cases j<;>exact ⟨trivial,rfl⟩
theorem fz_wG (z:Int):∀ x ∈ wG z,∀ m j,fzC m j x∧fzV m j x=x:=by
 intro x hx m j
 simp only [wG,List.mem_cons,List.not_mem_nil,or_false] at hx
 rcases hx with rfl|rfl|rfl<;>cases j<;>exact ⟨trivial,rfl⟩
instance:Wd wC 3:=⟨fun _=>rfl,by decide,fun _=>rfl,fun _=>rfl,fun _ _=>rfl,fun m j z=>(fz_flat (fz_wC z)).1 m j,fun m j z=>(fz_flat (fz_wC z)).2 m j⟩
instance:Wd wG 3:=⟨fun _=>rfl,by decide,fun _=>rfl,fun _=>rfl,fun _ _=>rfl,fun m j z=>(fz_flat (fz_wG z)).1 m j,fun m j z=>(fz_flat (fz_wG z)).2 m j⟩
theorem CvL.GC (z:Int):CvL (wG z) (wC z):=by simpa [Pay.open,Pay.width,wC,wG] using CvL.unfold (.whole z) []
theorem CvL.CG (z:Int):CvL (wC z) (wG z):=by simpa [Pay.open,Pay.width,wC,wG] using CvL.fold (.whole z) [] rfl
end Go.Proofs.YtmahhmdeocnlgaaGreatDoor.AM
/- Whole numbers without what divides them all. -/
namespace Go.Proofs.YtmahhmdeocnlgaaGreatDoor.AM
set_option linter.all false
set_option autoImplicit true
set_option relaxedAutoImplicit true
open Go Go.Proofs
set_option maxRecDepth 100000
set_option maxHeartbeats 8000000
set_option linter.unusedSimpArgs false
variable {P:Program}
def gcdL (l:List Int):Nat:=l.foldl (fun g z=>Nat.gcd g z.natAbs) 0
theorem gcdL_snoc (l:List Int) (z:Int):gcdL (l++[z])=Nat.gcd (gcdL l) z.natAbs:=by simp [gcdL]
theorem gcdF_blen {n:Nat}:∀ (l:List Int) (g:Nat),blen g≤n→(∀ z ∈ l,wl z≤n)→blen (l.foldl (fun g z=>Nat.gcd g z.natAbs) g)≤n
 | [],_,hg,_=>hg
 | z::l,g,hg,h=>gcdF_blen l _ (gcd_blen hg (h z (by simp))) fun y hy=>h y (by simp [hy])
theorem gcdL_blen {n:Nat} (l:List Int) (h:∀ z ∈ l,wl z≤n):blen (gcdL l)≤n:=gcdF_blen l 0 (Nat.le_trans (Nat.le_of_eq (show blen 0=0 by decide)) (Nat.zero_le _)) h
def primZ (g:Nat) (z:Int):Int:=if g=0 then z else sg (decide (z<0)) (z.natAbs / g)
def primL (l:List Int):List Int:=l.map (primZ (gcdL l))
theorem prim2_ic (hP:PrgOk P) {l:List Int} {i g:Nat} {z:Int} {K:Nat→AV→(Nat→AObj)→Prop} (hi:i<l.length) (hz:l[i]=z) (hzb:wl z≤34359738368) (hg:blen g≤34359738368)
 (k:∀ nx m',KM [2,0] m' (upd (upd (fun _=>.unused) 0 (.live [.imm l.length (cl wC l)])) 2 (.live [.opq (.nat (Nat.gcd g z.natAbs)),.pad]))→K nx (.tup []) m') :
 icX (ICall P) 154 [.int .i64 (i:Int),.ref 2 0,.ref 0 0] (upd (upd (fun _=>.unused) 0 (.live [.imm l.length (cl wC l)])) 2 (.live [.opq (.nat g),.pad])) (K:=⟨K⟩):=by
 have HE:=Wt4_all hP T1 hP.t1
 refine icX_vc (E:=⟨T1,Wt4⟩) (fn154 hP) HE hP.mix rfl rfl (Nat.le_of_ble_eq_true rfl) 0 ?_
 have h3:i*3≤l.length*3:=by omega
 have hd:(cl wC l).drop (i*3) = .bool (decide (z<0)) :: .opq (.nat z.natAbs) :: .pad::cl wC (l.drop (i+1)):=by
  rw [cl_drop,List.drop_eq_getElem_cons hi,cl_cons,hz]; rfl
 have hlen:(cl wC (l.drop (i+1))).length=(l.length-(i+1))*3:=by rw [cl_len,List.length_drop]
 have hh:AV.head (cl wC (l.drop (i+1)))=true:=cl_head
 have hzb':=Nat.le_trans hzb (show _≤68719476736 by decide)
 have hg':=Nat.le_trans hg (show _≤68719476736 by decide)
 unfold wl at hzb'
 simp only [go_sem,hi,cl_len,h3,hd,hzb',hg',hlen,hh,upd_upd]
 have ho:objOnly [2,0] (.live [.imm l.length (cl wC l)])=true:=by simp only [objOnly,onlyL,AV.only,cl_only,Bool.and_true]
 exact k _ _ (KM.p (.upd rfl rfl (.upd rfl ho .nil)))
theorem each_ic (hP:PrgOk P) {n fd:Nat} {dcs cs0:List AV} {M:Nat→Nat→AObj} {L:List Nat} {K:Nat→AV→(Nat→AObj)→Prop} (hn:n≤1099511627776)
 (h0:∀ i,M i 0 = .live [.imm n cs0]) (hM:∀ i,GenM L (M i)) (hd:onlyL (fun r=>L.contains r) dcs=true) (h0L:L.contains 0=true)
 (step:∀ i,i<n→∀ K':Nat→AV→(Nat→AObj)→Prop,(∀ nx m',KM L m' (M (i+1))→K' nx (.tup []) m')→icX (ICall P) fd (.int .i64 (i:Int)::dcs) (M i) (K:=⟨K'⟩))
 (k:∀ nx,K nx (.tup []) (M n)) :
 icX (ICall P) 153 [.fn fd [] dcs,.ref 0 0] (M 0) (K:=⟨K⟩):=by
 have HE:=EnvOk.no hP.t1
 refine icX_vc (E:=⟨T1,noS⟩) (fn153 hP) HE hP.mix rfl rfl (Nat.le_of_ble_eq_true rfl) 0 ?_
 have h00:=h0 0
 have hdo:(AV.fn fd [] dcs).only (fun r=>L.contains r)=true:=by simp only [AV.only,onlyL,Bool.true_and]; exact hd
 have hro:(AV.ref 0 0).only (fun r=>L.contains r)=true:=by simp only [AV.only]; exact h0L
 simp only [go_sem,h00]
 refine trX_loop HE hP.mix L (fun i:Nat=>⟨upd (upd (upd (upd (fun _=>.junk) 0 (.fn fd [] dcs)) 1 (.ref 0 0)) 5 (.int .i64 (n:Int))) 6 (.int .i64 (i:Int)),M i,13⟩)
  (fun i=>i≤n) (fun i=>n-i) 0 0 (hM 0).1 (Kept.of rfl (by repeat (first|exact KT.nil|refine KT.upd rfl (by first|rfl|exact hdo|exact hro) ?_)) (KM.gen (hM 0))) (Nat.zero_le _) 13 (by kernel_rfl) ?_
 intro i hi
 by_cases h:i<n
 · have hwi:=wi_add1 i (by omega)
   simp only [go_sem,h,h0 i]
   refine step i h _ fun nx m' hm'=>?_
   simp only [go_sem,hwi]
   exact ⟨i+1,Kept.of rfl (by repeat (first|exact KT.nil|refine KT.upd rfl (by first|rfl|exact hdo|exact hro) ?_)) hm',by omega,by omega⟩
 · obtain rfl:i=n:=by omega
   simp only [go_sem,h]
   exact k _
def wX (p:Bool × Int):List AV:=if p.1 then wG p.2 else wC p.2
theorem fz_wX (p:Bool × Int):∀ x ∈ wX p,∀ m j,fzC m j x∧fzV m j x=x:=by
 obtain ⟨b,z⟩:=p
 cases b
 · exact fz_wC z
 · exact fz_wG z
instance:Wd wX 3:=⟨fun ⟨b,_⟩=>by cases b<;>rfl,by decide,fun ⟨b,_⟩=>by cases b<;>rfl,fun ⟨b,_⟩=>by cases b<;>rfl,fun _ ⟨b,_⟩=>by cases b<;>rfl,fun m j z=>(fz_flat (fz_wX z)).1 m j,fun m j z=>(fz_flat (fz_wX z)).2 m j⟩
theorem CvL.XG (p:Bool × Int):CvL (wX p) (wG p.2):=by
 obtain ⟨b,z⟩:=p
 cases b
 · exact .CG z
 · exact .refl _
def stP (g:Nat) (z:Int):Bool × Int:=if g=0 then (false,z) else (true,primZ g z)
theorem stP_snd (g z):(stP g z).2=primZ g z:=by unfold stP primZ; split<;>rfl
abbrev M3 (l:List Int) (g:Nat) (o:List (Bool × Int)):Nat→AObj:=upd (upd (upd (upd (fun _=>.unused) 0 (.live [.imm l.length (cl wC l)])) 2 (.live [.opq (.nat g),.pad])) 10 (.live (cl wX o))) 11 (.live [.sl 10 0 l.length 3])
theorem prim3_ic (hP:PrgOk P) {l:List Int} {i g:Nat} {z:Int} {o:List (Bool × Int)} {K:Nat→AV→(Nat→AObj)→Prop} (hi:i<l.length) (ho:o.length=l.length) (hz:l[i]=z) (hzb:wl z≤34359738368) (hg:blen g≤34359738368)
 (k:∀ nx m',KM [11,10,2,0] m' (M3 l g (o.set i (stP g z)))→K nx (.tup []) m') :
 icX (ICall P) 155 [.int .i64 (i:Int),.ref 0 0,.ref 11 0,.ref 2 0] (M3 l g o) (K:=⟨K⟩):=by
 have HE:=Wt4_all hP T1 hP.t1
 refine icX_any 0 (icX_vc (E:=⟨T1,Wt4⟩) (fn155 hP) HE hP.mix rfl rfl (Nat.le_of_ble_eq_true rfl) 20 ?_)
 have hio:i<o.length:=by omega
 have h3:i*3≤l.length*3:=by omega
 have h4:i*3+3≤o.length*3:=by omega
 have h5:i*3+3≤l.length*3:=by omega
 have h6:i*3+3=(i+1)*3:=by omega
 have hd:(cl wC l).drop (i*3) = .bool (decide (z<0)) :: .opq (.nat z.natAbs) :: .pad::cl wC (l.drop (i+1)):=by
  rw [cl_drop,List.drop_eq_getElem_cons hi,cl_cons,hz]; rfl
 have hlen:(cl wC (l.drop (i+1))).length=(l.length-(i+1))*3:=by rw [cl_len,List.length_drop]
 have hh:AV.head (cl wC (l.drop (i+1)))=true:=cl_head
 have o1:AV.head ((cl wX o).drop (i*3))=true:=by rw [cl_drop]; exact cl_head
 have o2:AV.head ((cl wX o).drop (i*3+3))=true:=by rw [h6,cl_drop]; exact cl_head
 have s1:(cl wX o).take (i*3)++[.bool (decide (z<0)),.opq (.nat z.natAbs),.pad]++(cl wX o).drop (i*3+3)=cl wX (o.set i (false,z)):=cl_set (f:=wX) (a:=(false,z)) hio
 have hzb':=Nat.le_trans hzb (show _≤68719476736 by decide)
 have hg':=Nat.le_trans hg (show _≤68719476736 by decide)
 unfold wl at hzb'
 have ho0:objOnly [11,10,2,0] (.live [.imm l.length (cl wC l)])=true:=by simp only [objOnly,onlyL,AV.only,cl_only,Bool.and_true]
 have hoX:∀ o:List (Bool × Int),objOnly [11,10,2,0] (.live (cl wX o))=true:=fun o=>by simp only [objOnly,cl_only]
 by_cases h0:g=0
 · have hs:stP g z=(false,z):=by unfold stP; rw [if_pos h0]
   rw [hs] at k
   subst h0
   have b0:blen 0≤68719476736:=by decide
   simp only [go_sem,hi,hio,cl_len,ho,h3,h4,h5,hd,hzb',hg',hlen,hh,upd_upd,o1,o2,s1,b0]
   exact k _ _ (KM.p (.upd rfl rfl (.upd rfl (hoX _) (.upd rfl rfl (.upd rfl ho0 .nil)))))
 · have hs:stP g z=(true,primZ g z):=by unfold stP; rw [if_neg h0]
   rw [hs] at k
   have h0':(g=0)=False:=eq_false h0
   have hq:=Nat.le_trans (blen_le_of (Nat.div_le_self z.natAbs g) hzb) (show _≤68719476736 by decide)
   have hpz:sg (decide (z<0)) (z.natAbs / g)=primZ g z:=by unfold primZ; rw [if_neg h0]
   have o3:(o.set i (false,z)).length=l.length:=by rw [List.length_set,ho]
   have o4:AV.head ((cl wX (o.set i (false,z))).drop (i*3))=true:=by rw [cl_drop]; exact cl_head
   have o5:AV.head ((cl wX (o.set i (false,z))).drop (i*3+3))=true:=by rw [h6,cl_drop]; exact cl_head
   have s2:(cl wX (o.set i (false,z))).take (i*3)++[.opq (.whole (primZ g z)),.pad,.pad]++(cl wX (o.set i (false,z))).drop (i*3+3)=cl wX (o.set i (true,primZ g z)):=by
    have:=cl_set (f:=wX) (l:=o.set i (false,z)) (a:=(true,primZ g z)) (i:=i) (by omega)
    rw [List.set_set] at this; exact this
   simp only [go_sem,hi,hio,cl_len,ho,h3,h4,h5,hd,hzb',hg',hlen,hh,upd_upd,o1,o2,s1,h0',hq,hpz,o3,o4,o5,s2]
   exact k _ _ (KM.p (.upd rfl rfl (.upd rfl (hoX _) (.upd rfl rfl (.upd rfl ho0 .nil)))))
theorem wPrim_spec (hP:PrgOk P) (l:List Int) (hl:l.length≤1099511627776) (hb:∀ z ∈ l,wl z≤34359738368):CSpec P 111 [.imm l.length (cl wG l)] (.imm l.length (cl wG (primL l))):=by
 have HE:=Wt4_all hP T1 hP.t1
 refine CSpec.cv ?_ (.imm (.cl .GC l) .nil)
 have hgo:groundL [.imm l.length (cl wC l)]=true:=by simp only [groundL,onlyL,AV.only,cl_only,Bool.and_true]
 refine CSpec_vc (E:=⟨T1,Wt4⟩) (fn111 hP) HE hP.mix rfl hgo rfl (Nat.le_of_ble_eq_true rfl) ?_
 have hg:=gcdL_blen l hb
 have ho1:∀ L,objOnly L (.live [.imm l.length (cl wC l)])=true:=fun L=>by simp only [objOnly,onlyL,AV.only,cl_only,Bool.and_true]
 have hoX:∀ L,∀ o:List (Bool × Int),objOnly L (.live (cl wX o))=true:=fun L o=>by simp only [objOnly,cl_only]
 simp only [go_sem]
 refine icX_any 8 (each_ic hP (M:=fun i=>upd (upd (fun _=>.unused) 0 (.live [.imm l.length (cl wC l)])) 2 (.live [.opq (.nat (gcdL (l.take i))),.pad])) (L:=[2,0]) hl (fun _=>rfl) (fun i=>((GenM.nil.upd rfl (ho1 _)).upd rfl rfl)) rfl rfl (fun i hi K' k'=>?_) fun nx=>?_)
 · refine prim2_ic hP hi rfl (hb _ (List.getElem_mem hi)) (gcdL_blen _ fun z hz=>hb z (List.mem_of_mem_take hz)) fun nx m' hm=>k' nx m' ?_
   have e:gcdL (l.take (i+1))=Nat.gcd (gcdL (l.take i)) l[i].natAbs:=by
    rw [List.take_add_one,List.getElem?_eq_getElem hi]; exact gcdL_snoc _ _
   simp only [e]; exact hm
 have hta:l.take l.length=l:=List.take_length
 have hz:(List.replicate l.length [AV.bool false,.opq (.nat 0),.pad]).flatten=cl wX (List.replicate l.length (false,0)):=cl_repl (f:=wX) l.length (false,0)
 have hck:(cl wX (List.replicate l.length (false,(0:Int)))).all AV.ck=true:=cl_ck
 simp only [go_sem,hta,hl,hz,hck,upd_upd]
 have key:∀ i,i≤l.length→((l.take i).map (stP (gcdL l))++List.replicate (l.length-i) (false,0)).length=l.length:=fun i hi=>by
  rw [List.length_append,List.length_map,List.length_take,List.length_replicate]; omega
 refine icX_any 100 (each_ic hP (M:=fun i=>M3 l (gcdL l) ((l.take i).map (stP (gcdL l))++List.replicate (l.length-i) (false,0))) (L:=[11,10,2,0]) hl (fun _=>rfl) (fun i=>((((GenM.nil.upd rfl (ho1 _)).upd rfl rfl).upd rfl (hoX _ _)).upd rfl rfl)) rfl rfl (fun i hi K' k'=>?_) fun nx=>?_)
 · refine prim3_ic hP hi (key i (by omega)) rfl (hb _ (List.getElem_mem hi)) hg fun nx m' hm=>k' nx m' ?_
   have e:((l.take i).map (stP (gcdL l))++List.replicate (l.length-i) (false,0)).set i (stP (gcdL l) l[i])=(l.take (i+1)).map (stP (gcdL l))++List.replicate (l.length-(i+1)) (false,0):=by
    have h1:((l.take i).map (stP (gcdL l))).length=i:=by rw [List.length_map,List.length_take]; omega
    rw [List.set_append_right _ _ (by omega),h1,Nat.sub_self,List.take_add_one,List.getElem?_eq_getElem hi,Option.toList_some,List.map_append,List.append_assoc,show l.length-i=(l.length-(i+1))+1 by omega,List.replicate_succ]
    rfl
   rw [← e]; exact hm
 simp only [hta,Nat.sub_self,List.replicate_zero,List.append_nil]
 have hlx:(cl wX (l.map (stP (gcdL l)))).length=l.length*3:=by rw [cl_len,List.length_map]
 have htk:(cl wX (l.map (stP (gcdL l)))).take (l.length*3)=cl wX (l.map (stP (gcdL l))):=cl_all (by rw [List.length_map])
 have hhd:AV.head (cl wX (l.map (stP (gcdL l))))=true:=cl_head
 have hdd:(cl wX (l.map (stP (gcdL l)))).drop (l.length*3)=[]:=List.drop_of_length_le (by omega)
 have hon:onlyL (fun _=>false) (cl wX (l.map (stP (gcdL l))))=true:=cl_only _
 simp only [go_sem,hlx,htk,hhd,hdd,cl_fc,cl_fv,hon,Nat.le_refl]
 have e:primL l=(l.map (stP (gcdL l))).map Prod.snd:=by
  unfold primL; rw [List.map_map]; exact List.map_congr_left fun z _=>(stP_snd _ _).symm
 rw [e]; exact CvL.conv (.imm (CvL.clm .XG _) .nil)
end Go.Proofs.YtmahhmdeocnlgaaGreatDoor.AM
/- Ranks by elimination. -/
namespace Go.Proofs.YtmahhmdeocnlgaaGreatDoor.AM
set_option linter.all false
set_option autoImplicit true
set_option relaxedAutoImplicit true
open Go Go.Proofs
set_option maxRecDepth 100000
theorem sc_v0 (k:Rat):vsc k v0=v0:=by unfold vsc v0; refine v3_ext ?_ ?_ ?_<;>(simp only []; grind)
theorem primZ_wl (g:Nat) (z:Int):wl (primZ g z)≤wl z:=by
 unfold primZ; split
 · exact Nat.le_refl _
 · rw [show wl (sg (decide (z<0)) (z.natAbs / g))=blen (z.natAbs / g) by unfold wl; rw [sg_abs]]
   exact blen_mono (Nat.div_le_self _ _)
theorem gcdF_dvd:∀ (l:List Int) (g:Nat),l.foldl (fun g z=>Nat.gcd g z.natAbs) g ∣ g∧∀ z ∈ l,l.foldl (fun g z=>Nat.gcd g z.natAbs) g ∣ z.natAbs
 | [],g=>⟨Nat.dvd_refl _,by simp⟩
 | y::l,g=>by
   obtain ⟨h1,h2⟩:=gcdF_dvd l (Nat.gcd g y.natAbs)
   simp only [List.foldl_cons]
   refine ⟨Nat.dvd_trans h1 (Nat.gcd_dvd_left _ _),fun z hz=>?_⟩
   rcases List.mem_cons.1 hz with rfl|hz
   · exact Nat.dvd_trans h1 (Nat.gcd_dvd_right _ _)
   · exact h2 z hz
theorem gcdL_dvd {l:List Int} {z:Int} (h:z ∈ l):gcdL l ∣ z.natAbs:=(gcdF_dvd l 0).2 z h
theorem dvd_gcdF {d:Nat}:∀ (l:List Int) (g:Nat),d ∣ g→(∀ z ∈ l,d ∣ z.natAbs)→d ∣ l.foldl (fun g z=>Nat.gcd g z.natAbs) g
 | [],_,h,_=>h
 | _::l,_,h,h'=>dvd_gcdF l _ (Nat.dvd_gcd h (h' _ (by simp))) fun z hz=>h' z (by simp [hz])
theorem dvd_gcdL {d:Nat} {l:List Int} (h:∀ z ∈ l,d ∣ z.natAbs):d ∣ gcdL l:=dvd_gcdF l 0 (Nat.dvd_zero _) h
theorem primZ_abs {g:Nat} (h:g ≠ 0) (z:Int):(primZ g z).natAbs=z.natAbs / g:=by unfold primZ; rw [if_neg h,sg_abs]
theorem primZ_mul {g:Nat} {z:Int} (h:g ≠ 0) (hd:g ∣ z.natAbs):primZ g z*(g:Int)=z:=by
 have hz:=sg_of z
 unfold primZ
 rw [if_neg h]
 have e:=Nat.div_mul_cancel hd
 by_cases h1:z<0
 · rw [decide_eq_true h1,sg_t] at *
   rw [Int.neg_mul,← Int.natCast_mul,e]; exact hz
 · rw [decide_eq_false h1,sg_f] at *
   rw [← Int.natCast_mul,e]; exact hz
theorem gcd_prim {l:List Int} (h:gcdL l ≠ 0):gcdL (primL l)=1:=by
 have key:gcdL (primL l)*gcdL l ∣ gcdL l:=dvd_gcdL fun z hz=>by
  have h1:=gcdL_dvd hz
  have h2:primZ (gcdL l) z ∈ primL l:=List.mem_map_of_mem hz
  have h3:=gcdL_dvd h2
  rw [primZ_abs h] at h3
  obtain ⟨c,hc⟩:=h3
  have e:=Nat.div_mul_cancel h1
  exact ⟨c,by rw [← e,hc,Nat.mul_assoc,Nat.mul_comm c,← Nat.mul_assoc]⟩
 obtain ⟨c,hc⟩:=key
 have hp:0<gcdL l:=by omega
 have h1:gcdL l*(gcdL (primL l)*c)=gcdL l*1:=by
  rw [Nat.mul_one]; conv=>rhs; rw [hc]
  rw [Nat.mul_comm (gcdL (primL l)) (gcdL l),Nat.mul_assoc]
 have h2:=Nat.eq_of_mul_eq_mul_left hp h1
 exact Nat.dvd_one.1 ⟨c,h2.symm⟩
theorem gcdL_zero {l:List Int} (h:gcdL l=0) {z:Int} (hz:z ∈ l):z=0:=by
 have:=gcdL_dvd hz
 rw [h] at this
 have:=Nat.zero_dvd.1 this
 omega
def lcmD (m d:Nat):Nat:=m*(d / Nat.gcd m d)
theorem lcmD_blen {m d x y:Nat} (h:blen m≤x) (h':blen d≤y):blen (lcmD m d)≤x+y:=blen_mul_le h (blen_le_of (Nat.div_le_self _ _) h')
theorem lcmD_l (m d):m ∣ lcmD m d:=⟨_,rfl⟩
theorem lcmD_r (m d:Nat):d ∣ lcmD m d:=by
 unfold lcmD
 obtain ⟨c,hc⟩:=Nat.gcd_dvd_left m d
 have e:=Nat.div_mul_cancel (Nat.gcd_dvd_right m d)
 refine ⟨c,?_⟩
 generalize Nat.gcd m d=g at *
 calc m*(d / g)=(d / g*g)*c:=by rw [hc]; rw [Nat.mul_comm (g*c),Nat.mul_assoc]
  _=d*c:=by rw [e]
theorem lcmD_pos {m d:Nat} (hm:0<m) (hd:0<d):0<lcmD m d:=Nat.mul_pos hm (Nat.div_pos (Nat.le_of_dvd hd (Nat.gcd_dvd_right m d)) (Nat.gcd_pos_of_pos_right m hd))
def mV (a:V3):Nat:=lcmD (lcmD (lcmD 1 a.1.den) a.2.1.den) a.2.2.den
theorem mV_pos (a:V3):0<mV a:=lcmD_pos (lcmD_pos (lcmD_pos (by decide) a.1.den_pos) a.2.1.den_pos) a.2.2.den_pos
theorem mV_1 (a:V3):a.1.den ∣ mV a:=Nat.dvd_trans (lcmD_r _ _) (Nat.dvd_trans (lcmD_l _ _) (lcmD_l _ _))
theorem mV_2 (a:V3):a.2.1.den ∣ mV a:=Nat.dvd_trans (lcmD_r _ _) (lcmD_l _ _)
theorem mV_3 (a:V3):a.2.2.den ∣ mV a:=lcmD_r _ _
def nV (a:V3) (x:Rat):Int:=x.num*((mV a / x.den:Nat):Int)
def gV (a:V3):Nat:=gcdL [nV a a.1,nV a a.2.1,nV a a.2.2]
def dV (a:V3) (x:Rat):Int:=primZ (gV a) (nV a x)
noncomputable def dirA (a:V3):V3:=((dV a a.1:Int),(dV a a.2.1:Int),(dV a a.2.2:Int))
theorem num_den (x:Rat):(x.num:Rat)=x*(x.den:Rat):=by
 rw [mul_mk,← mk_int]
 show mkRat x.num 1=mkRat (x.num*(x.den:Int)) (x.den*1)
 have:=Rat.mkRat_mul_right (n:=x.num) (d:=1) (a:=x.den) x.den_nz
 rw [Nat.mul_one,← this,Nat.one_mul]
theorem nV_eq {a:V3} {x:Rat} (h:x.den ∣ mV a):((nV a x:Int):Rat)=x*(mV a:Rat):=by
 unfold nV
 obtain ⟨c,hc⟩:=h
 have hd:mV a / x.den=c:=by rw [hc]; exact Nat.mul_div_cancel_left c x.den_pos
 rw [hd,hc,Rat.intCast_mul,num_den x,Rat.natCast_mul,Rat.mul_assoc]
 rfl
theorem nat_nz {n:Nat} (h:n ≠ 0):(n:Rat) ≠ 0:=fun e=>h (by exact_mod_cast e)
theorem gV_zero (a:V3):gV a=0 ↔ a=v0:=by
 have hm:=nat_nz (Nat.pos_iff_ne_zero.1 (mV_pos a))
 constructor
 · intro h
   have k:∀ {x:Rat},x.den ∣ mV a→nV a x=0→x=0:=fun hd e=>by
    have:=nV_eq hd
    rw [e] at this
    rcases Rat.mul_eq_zero.1 this.symm with h|h
    · exact h
    · exact absurd h hm
   refine (v0_iff a).2 ⟨k (mV_1 a) (gcdL_zero h (by simp)),k (mV_2 a) (gcdL_zero h (by simp)),k (mV_3 a) (gcdL_zero h (by simp))⟩
 · rintro rfl
   decide +kernel
theorem dV_mul {a:V3} (h0:a ≠ v0) {x:Rat} (hd:x.den ∣ mV a) (hx:nV a x ∈ [nV a a.1,nV a a.2.1,nV a a.2.2]):((dV a x:Int):Rat)=((mV a:Rat) / (gV a:Rat))*x:=by
 have hg:gV a ≠ 0:=fun e=>h0 ((gV_zero a).1 e)
 have e:primZ (gV a) (nV a x)*(gV a:Int)=nV a x:=primZ_mul hg (gcdL_dvd hx)
 have e2:((dV a x:Int):Rat)*(gV a:Rat)=x*(mV a:Rat):=by
  rw [← nV_eq hd]
  have:((primZ (gV a) (nV a x)*(gV a:Int):Int):Rat)=((nV a x:Int):Rat):=by rw [e]
  rw [Rat.intCast_mul] at this
  exact this
 have hg':=nat_nz hg
 generalize (gV a:Rat)=g at *
 generalize (mV a:Rat)=m at *
 generalize ((dV a x:Int):Rat)=d at *
 rw [Rat.div_def]
 have h1:=Rat.mul_inv_cancel g hg'
 generalize g⁻¹=i at *
 calc d=d*g*i:=by rw [Rat.mul_assoc,h1,Rat.mul_one]
  _=m*i*x:=by rw [e2]; grind
theorem nat_pos' {n:Nat} (h:n ≠ 0):(0:Rat)<(n:Rat):=by
 have:0<n:=Nat.pos_of_ne_zero h
 exact_mod_cast this
theorem dirA_sc {a:V3} (h:a ≠ v0):∃ k:Rat,0<k∧dirA a=vsc k a:=by
 have hg:gV a ≠ 0:=fun e=>h ((gV_zero a).1 e)
 refine ⟨(mV a:Rat) / (gV a:Rat),?_,?_⟩
 · rw [Rat.div_def]
   exact Rat.mul_pos (nat_pos' (Nat.pos_iff_ne_zero.1 (mV_pos a))) (Rat.inv_pos.2 (nat_pos' hg))
 · exact v3_ext (dV_mul h (mV_1 a) (by simp)) (dV_mul h (mV_2 a) (by simp)) (dV_mul h (mV_3 a) (by simp))
theorem dirA_zero:dirA v0=v0:=by
 have e:∀ x:Rat,x=0→dV v0 x=0:=fun x hx=>by subst hx; decide +kernel
 exact v3_ext (by show ((dV v0 0:Int):Rat)=0; rw [e 0 rfl]; rfl) (by show ((dV v0 0:Int):Rat)=0; rw [e 0 rfl]; rfl) (by show ((dV v0 0:Int):Rat)=0; rw [e 0 rfl]; rfl)
theorem dirA_gcd {a:V3} (h:a ≠ v0):gcdL [dV a a.1,dV a a.2.1,dV a a.2.2]=1:=gcd_prim (l:=[nV a a.1,nV a a.2.1,nV a a.2.2]) fun e=>h ((gV_zero a).1 e)
theorem prim_one {x y z x' y' z':Int} {k:Rat} (hk:0<k) (h:gcdL [x,y,z]=1) (h':gcdL [x',y',z']=1) (hx:(x:Rat)=k*x') (hy:(y:Rat)=k*y') (hz:(z:Rat)=k*z'):k=1:=by
 have hd:∀ {x x':Int},(x:Rat)=k*x'→x*k.den=k.num*x':=fun {x x'} h=>by
  have e:=num_den k
  have:((x*k.den:Int):Rat)=((k.num*x':Int):Rat):=by
   rw [Rat.intCast_mul,Rat.intCast_mul,h,e]
   show k*x'*(k.den:Rat)=k*(k.den:Rat)*x'
   grind
  exact_mod_cast this
 have hn:∀ {x x':Int},(x:Rat)=k*x'→x.natAbs*k.den=k.num.natAbs*x'.natAbs:=fun h=>by
  have:=congrArg Int.natAbs (hd h)
  rw [Int.natAbs_mul,Int.natAbs_mul] at this
  exact this
 have hp:∀ {x x':Int},(x:Rat)=k*x'→k.num.natAbs ∣ x.natAbs:=fun h=>Nat.Coprime.dvd_of_dvd_mul_right k.reduced ⟨_,hn h⟩
 have hq:∀ {x x':Int},(x:Rat)=k*x'→k.den ∣ x'.natAbs:=fun h=>Nat.Coprime.dvd_of_dvd_mul_left k.reduced.symm ⟨_,(hn h).symm.trans (Nat.mul_comm _ _)⟩
 have p1:k.num.natAbs=1:=Nat.dvd_one.1 (h ▸ dvd_gcdL fun w hw=>by
  simp only [List.mem_cons,List.not_mem_nil,or_false] at hw
  rcases hw with rfl|rfl|rfl
  · exact hp hx
  · exact hp hy
  · exact hp hz)
 have q1:k.den=1:=Nat.dvd_one.1 (h' ▸ dvd_gcdL fun w hw=>by
  simp only [List.mem_cons,List.not_mem_nil,or_false] at hw
  rcases hw with rfl|rfl|rfl
  · exact hq hx
  · exact hq hy
  · exact hq hz)
 have hk0:0<k.num:=by
  have:=(Rat.lt_iff 0 k).1 hk
  simpa using this
 have e:=num_den k
 rw [q1] at e
 have:k.num=1:=by omega
 rw [this] at e
 grind
theorem vsc_one (a:V3):vsc 1 a=a:=by unfold vsc; refine v3_ext ?_ ?_ ?_<;>(simp only []; grind)
theorem vsc_z (a:V3):vsc 0 a=v0:=by unfold vsc v0; refine v3_ext ?_ ?_ ?_<;>(simp only []; grind)
theorem vsc_nz {k:Rat} {a:V3} (hk:k ≠ 0) (ha:a ≠ v0):vsc k a ≠ v0:=fun e=>ha (by
 have:=(v0_iff _).1 e
 exact (v0_iff a).2 ⟨zero_of_mul hk this.1,zero_of_mul hk this.2.1,zero_of_mul hk this.2.2⟩)
theorem dir_uniq {a b:V3} (ha:a ≠ v0) (hb:b ≠ v0) {k:Rat} (hk:0<k) (h:dirA a=vsc k (dirA b)):dirA a=dirA b:=by
 have:=prim_one hk (dirA_gcd ha) (dirA_gcd hb) (congrArg (·.1) h) (congrArg (·.2.1) h) (congrArg (·.2.2) h)
 rw [h,this,vsc_one]
theorem dir_pos {k:Rat} (hk:0<k) (a:V3):dirA (vsc k a)=dirA a:=by
 by_cases h:a=v0
 · subst h; rw [sc_v0]
 · have hn:vsc k a ≠ v0:=vsc_nz (by grind) h
   obtain ⟨i,hi,ei⟩:=dirA_sc hn
   obtain ⟨j,hj,ej⟩:=dirA_sc h
   refine dir_uniq hn h (k:=i*k*j⁻¹) (Rat.mul_pos (Rat.mul_pos hi hk) (Rat.inv_pos.2 hj)) ?_
   rw [ei,ej,sc_sc,sc_sc]
   have h1:=Rat.mul_inv_cancel j (by grind)
   congr 1
   generalize j⁻¹=l at *
   grind
theorem dir_v0 (a:V3):dirA a=v0 ↔ a=v0:=by
 refine ⟨fun e=>Classical.byContradiction fun h=>?_,fun e=>by rw [e,dirA_zero]⟩
 obtain ⟨j,hj,ej⟩:=dirA_sc h
 exact vsc_nz (by grind) h (ej ▸ e)
theorem gcd3_neg (x y z:Int):gcdL [-x,-y,-z]=gcdL [x,y,z]:=by simp [gcdL,Int.natAbs_neg]
theorem dir_neg (a:V3):dirA (vsc (-1) a)=vsc (-1) (dirA a):=by
 by_cases h:a=v0
 · subst h; rw [sc_v0,dirA_zero,sc_v0]
 · have hn:vsc (-1) a ≠ v0:=vsc_nz (by decide) h
   obtain ⟨i,hi,ei⟩:=dirA_sc hn
   obtain ⟨j,hj,ej⟩:=dirA_sc h
   have h1:=Rat.mul_inv_cancel j (by grind)
   have e:dirA (vsc (-1) a)=vsc (i*j⁻¹) (vsc (-1) (dirA a)):=by
    rw [ei,ej,sc_sc,sc_sc,sc_sc]
    congr 1
    generalize j⁻¹=l at *
    grind
   have hk:0<i*j⁻¹:=Rat.mul_pos hi (Rat.inv_pos.2 hj)
   have hc:∀ n:Int,((-n:Int):Rat)=(-1)*(n:Rat):=fun n=>by rw [Rat.intCast_neg]; grind
   have:=prim_one (x':=-dV a a.1) (y':=-dV a a.2.1) (z':=-dV a a.2.2) hk (dirA_gcd hn) (by rw [gcd3_neg]; exact dirA_gcd h) (by rw [hc]; exact congrArg (·.1) e) (by rw [hc]; exact congrArg (·.2.1) e) (by rw [hc]; exact congrArg (·.2.2) e)
   rw [e,this,vsc_one]
end Go.Proofs.YtmahhmdeocnlgaaGreatDoor.AM
/- Directions. -/
namespace Go.Proofs.YtmahhmdeocnlgaaGreatDoor.AM
set_option linter.all false
set_option autoImplicit true
set_option relaxedAutoImplicit true
open Go Go.Proofs
set_option maxRecDepth 100000
set_option maxHeartbeats 8000000
set_option linter.unusedSimpArgs false
variable {P:Program}
def wPrim3S:List AV→Option (Prop × AV)
 | [.imm 3 [.opq (.whole x),.pad,.pad,.opq (.whole y),.pad,.pad,.opq (.whole z),.pad,.pad]]=>some (wl x≤34359738368∧wl y≤34359738368∧wl z≤34359738368,.imm 3 [.opq (.whole (primZ (gcdL [x,y,z]) x)),.pad,.pad,.opq (.whole (primZ (gcdL [x,y,z]) y)),.pad,.pad,.opq (.whole (primZ (gcdL [x,y,z]) z)),.pad,.pad])
 | _=>none
theorem wPrim3S_ok (hP:PrgOk P) (args p r) (h:wPrim3S args=some (p,r)) (hp:p):CSpec P 111 args r:=by
 unfold wPrim3S at h
 split at h
 · rename_i x y z
   simp only [Option.some.injEq,Prod.mk.injEq] at h
   obtain ⟨rfl,rfl⟩:=h
   exact wPrim_spec hP [x,y,z] (show 3≤_ by decide) (fun w hw=>by
    rcases List.mem_cons.1 hw with rfl|hw
    · exact hp.1
    · rcases List.mem_cons.1 hw with rfl|hw
      · exact hp.2.1
      · rw [List.mem_singleton.1 hw]; exact hp.2.2)
 · simp at h
def dirC:List AV→Option (Prop × AV)
 | [.int .i64 i,.fref [.imm 3 [.opq (.whole x),.pad,.pad,.opq (.whole y),.pad,.pad,.opq (.whole z),.pad,.pad]]]=>if i=0 then some (True,(.agg [.opq (.frac ((x:Rat))),.pad,.pad,.pad,.pad])) else if i=1 then some (True,(.agg [.opq (.frac ((y:Rat))),.pad,.pad,.pad,.pad])) else if i=2 then some (True,(.agg [.opq (.frac ((z:Rat))),.pad,.pad,.pad,.pad])) else none
 | _=>none
theorem dirC_0 (x y z):dirC [.int .i64 0,.fref [.imm 3 [.opq (.whole x),.pad,.pad,.opq (.whole y),.pad,.pad,.opq (.whole z),.pad,.pad]]]=some (True,(.agg [.opq (.frac ((x:Rat))),.pad,.pad,.pad,.pad])):=rfl
theorem dirC_1 (x y z):dirC [.int .i64 1,.fref [.imm 3 [.opq (.whole x),.pad,.pad,.opq (.whole y),.pad,.pad,.opq (.whole z),.pad,.pad]]]=some (True,(.agg [.opq (.frac ((y:Rat))),.pad,.pad,.pad,.pad])):=rfl
theorem dirC_2 (x y z):dirC [.int .i64 2,.fref [.imm 3 [.opq (.whole x),.pad,.pad,.opq (.whole y),.pad,.pad,.opq (.whole z),.pad,.pad]]]=some (True,(.agg [.opq (.frac ((z:Rat))),.pad,.pad,.pad,.pad])):=rfl
theorem dirC_ok (hP:PrgOk P) (args p r) (h:dirC args=some (p,r)) (hp:p):CSpec P 117 args r:=by
 have HE:=Xt1_all hP TF hP.tF
 have n1:(1:Int).toNat=1:=rfl
 have n2:(2:Int).toNat=2:=rfl
 unfold dirC at h
 split at h
 · rename_i i x y z
   split at h
   · rename_i e; subst e
     simp only [Option.some.injEq,Prod.mk.injEq] at h
     obtain ⟨_,rfl⟩:=h
     refine CSpec_go (E:=⟨TF,Xt1⟩) (fn117 hP) HE hP.mix ?_
     simp only [go_sem,n1,n2]
     exact fin_z
   · split at h
     · rename_i e; subst e
       simp only [Option.some.injEq,Prod.mk.injEq] at h
       obtain ⟨_,rfl⟩:=h
       refine CSpec_go (E:=⟨TF,Xt1⟩) (fn117 hP) HE hP.mix ?_
       simp only [go_sem,n1,n2]
       exact fin_z
     · split at h
       · rename_i e; subst e
         simp only [Option.some.injEq,Prod.mk.injEq] at h
         obtain ⟨_,rfl⟩:=h
         refine CSpec_go (E:=⟨TF,Xt1⟩) (fn117 hP) HE hP.mix ?_
         simp only [go_sem,n1,n2]
         exact fin_z
       · simp at h
 · simp at h
attribute [go_sem] wPrim3S dirC_0 dirC_1 dirC_2
noncomputable def Yt0:Nat→List AV→Option (Prop × AV):=addS (addS Xt1 111 wPrim3S) 117 dirC
theorem Yt0_all (hP:PrgOk P) (T) (hT:TyOk P T):EnvOk P ⟨T,Yt0⟩:=(((Xt1_all hP T hT).add (wPrim3S_ok hP)).add (dirC_ok hP))
theorem Yt0_at (f a):Yt0 f a=(addS (addS Xt1 111 wPrim3S) 117 dirC) f a:=rfl
attribute [go_sem] Yt0_at
theorem rr_app (s:St) (x y ts):readsR s (.call { callee:=.builtin .append,args:=#[x,y],argTypes:=ts })=ids (aev s x)++ids (aev s y):=by simp [readsR,reads,looks,Op.operands,Call.operands]
attribute [go_sem] rr_app
theorem gcd_ne {m d:Nat} (h:0<d):(Nat.gcd m d=0)=False:=eq_false (by have:=Nat.gcd_pos_of_pos_right m h; omega)
theorem vDir_spec (hP:PrgOk P) (a:V3) (ha:fV a 268435456):CSpec P 55 [(.agg [.opq (.frac (a.1)),.pad,.pad,.pad,.pad,.opq (.frac (a.2.1)),.pad,.pad,.pad,.pad,.opq (.frac (a.2.2)),.pad,.pad,.pad,.pad])] (.agg [.opq (.frac (((dV a a.1:Int):Rat))),.pad,.pad,.pad,.pad,.opq (.frac (((dV a a.2.1:Int):Rat))),.pad,.pad,.pad,.pad,.opq (.frac (((dV a a.2.2:Int):Rat))),.pad,.pad,.pad,.pad]):=by
 have HE:=Yt0_all hP TF hP.tF
 obtain ⟨x,y,z⟩:=a
 obtain ⟨h1,h2,h3⟩:=ha
 simp only [] at h1 h2 h3 ⊢
 have w1:IntKind.i64.wrap (0+1)=1:=rfl
 have w2:IntKind.i64.wrap (1+1)=2:=rfl
 have w3:IntKind.i64.wrap (2+1)=3:=rfl
 have n1:(1:Int).toNat=1:=rfl
 have n2:(2:Int).toNat=2:=rfl
 have le1:((0:Int)≤1)=True:=eq_true (by decide)
 have le2:((0:Int)≤2)=True:=eq_true (by decide)
 have b1:blen 1≤68719476736:=by decide
 obtain ⟨m1,hm1⟩:∃ m,1*(x.den / Nat.gcd 1 x.den)=m:=⟨_,rfl⟩
 obtain ⟨m2,hm2⟩:∃ m,m1*(y.den / Nat.gcd m1 y.den)=m:=⟨_,rfl⟩
 obtain ⟨m3,hm3⟩:∃ m,m2*(z.den / Nat.gcd m2 z.den)=m:=⟨_,rfl⟩
 have hmV:mV (x,y,z)=m3:=by rw [← hm3,← hm2,← hm1]; rfl
 have d1:=fl_den h1
 have d2:=fl_den h2
 have d3:=fl_den h3
 have c1:blen m1≤1+268435456:=by rw [← hm1]; exact lcmD_blen (show blen 1≤1 by decide) d1
 have c2:blen m2≤1+268435456+268435456:=by rw [← hm2]; exact lcmD_blen c1 d2
 have c3:blen m3≤1+268435456+268435456+268435456:=by rw [← hm3]; exact lcmD_blen c2 d3
 have lt:(1+268435456+268435456+268435456:Nat)≤34359738368:=by decide
 have e1:blen x.den≤34359738368:=by omega
 have e2:blen y.den≤34359738368:=by omega
 have e3:blen z.den≤34359738368:=by omega
 have f1:blen x.den≤68719476736:=by omega
 have f2:blen y.den≤68719476736:=by omega
 have f3:blen z.den≤68719476736:=by omega
 have k1:blen m1≤68719476736:=by omega
 have k2:blen m2≤68719476736:=by omega
 have k3:blen m3≤68719476736:=by omega
 have g1:blen (Nat.gcd 1 x.den)≤68719476736:=gcd_blen b1 f1
 have g2:blen (Nat.gcd m1 y.den)≤68719476736:=gcd_blen k1 f2
 have g3:blen (Nat.gcd m2 z.den)≤68719476736:=gcd_blen k2 f3
 have z1:=gcd_ne (m:=1) x.den_pos
 have z2:=gcd_ne (m:=m1) y.den_pos
 have z3:=gcd_ne (m:=m2) z.den_pos
 have q1:blen (x.den / Nat.gcd 1 x.den)≤68719476736:=blen_le_of (Nat.div_le_self _ _) f1
 have q2:blen (y.den / Nat.gcd m1 y.den)≤68719476736:=blen_le_of (Nat.div_le_self _ _) f2
 have q3:blen (z.den / Nat.gcd m2 z.den)≤68719476736:=blen_le_of (Nat.div_le_self _ _) f3
 have o1:(x.den=0)=False:=eq_false x.den_nz
 have o2:(y.den=0)=False:=eq_false y.den_nz
 have o3:(z.den=0)=False:=eq_false z.den_nz
 have r1:blen (m3 / x.den)≤34359738368:=blen_le_of (Nat.div_le_self _ _) (by omega)
 have r2:blen (m3 / y.den)≤34359738368:=blen_le_of (Nat.div_le_self _ _) (by omega)
 have r3:blen (m3 / z.den)≤34359738368:=blen_le_of (Nat.div_le_self _ _) (by omega)
 have s1:wl x.num≤34359738368:=Nat.le_trans (fl_num h1) (by decide)
 have s2:wl y.num≤34359738368:=Nat.le_trans (fl_num h2) (by decide)
 have s3:wl z.num≤34359738368:=Nat.le_trans (fl_num h3) (by decide)
 have t1:wl ((m3 / x.den:Nat):Int)≤34359738368:=r1
 have t2:wl ((m3 / y.den:Nat):Int)≤34359738368:=r2
 have t3:wl ((m3 / z.den:Nat):Int)≤34359738368:=r3
 have u0:∀ d:Nat,wl ((m3 / d:Nat):Int)≤1+268435456+268435456+268435456:=fun d=>blen_le_of (Nat.div_le_self _ _) c3
 have u1:wl (x.num*((m3 / x.den:Nat):Int))≤34359738368:=Nat.le_trans (wl_mul (fl_num h1) (u0 _)) (by decide)
 have u2:wl (y.num*((m3 / y.den:Nat):Int))≤34359738368:=Nat.le_trans (wl_mul (fl_num h2) (u0 _)) (by decide)
 have u3:wl (z.num*((m3 / z.den:Nat):Int))≤34359738368:=Nat.le_trans (wl_mul (fl_num h3) (u0 _)) (by decide)
 unfold dV gV nV
 rw [hmV]
 simp only []
 refine CSpec_go (E:=⟨TF,Yt0⟩) (fn55 hP) HE hP.mix ?_
 simp only [go_sem,le1]
 refine trX_once HE hP.mix 62 150 (by kernel_rfl) ?_
 simp only [go_sem,w1,n1,le1,b1,e1,f1,g1,z1,q1,hm1]
 refine goX_once HE hP.mix 62 200 (by kernel_rfl) ?_
 simp only [go_sem,w2,n1,le1,e2,f2,k1,g2,z2,q2,hm2]
 refine goX_once HE hP.mix 62 250 (by kernel_rfl) ?_
 simp only [go_sem,w3,n2,le2,e3,f3,k2,g3,z3,q3,hm3]
 refine goX_once HE hP.mix 62 300 (by kernel_rfl) ?_
 simp only [go_sem]
 refine trX_once HE hP.mix 62 400 (by kernel_rfl) ?_
 have v1:blen (m3 / x.den)≤68719476736:=Nat.le_trans r1 (by decide)
 have v2:blen (m3 / y.den)≤68719476736:=Nat.le_trans r2 (by decide)
 have v3:blen (m3 / z.den)≤68719476736:=Nat.le_trans r3 (by decide)
 simp only [go_sem,v1,w1,e1,f1,k3,o1,r1,s1,t1,sg_f,ne_eq,not_false_eq_true,imp_self]
 refine goX_once HE hP.mix 62 500 (by kernel_rfl) ?_
 simp only [go_sem,v2,w2,n1,le1,e2,f2,k3,o2,r2,s2,t2,sg_f,ne_eq,not_false_eq_true,imp_self]
 refine ⟨by simp,?_⟩
 refine goX_once HE hP.mix 62 600 (by kernel_rfl) ?_
 simp only [go_sem,v3,w3,n2,le2,e3,f3,k3,o3,r3,s3,t3,sg_f,ne_eq,not_false_eq_true,imp_self]
 refine ⟨by simp,?_⟩
 refine goX_once HE hP.mix 62 700 (by kernel_rfl) ?_
 simp only [go_sem,u1,u2,u3]
 refine icX_vc (E:=⟨TF,Yt0⟩) (fn81 hP) HE hP.mix rfl rfl (Nat.le_of_ble_eq_true rfl) 100 ?_
 have w1:IntKind.i64.wrap (0+1)=1:=rfl
 have w2:IntKind.i64.wrap (1+1)=2:=rfl
 have w3:IntKind.i64.wrap (2+1)=3:=rfl
 have n1:(1:Int).toNat=1:=rfl
 have n2:(2:Int).toNat=2:=rfl
 simp only [go_sem]
 refine trX_once HE hP.mix 15 150 (by kernel_rfl) ?_
 simp only [go_sem,w1,le1]
 refine goX_once HE hP.mix 15 200 (by kernel_rfl) ?_
 simp only [go_sem,w2,n1,le1]
 try refine ⟨by decide,?_⟩
 refine goX_once HE hP.mix 15 250 (by kernel_rfl) ?_
 simp only [go_sem,w3,n2,le1]
 try refine ⟨by decide,?_⟩
 refine goX_once HE hP.mix 15 300 (by kernel_rfl) ?_
 simp only [go_sem]
 unfold finX
 simp only [go_sem]
 exact .refl _
noncomputable def vDirS:List AV→Option (Prop × AV):=onV1 fun a=>(fV a 268435456,(.agg [.opq (.frac ((dirA a).1)),.pad,.pad,.pad,.pad,.opq (.frac ((dirA a).2.1)),.pad,.pad,.pad,.pad,.opq (.frac ((dirA a).2.2)),.pad,.pad,.pad,.pad]))
theorem vDirS_ok (hP:PrgOk P) (args p r):vDirS args=some (p,r)→p→CSpec P 55 args r:=onV1_ok (fun a h=>by exact vDir_spec hP a h) args p r
theorem CvL.rgO (q:Rat):CvL (rG q) [.opq (.rfrac q),.pad,.pad]:=fun W φ w l hl=>by
 have h1:CvL [.bool (decide (q.num<0)),(.opq (.rnat (q.num.natAbs))),(.opq (.rnat (q.den)))] [.opq (.rfrac q),.pad,.pad]:=by simpa [Pay.open,Pay.width] using CvL.fold (.rfrac q) [] rfl
 have h2:CvL (rG q) [.bool (decide (q.num<0)),(.opq (.rnat (q.num.natAbs))),(.opq (.rnat (q.den)))]:=CvL.cons rfl (CvL.rnatOut _ (CvL.rnatOut _ .nil))
 exact h1 _ _ _ _ (h2 _ _ _ _ hl)
theorem CvL.rgI (q:Rat):CvL [.opq (.rfrac q),.pad,.pad] (rG q):=fun W φ w l hl=>by
 have h1:CvL [.opq (.rfrac q),.pad,.pad] [.bool (decide (q.num<0)),(.opq (.rnat (q.num.natAbs))),(.opq (.rnat (q.den)))]:=by simpa [Pay.open,Pay.width] using CvL.unfold (.rfrac q) []
 have h2:CvL [.bool (decide (q.num<0)),(.opq (.rnat (q.num.natAbs))),(.opq (.rnat (q.den)))] (rG q):=CvL.cons rfl (CvL.rnatIn _ (CvL.rnatIn _ .nil))
 exact h2 _ _ _ _ (h1 _ _ _ _ hl)
theorem CvL.rg3O (x y z:Rat):CvL (rG x++rG y++rG z) [.opq (.rfrac (x)),.pad,.pad,.opq (.rfrac (y)),.pad,.pad,.opq (.rfrac (z)),.pad,.pad]:=CvL.app (CvL.app (.rgO x) (.rgO y) rfl) (.rgO z) rfl
theorem CvL.rg3I (x y z:Rat):CvL [.opq (.rfrac (x)),.pad,.pad,.opq (.rfrac (y)),.pad,.pad,.opq (.rfrac (z)),.pad,.pad] (rG x++rG y++rG z):=CvL.app (CvL.app (.rgI x) (.rgI y) rfl) (.rgI z) rfl
def rA (q:Rat):List AV:=[.bool (decide (q.num<0)),(.opq (.rnat (q.num.natAbs))),(.opq (.rnat (q.den)))]
theorem CvL.raO (q:Rat):CvL (rA q) [.opq (.rfrac q),.pad,.pad]:=by simpa [Pay.open,Pay.width,rA] using CvL.fold (.rfrac q) [] rfl
theorem CvL.ra3O (x y z:Rat):CvL (rA x++rA y++rA z) [.opq (.rfrac (x)),.pad,.pad,.opq (.rfrac (y)),.pad,.pad,.opq (.rfrac (z)),.pad,.pad]:=CvL.app (CvL.app (.raO x) (.raO y) rfl) (.raO z) rfl
theorem dirG {a:V3} (hn:a ≠ v0) {x:Rat} (hd:x.den ∣ mV a) (hx:nV a x ∈ [nV a a.1,nV a a.2.1,nV a a.2.2]):rA ((dV a x:Int):Rat)=[.bool (decide (x.num<0)),(.opq (.rnat (x.num.natAbs*(mV a / x.den) / gV a))),(.opq (.rnat (1)))]:=by
 have hg:gV a ≠ 0:=fun e=>hn ((gV_zero a).1 e)
 have hq:0<mV a / x.den:=Nat.div_pos (Nat.le_of_dvd (mV_pos a) hd) x.den_pos
 have hab:(nV a x).natAbs=x.num.natAbs*(mV a / x.den):=by unfold nV; rw [Int.natAbs_mul]; rfl
 have hneg:decide (nV a x<0)=decide (x.num<0):=by
  unfold nV
  have:(0:Int)<((mV a / x.den:Nat):Int):=by omega
  by_cases h:x.num<0
  · rw [decide_eq_true h,decide_eq_true (Int.mul_neg_of_neg_of_pos h this)]
  · rw [decide_eq_false h,decide_eq_false (by have:=Int.mul_nonneg (a:=x.num) (by omega) (Int.le_of_lt this); omega)]
 have e:dV a x=sg (decide (x.num<0)) (x.num.natAbs*(mV a / x.den) / gV a):=by
  unfold dV primZ; rw [if_neg hg,hneg,hab]
 have hl:decide (x.num<0)=true→0<x.num.natAbs*(mV a / x.den) / gV a:=fun h=>by
  have h2:gV a ∣ (nV a x).natAbs:=gcdL_dvd hx
  have h3:=of_decide_eq_true h
  rw [hab] at h2
  exact Nat.div_pos (Nat.le_of_dvd (Nat.mul_pos (by omega) hq) h2) (Nat.pos_of_ne_zero hg)
 unfold rA
 rw [e]
 show [AV.bool (decide (sg _ _<0)),.opq (.rnat (sg _ _).natAbs),.opq (.rnat 1)]=_
 rw [sg_lt hl,sg_abs]
theorem rawRF_cells {m x y p q} (h:rawRF (.agg [.bool m,x,y])=some (p,q)) (hp:p):CvL [.bool m,x,y] [.opq (.rfrac q),.pad,.pad]:=by
 rw [rawRF_raw] at h
 simp only [Option.bind_eq_some_iff,Option.map_eq_some_iff,Prod.exists,Prod.mk.injEq] at h
 obtain ⟨p1,n,h1,p2,d,h2,rfl,rfl⟩:=h
 obtain ⟨c1,c2,c3,c4,c5⟩:=hp
 rw [qlow_eq]
 have e:=rG_mk c3 c4 c5
 have h3:CvL [.bool m,x,y] (rG (mkRat (sg m n) d)):=by
  rw [e]
  exact CvL.cons rfl (rawR_cv h1 c1 (rawR_cv h2 c2 .nil))
 exact h3.trans (CvL.rgO _)
noncomputable def zeroG:List AV→Option (Prop × AV)
 | [.agg [.bool m,x,y,.bool m',x',y',.bool m2,x2,y2]]=>(rawRF (.agg [.bool m,x,y])).bind fun a=>(rawRF (.agg [.bool m',x',y'])).bind fun b=>(rawRF (.agg [.bool m2,x2,y2])).map fun c=>(a.1∧b.1∧c.1,.bool (decide (((a.2,b.2,c.2):V3)=v0)))
 | _=>none
theorem zeroG_eq (m x y m' x' y' m2 x2 y2):zeroG [.agg [.bool m,x,y,.bool m',x',y',.bool m2,x2,y2]]=(rawRF (.agg [.bool m,x,y])).bind fun a=>(rawRF (.agg [.bool m',x',y'])).bind fun b=>(rawRF (.agg [.bool m2,x2,y2])).map fun c=>(a.1∧b.1∧c.1,.bool (decide (((a.2,b.2,c.2):V3)=v0))):=rfl
theorem zeroG_ok (hP:PrgOk P) (args p r) (he:zeroG args=some (p,r)) (hp:p):CSpec P 59 args r:=by
 unfold zeroG at he
 split at he
 · rename_i m x y m' x' y' m2 x2 y2
   simp only [Option.bind_eq_some_iff,Option.map_eq_some_iff,Prod.exists,Prod.mk.injEq] at he
   obtain ⟨p1,a,h1,p2,b,h2,p3,c,h3,rfl,rfl⟩:=he
   refine (rvZero_spec hP (a,b,c)).cv (CvL.agg ?_ .nil)
   exact CvL.app (a:=[.bool m,x,y,.bool m',x',y']) (CvL.app (a:=[.bool m,x,y]) (rawRF_cells h1 hp.1) (rawRF_cells h2 hp.2.1) rfl) (rawRF_cells h3 hp.2.2) rfl
 · simp at he
attribute [go_sem] zeroG_eq
noncomputable def Yt1:Nat→List AV→Option (Prop × AV):=addS Xt0 59 zeroG
theorem Yt1_all (hP:PrgOk P) (T) (hT:TyOk P T):EnvOk P ⟨T,Yt1⟩:=((Xt0_all hP T hT).add (zeroG_ok hP))
theorem Yt1_at (f a):Yt1 f a=(addS Xt0 59 zeroG) f a:=rfl
attribute [go_sem] Yt1_at
theorem rvDir_spec (hP:PrgOk P) (a:V3) (ha:fV a 268435456):CSpec P 60 [(.agg [.opq (.rfrac (a.1)),.pad,.pad,.opq (.rfrac (a.2.1)),.pad,.pad,.opq (.rfrac (a.2.2)),.pad,.pad])] (.agg [.opq (.rfrac ((dirA a).1)),.pad,.pad,.opq (.rfrac ((dirA a).2.1)),.pad,.pad,.opq (.rfrac ((dirA a).2.2)),.pad,.pad]):=by
 have HE:=Yt1_all hP TF hP.tF
 refine CSpec.cv ?_ (CvL.agg (CvL.rg3I _ _ _) .nil)
 obtain ⟨x,y,z⟩:=a
 obtain ⟨h1,h2,h3⟩:=ha
 simp only [] at h1 h2 h3 ⊢
 by_cases h0:((x,y,z):V3)=v0
 · rw [h0,dirA_zero,← h0]
   refine CSpec.conv ?_ (CvL.conv (.agg (CvL.rg3O _ _ _) .nil))
   have hz:=decide_eq_true h0
   show CSpec P 60 [.agg [.bool (decide (x.num<0)),(.imm (digs 65536 (x.num.natAbs)).length (List.map (fun d:Nat=>AV.int .u32 (d:Int)) (digs 65536 (x.num.natAbs)))),(.imm (digs 65536 (x.den)).length (List.map (fun d:Nat=>AV.int .u32 (d:Int)) (digs 65536 (x.den)))),.bool (decide (y.num<0)),(.imm (digs 65536 (y.num.natAbs)).length (List.map (fun d:Nat=>AV.int .u32 (d:Int)) (digs 65536 (y.num.natAbs)))),(.imm (digs 65536 (y.den)).length (List.map (fun d:Nat=>AV.int .u32 (d:Int)) (digs 65536 (y.den)))),.bool (decide (z.num<0)),(.imm (digs 65536 (z.num.natAbs)).length (List.map (fun d:Nat=>AV.int .u32 (d:Int)) (digs 65536 (z.num.natAbs)))),(.imm (digs 65536 (z.den)).length (List.map (fun d:Nat=>AV.int .u32 (d:Int)) (digs 65536 (z.den))))]] (.agg [.bool (decide (x.num<0)),(.imm (digs 65536 (x.num.natAbs)).length (List.map (fun d:Nat=>AV.int .u32 (d:Int)) (digs 65536 (x.num.natAbs)))),(.imm (digs 65536 (x.den)).length (List.map (fun d:Nat=>AV.int .u32 (d:Int)) (digs 65536 (x.den)))),.bool (decide (y.num<0)),(.imm (digs 65536 (y.num.natAbs)).length (List.map (fun d:Nat=>AV.int .u32 (d:Int)) (digs 65536 (y.num.natAbs)))),(.imm (digs 65536 (y.den)).length (List.map (fun d:Nat=>AV.int .u32 (d:Int)) (digs 65536 (y.den)))),.bool (decide (z.num<0)),(.imm (digs 65536 (z.num.natAbs)).length (List.map (fun d:Nat=>AV.int .u32 (d:Int)) (digs 65536 (z.num.natAbs)))),(.imm (digs 65536 (z.den)).length (List.map (fun d:Nat=>AV.int .u32 (d:Int)) (digs 65536 (z.den))))])
   refine CSpec_go (E:=⟨TF,Yt1⟩) (fn60 hP) HE hP.mix ?_
   simp only [go_sem,rawRF_G,hz]
   exact .refl _
 refine CSpec.conv ?_ (CvL.conv (.agg (CvL.ra3O _ _ _) .nil))
 have hz:=decide_eq_false h0
 have hx:=dirG h0 (mV_1 (x,y,z)) (by simp)
 have hy:=dirG h0 (mV_2 (x,y,z)) (by simp)
 have hw:=dirG h0 (mV_3 (x,y,z)) (by simp)
 simp only [] at hx hy hw
 have hG:rA (dirA (x,y,z)).1++rA (dirA (x,y,z)).2.1++rA (dirA (x,y,z)).2.2=[.bool (decide (x.num<0)),(.opq (.rnat (x.num.natAbs*(mV (x,y,z) / x.den) / gV (x,y,z)))),(.opq (.rnat (1))),.bool (decide (y.num<0)),(.opq (.rnat (y.num.natAbs*(mV (x,y,z) / y.den) / gV (x,y,z)))),(.opq (.rnat (1))),.bool (decide (z.num<0)),(.opq (.rnat (z.num.natAbs*(mV (x,y,z) / z.den) / gV (x,y,z)))),(.opq (.rnat (1)))]:=by
  unfold dirA
  simp only []
  rw [hx,hy,hw]; rfl
 rw [hG]
 have hg0:0<gV (x,y,z):=Nat.pos_of_ne_zero fun e=>h0 ((gV_zero _).1 e)
 have hgV:gV (x,y,z)=Nat.gcd (Nat.gcd (Nat.gcd 0 (x.num.natAbs*(mV (x,y,z) / x.den))) (y.num.natAbs*(mV (x,y,z) / y.den))) (z.num.natAbs*(mV (x,y,z) / z.den)):=by
  unfold gV gcdL nV
  simp only [List.foldl_cons,List.foldl_nil,Int.natAbs_mul]; rfl
 have w1:IntKind.i64.wrap (0+1)=1:=rfl
 have w2:IntKind.i64.wrap (1+1)=2:=rfl
 have w3:IntKind.i64.wrap (2+1)=3:=rfl
 have n1:(1:Int).toNat=1:=rfl
 have n2:(2:Int).toNat=2:=rfl
 have le1:((0:Int)≤1)=True:=eq_true (by decide)
 have le2:((0:Int)≤2)=True:=eq_true (by decide)
 obtain ⟨m1,hm1⟩:∃ m,1*(x.den / Nat.gcd 1 x.den)=m:=⟨_,rfl⟩
 obtain ⟨m2,hm2⟩:∃ m,m1*(y.den / Nat.gcd m1 y.den)=m:=⟨_,rfl⟩
 obtain ⟨m3,hm3⟩:∃ m,m2*(z.den / Nat.gcd m2 z.den)=m:=⟨_,rfl⟩
 have hmV:mV (x,y,z)=m3:=by rw [← hm3,← hm2,← hm1]; rfl
 rw [hmV] at hgV ⊢
 have d1:=fl_den h1
 have d2:=fl_den h2
 have d3:=fl_den h3
 have c1:blen m1≤1+268435456:=by rw [← hm1]; exact lcmD_blen (show blen 1≤1 by decide) d1
 have c2:blen m2≤1+268435456+268435456:=by rw [← hm2]; exact lcmD_blen c1 d2
 have c3:blen m3≤1+268435456+268435456+268435456:=by rw [← hm3]; exact lcmD_blen c2 d3
 have b1:blen 1≤68719476736:=by decide
 have b1':blen 1≤34359738368:=by decide
 have b0:blen 0≤34359738368:=by decide
 have e1:blen x.den≤34359738368:=by omega
 have e2:blen y.den≤34359738368:=by omega
 have e3:blen z.den≤34359738368:=by omega
 have f1:blen x.den≤68719476736:=by omega
 have f2:blen y.den≤68719476736:=by omega
 have f3:blen z.den≤68719476736:=by omega
 have k1:blen m1≤68719476736:=by omega
 have k2:blen m2≤68719476736:=by omega
 have k3:blen m3≤68719476736:=by omega
 have l1:blen m1≤34359738368:=by omega
 have l2:blen m2≤34359738368:=by omega
 have g1:blen (Nat.gcd 1 x.den)≤34359738368:=gcd_blen b1' e1
 have g2:blen (Nat.gcd m1 y.den)≤34359738368:=gcd_blen l1 e2
 have g3:blen (Nat.gcd m2 z.den)≤34359738368:=gcd_blen l2 e3
 have z1:(0<Nat.gcd 1 x.den)=True:=eq_true (Nat.gcd_pos_of_pos_right _ x.den_pos)
 have z2:(0<Nat.gcd m1 y.den)=True:=eq_true (Nat.gcd_pos_of_pos_right _ y.den_pos)
 have z3:(0<Nat.gcd m2 z.den)=True:=eq_true (Nat.gcd_pos_of_pos_right _ z.den_pos)
 have q1:blen (x.den / Nat.gcd 1 x.den)≤68719476736:=blen_le_of (Nat.div_le_self _ _) f1
 have q2:blen (y.den / Nat.gcd m1 y.den)≤68719476736:=blen_le_of (Nat.div_le_self _ _) f2
 have q3:blen (z.den / Nat.gcd m2 z.den)≤68719476736:=blen_le_of (Nat.div_le_self _ _) f3
 have o1:(0<x.den)=True:=eq_true x.den_pos
 have o2:(0<y.den)=True:=eq_true y.den_pos
 have o3:(0<z.den)=True:=eq_true z.den_pos
 have r1:blen (m3 / x.den)≤68719476736:=blen_le_of (Nat.div_le_self _ _) k3
 have r2:blen (m3 / y.den)≤68719476736:=blen_le_of (Nat.div_le_self _ _) k3
 have r3:blen (m3 / z.den)≤68719476736:=blen_le_of (Nat.div_le_self _ _) k3
 have s1:blen x.num.natAbs≤68719476736:=Nat.le_trans (fl_num h1) (by decide)
 have s2:blen y.num.natAbs≤68719476736:=Nat.le_trans (fl_num h2) (by decide)
 have s3:blen z.num.natAbs≤68719476736:=Nat.le_trans (fl_num h3) (by decide)
 have u0:∀ d:Nat,blen (m3 / d)≤1+268435456+268435456+268435456:=fun d=>blen_le_of (Nat.div_le_self _ _) c3
 obtain ⟨N1,hN1⟩:∃ m,x.num.natAbs*(m3 / x.den)=m:=⟨_,rfl⟩
 obtain ⟨N2,hN2⟩:∃ m,y.num.natAbs*(m3 / y.den)=m:=⟨_,rfl⟩
 obtain ⟨N3,hN3⟩:∃ m,z.num.natAbs*(m3 / z.den)=m:=⟨_,rfl⟩
 have u1:blen N1≤34359738368:=by rw [← hN1]; exact Nat.le_trans (blen_mul_le (fl_num h1) (u0 _)) (by decide)
 have u2:blen N2≤34359738368:=by rw [← hN2]; exact Nat.le_trans (blen_mul_le (fl_num h2) (u0 _)) (by decide)
 have u3:blen N3≤34359738368:=by rw [← hN3]; exact Nat.le_trans (blen_mul_le (fl_num h3) (u0 _)) (by decide)
 have t1:=Nat.le_trans u1 (show _≤68719476736 by decide)
 have t2:=Nat.le_trans u2 (show _≤68719476736 by decide)
 have t3:=Nat.le_trans u3 (show _≤68719476736 by decide)
 rw [hN1,hN2,hN3] at hgV ⊢
 obtain ⟨G1,hG1⟩:∃ g,Nat.gcd 0 N1=g:=⟨_,rfl⟩
 obtain ⟨G2,hG2⟩:∃ g,Nat.gcd G1 N2=g:=⟨_,rfl⟩
 obtain ⟨G3,hG3⟩:∃ g,Nat.gcd G2 N3=g:=⟨_,rfl⟩
 have v1:blen G1≤34359738368:=by rw [← hG1]; exact gcd_blen b0 u1
 have v2:blen G2≤34359738368:=by rw [← hG2]; exact gcd_blen v1 u2
 have v3:blen G3≤34359738368:=by rw [← hG3]; exact gcd_blen v2 u3
 rw [hG1,hG2,hG3] at hgV
 rw [hgV] at hg0 ⊢
 show CSpec P 60 [.agg [.bool (decide (x.num<0)),(.imm (digs 65536 (x.num.natAbs)).length (List.map (fun d:Nat=>AV.int .u32 (d:Int)) (digs 65536 (x.num.natAbs)))),(.imm (digs 65536 (x.den)).length (List.map (fun d:Nat=>AV.int .u32 (d:Int)) (digs 65536 (x.den)))),.bool (decide (y.num<0)),(.imm (digs 65536 (y.num.natAbs)).length (List.map (fun d:Nat=>AV.int .u32 (d:Int)) (digs 65536 (y.num.natAbs)))),(.imm (digs 65536 (y.den)).length (List.map (fun d:Nat=>AV.int .u32 (d:Int)) (digs 65536 (y.den)))),.bool (decide (z.num<0)),(.imm (digs 65536 (z.num.natAbs)).length (List.map (fun d:Nat=>AV.int .u32 (d:Int)) (digs 65536 (z.num.natAbs)))),(.imm (digs 65536 (z.den)).length (List.map (fun d:Nat=>AV.int .u32 (d:Int)) (digs 65536 (z.den))))]] _
 refine CSpec_go (E:=⟨TF,Yt1⟩) (fn60 hP) HE hP.mix ?_
 simp only [go_sem,rawRF_G,hz,le1]
 refine trX_once HE hP.mix 91 150 (by kernel_rfl) ?_
 simp only [go_sem,w1,n1,le1,b1,b1',e1,f1,g1,z1,q1,hm1]
 refine goX_once HE hP.mix 91 200 (by kernel_rfl) ?_
 simp only [go_sem,w2,n1,le1,e2,f2,k1,l1,g2,z2,q2,hm2]
 refine goX_once HE hP.mix 91 250 (by kernel_rfl) ?_
 simp only [go_sem,w3,n2,le2,e3,f3,k2,l2,g3,z3,q3,hm3]
 refine goX_once HE hP.mix 91 300 (by kernel_rfl) ?_
 simp only [go_sem]
 refine trX_once HE hP.mix 91 400 (by kernel_rfl) ?_
 simp only [go_sem,w1,e1,k3,o1,r1,s1,hN1,b0,u1,hG1]
 refine goX_once HE hP.mix 91 500 (by kernel_rfl) ?_
 simp only [go_sem,w2,n1,le1,e2,k3,o2,r2,s2,hN2,v1,u2,hG2]
 refine goX_once HE hP.mix 91 600 (by kernel_rfl) ?_
 simp only [go_sem,w3,n2,le2,e3,k3,o3,r3,s3,hN3,v2,u3,hG3]
 refine goX_once HE hP.mix 91 700 (by kernel_rfl) ?_
 have bi:((-9223372036854775808:Int)≤0∧(0:Int)≤9223372036854775807)=True:=eq_true (by decide)
 simp only [go_sem,bi]
 refine trX_once HE hP.mix 91 800 (by kernel_rfl) ?_
 simp only [go_sem,w1,n1,le1,t1,v3,hg0]
 refine goX_once HE hP.mix 91 900 (by kernel_rfl) ?_
 simp only [go_sem,w2,n1,le1,t2,v3,hg0]
 refine goX_once HE hP.mix 91 1000 (by kernel_rfl) ?_
 simp only [go_sem,w3,n2,le1,le2,t3,v3,hg0]
 refine goX_once HE hP.mix 91 1100 (by kernel_rfl) ?_
 simp only [go_sem]
 exact .refl _
noncomputable def rvDirS:List AV→Option (Prop × AV):=onX1 fun a=>(fV a 268435456,(.agg [.opq (.rfrac ((dirA a).1)),.pad,.pad,.opq (.rfrac ((dirA a).2.1)),.pad,.pad,.opq (.rfrac ((dirA a).2.2)),.pad,.pad]))
theorem rvDirS_ok (hP:PrgOk P) (args p r):rvDirS args=some (p,r)→p→CSpec P 60 args r:=onX1_ok (fun a h=>by exact rvDir_spec hP a h) args p r
attribute [go_sem] vDirS
noncomputable def Yt2:Nat→List AV→Option (Prop × AV):=addS Xt1 55 vDirS
theorem Yt2_all (hP:PrgOk P) (T) (hT:TyOk P T):EnvOk P ⟨T,Yt2⟩:=((Xt1_all hP T hT).add (vDirS_ok hP))
theorem Yt2_at (f a):Yt2 f a=(addS Xt1 55 vDirS) f a:=rfl
attribute [go_sem] Yt2_at
def cV (a:V3):List AV:=[.opq (.frac (a.1)),.pad,.pad,.pad,.pad,.opq (.frac (a.2.1)),.pad,.pad,.pad,.pad,.opq (.frac (a.2.2)),.pad,.pad,.pad,.pad]
theorem fz_cV (a:V3):∀ x ∈ cV a,∀ m j,fzC m j x∧fzV m j x=x:=by
 intro x hx m j
 simp only [cV,List.mem_cons,List.not_mem_nil,or_false] at hx
 rcases hx with rfl|rfl|rfl|rfl|rfl|rfl|rfl|rfl|rfl|rfl|rfl|rfl|rfl|rfl|rfl<;>cases j<;>exact ⟨trivial,rfl⟩
instance:Wd cV 15:=⟨fun _=>rfl,by decide,fun _=>rfl,fun _=>rfl,fun _ _=>rfl,fun m j z=>(fz_flat (fz_cV z)).1 m j,fun m j z=>(fz_flat (fz_cV z)).2 m j⟩
theorem fV_mono {a:V3} {n m:Nat} (h:fV a n) (hm:n≤m):fV a m:=⟨Nat.le_trans h.1 hm,Nat.le_trans h.2.1 hm,Nat.le_trans h.2.2 hm⟩
theorem dir_fV {a:V3} {n:Nat} (h:fV a n):fV (dirA a) (n+(1+n+n+n)):=by
 have hm:blen (mV a)≤1+n+n+n:=lcmD_blen (lcmD_blen (lcmD_blen (show blen 1≤1 by decide) (fl_den h.1)) (fl_den h.2.1)) (fl_den h.2.2)
 have k:∀ {x:Rat},fl x≤n→fl ((dV a x:Int):Rat)≤n+(1+n+n+n):=fun {x} hx=>by
  refine fl_int (Nat.le_trans (primZ_wl _ _) ?_) (by omega)
  unfold nV
  refine wl_mul (fl_num hx) ?_
  exact blen_le_of (Nat.div_le_self _ _) hm
 exact ⟨k h.1,k h.2.1,k h.2.2⟩
def cW (a:V3):List AV:=[.opq (.rfrac (a.1)),.pad,.pad,.opq (.rfrac (a.2.1)),.pad,.pad,.opq (.rfrac (a.2.2)),.pad,.pad]
theorem fz_cW (a:V3):∀ x ∈ cW a,∀ m j,fzC m j x∧fzV m j x=x:=by
 intro x hx m j
 simp only [cW,List.mem_cons,List.not_mem_nil,or_false] at hx
 rcases hx with rfl|rfl|rfl|rfl|rfl|rfl|rfl|rfl|rfl<;>cases j<;>exact ⟨trivial,rfl⟩
instance:Wd cW 9:=⟨fun _=>rfl,by decide,fun _=>rfl,fun _=>rfl,fun _ _=>rfl,fun m j z=>(fz_flat (fz_cW z)).1 m j,fun m j z=>(fz_flat (fz_cW z)).2 m j⟩
theorem vcq_vcr (a b:V3):vcq a b=vcr a b:=by unfold vcq vcr; simp only [qsub_eq,qmul_eq]
theorem qdt_vdt (a b:V3):qdt a b=vdt a b:=by unfold qdt vdt; simp only [qadd_eq,qmul_eq]
end Go.Proofs.YtmahhmdeocnlgaaGreatDoor.AM
/- Arguments that are rows of strings: how long they are. -/
namespace Go.Proofs.YtmahhmdeocnlgaaGreatDoor.AM
set_option linter.all false
set_option autoImplicit true
set_option relaxedAutoImplicit true
open Go Go.Proofs
def maxS:Nat:=140737488355328
theorem le_maxS {n:Nat} (h:n≤reachBytes):n≤maxS:=Nat.le_trans h (by decide)
section
variable {H:Type} {enc:TypeId × Value→H} {P:Program} {w:World}
theorem trod_str {t:TypeId} {cs:List Value} {x:DataW H × List MemPlace} {fuel:Nat} (ht:P.underlying t=some .string) (h:DataW.trod enc P w 0 (fun _=>true) true fuel t cs=some x):∃ s:ByteArray,cs=[.string s]∧x.1 = .lit (.string s.data.toList):=by
 cases fuel with
 | zero=>simp [DataW.trod] at h
 | succ n =>
   unfold DataW.trod at h
   rw [ht] at h
   split at h<;>simp_all
   rw [← h.2]
theorem strs_w {B:Nat}:∀ (fs:List Field) (o n:Nat) (cs:List Value) (ys:List (DataW H × List MemPlace)),chkF P (List.replicate fs.length .str) fs o=true→(∀ (i:Nat) (f:Field),fs[i]? = some f→DataW.trod enc P w 0 (fun _=>true) true n f.type ((cs.drop f.offset).take (P.cellsOf f.type))=ys[i]?)→ys.length=fs.length→cs.length=o+fs.length→(DataW.weightsEach P (fs.map (·.type)) (ys.map (·.1))).all (fun x=>decide (x≤B))=true→∃ ss:List ByteArray,ss.length=fs.length∧(∀ s ∈ ss,s.size≤B)∧RL0 w (cs.drop o) (ss.map .str)
 | [],o,n,cs,ys,_,_,_,hl,_=>⟨[],rfl,by simp,by rw [List.drop_of_length_le (by simp at hl; omega)]; exact .nil⟩
 | f::fs,o,n,cs,ys,hc,hall,hy,hl,hw=>by
   simp only [List.length_cons,List.replicate_succ,chkF,Bool.and_eq_true,beq_iff_eq] at hc
   obtain ⟨⟨⟨h1,h2⟩,h3⟩,h4⟩:=hc
   have ht:P.underlying f.type=some .string:=by simp only [Sha.chk] at h3; split at h3<;>simp_all
   match ys,hy with
   | y::ys,hy =>
     have hy0:=hall 0 f rfl
     simp only [List.getElem?_cons_zero] at hy0
     obtain ⟨s,e1,e2⟩:=trod_str ht hy0
     simp only [List.map_cons,DataW.weightsEach,e2,DataW.weights,List.all_append,Bool.and_eq_true,List.all_cons,List.all_nil,and_true,decide_eq_true_eq] at hw
     have hwd:(Sha.str).width=1:=rfl
     obtain ⟨ss,k1,k2,k3⟩:=strs_w fs (o+1) n cs ys (by rw [← hwd]; exact h4) (fun i g hg=>by simpa using hall (i+1) g (by simpa using hg)) (by simpa using hy) (by simp at hl; omega) hw.2
     refine ⟨s::ss,by simp [k1],fun z hz=>?_,?_⟩
     · rcases List.mem_cons.1 hz with rfl|hz
       · have:=hw.1
         simpa using this
       · exact k2 z hz
     · rw [cut_app (k:=1) (by simp at hl; omega)]
       rw [h1,h2,hwd] at e1
       rw [e1]
       exact (RL.str _ .nil).app k3
theorem arg_w {l:List Sha} {t:TypeId} {k:Nat} {B:Nat} (hk:l=List.replicate k .str) (hc:(Sha.row l).chk P t=true) {fs:Array Field} (hu:P.underlying t=some (.struct fs)) {v:Value} {d:DataW H} {ps:List MemPlace} {b:Nat} (h:DataW.Trod enc P w 0 (fun _=>true) true t v d ps) (hv:Value.okWide P w .any b t v) (hw:(d.weights P t).all (fun x=>decide (x≤B))=true):∃ ss:List ByteArray,ss.length=k∧(∀ s ∈ ss,s.size≤B)∧RL0 w [v] [.agg (ss.map .str)]:=by
 subst hk
 obtain ⟨fuel,h⟩:=h
 simp only [Sha.chk,Bool.and_eq_true,beq_iff_eq,hu] at hc
 obtain ⟨hwd,hc⟩:=hc
 obtain ⟨xs,n,_,hx,hl,hxl,hall⟩:=DataW.trod_struct hu h
 have wl:∀ k:Nat,widthL (List.replicate k .str)=k:=fun k=>by
  induction k with
  | zero=>rfl
  | succ k ih=>rw [List.replicate_succ]; simp only [widthL,ih]; show 1+k=k+1; omega
 have hlen:∀ (k:Nat) (gs:List Field) (o:Nat),chkF P (List.replicate k .str) gs o=true→gs.length=k:=fun k=>by
  induction k with
  | zero=>intro gs o hg; cases gs with
    | nil=>rfl
    | cons _ _=>simp [chkF] at hg
  | succ k ih =>
    intro gs o hg
    cases gs with
    | nil=>simp [List.replicate_succ,chkF] at hg
    | cons g gs =>
      rw [List.replicate_succ] at hg
      simp only [chkF,Bool.and_eq_true] at hg
      simp [ih gs _ hg.2]
 have hfl:=hlen k fs.toList 0 hc
 have hd:d = .agg (xs.map (·.1)):=congrArg Prod.fst hx
 rw [hd] at hw
 simp only [DataW.weights,hu] at hw
 have:=strs_w (enc:=enc) (w:=w) (B:=B) fs.toList 0 n v.cells.toList xs (by rw [hfl]; exact hc) (fun i f hf=>hall i f (by simpa using hf)) (by simpa using hxl) (by rw [hl,hwd,wl]; omega) hw
 obtain ⟨ss,k1,k2,k3⟩:=this
 have:∃ cs,v = .agg cs:=by
  unfold Value.okWide at hv
  rw [hu] at hv; exact ⟨_,hv.choose_spec.1⟩
 obtain ⟨cs,rfl⟩:=this
 exact ⟨ss,by rw [k1,hfl],k2,by simpa using RL.agg (cs:=cs.toList) (by simpa [Value.cells] using k3) .nil⟩
theorem arg_p {t:TypeId} {B:Nat} (hc:(Sha.row [.str,.str,.str]).chk P t=true) {fs:Array Field} (hu:P.underlying t=some (.struct fs)) {v:Value} {d:DataW H} {ps:List MemPlace} {b:Nat} (h:DataW.Trod enc P w 0 (fun _=>true) true t v d ps) (hv:Value.okWide P w .any b t v) (hw:(d.weights P t).all (fun x=>decide (x≤B))=true):∃ x y z:ByteArray,x.size≤B∧y.size≤B∧z.size≤B∧RL0 w [v] [.agg [.str x,.str y,.str z]]:=by
 obtain ⟨ss,h1,h2,h3⟩:=arg_w (k:=3) rfl hc hu h hv hw
 match ss,h1 with
 | [x,y,z],_=>exact ⟨x,y,z,h2 x (by simp),h2 y (by simp),h2 z (by simp),h3⟩
end
end Go.Proofs.YtmahhmdeocnlgaaGreatDoor.AM
/- The laws of vectors: their helpers. -/
namespace Go.Proofs.YtmahhmdeocnlgaaGreatDoor.AM
set_option linter.all false
set_option autoImplicit true
set_option relaxedAutoImplicit true
open Go Go.Proofs
set_option maxRecDepth 100000
set_option maxHeartbeats 8000000
set_option linter.unusedSimpArgs false
variable {P:Program}
attribute [go_sem] rvDirS
noncomputable def Zt0:Nat→List AV→Option (Prop × AV):=addS Yt2 60 rvDirS
theorem Zt0_all (hP:PrgOk P) (T) (hT:TyOk P T):EnvOk P ⟨T,Zt0⟩:=((Yt2_all hP T hT).add (rvDirS_ok hP))
theorem Zt0_at (f a):Zt0 f a=(addS Yt2 60 rvDirS) f a:=rfl
attribute [go_sem] Zt0_at
noncomputable def Zt1:Nat→List AV→Option (Prop × AV):=Zt0
theorem Zt1_all (hP:PrgOk P) (T) (hT:TyOk P T):EnvOk P ⟨T,Zt1⟩:=(Zt0_all hP T hT)
attribute [go_sem] Zt1
theorem eqV (a b:V3):(decide (a.1=b.1) && (decide (a.2.1=b.2.1) && (decide (a.2.2=b.2.2) && true)))=decide (a=b):=by
 rw [Bool.eq_iff_iff]
 simp only [Bool.and_eq_true,decide_eq_true_eq,and_true]
 exact ⟨fun h=>v3_ext h.1 h.2.1 h.2.2,fun h=>by rw [h]; exact ⟨rfl,rfl,rfl⟩⟩
theorem eqAgg3 (t1 t2 t3:Nat × Nat) (sz b:Nat) (z1 z2 z3 a1 a2 a3 b1 b2 b3:ByteArray):eqAgg ⟨.struct [t1,t2,t3],sz,b,[.str z1,.str z2,.str z3]⟩ .eql [.str a1,.str a2,.str a3] [.str b1,.str b2,.str b3]=some (True,.bool ((a1.toList == b1.toList) && ((a2.toList == b2.toList) && ((a3.toList == b3.toList) && true)))):=by
 rw [eqAgg_eql _ _ _ _ _ _ rfl rfl]
 have:([AV.str a1,.str a2,.str a3].length=[AV.str z1,.str z2,.str z3].length)=True:=eq_true rfl
 simp only [eqStrs_cons,eqStrs_nil,Option.map_some,this]
theorem eqAgg3n (t1 t2 t3:Nat × Nat) (sz b:Nat) (z1 z2 z3 a1 a2 a3 b1 b2 b3:ByteArray):eqAgg ⟨.struct [t1,t2,t3],sz,b,[.str z1,.str z2,.str z3]⟩ .neq [.str a1,.str a2,.str a3] [.str b1,.str b2,.str b3]=some (True,.bool (!((a1.toList == b1.toList) && ((a2.toList == b2.toList) && ((a3.toList == b3.toList) && true))))):=by
 rw [eqAgg_neq _ _ _ _ _ _ rfl rfl]
 have:([AV.str a1,.str a2,.str a3].length=[AV.str z1,.str z2,.str z3].length)=True:=eq_true rfl
 simp only [eqStrs_cons,eqStrs_nil,Option.map_some,this]
attribute [go_sem] eqAgg3 eqAgg3n
theorem is4_spec (hP:PrgOk P) (a b:V3) (ha:fV a FB) (hb:fV b FB):CSpec P 35 [(.agg [.opq (.frac (a.1)),.pad,.pad,.pad,.pad,.opq (.frac (a.2.1)),.pad,.pad,.pad,.pad,.opq (.frac (a.2.2)),.pad,.pad,.pad,.pad]),(.agg [.opq (.rfrac (b.1)),.pad,.pad,.opq (.rfrac (b.2.1)),.pad,.pad,.opq (.rfrac (b.2.2)),.pad,.pad])] (.bool (decide (a=b))):=by
 have HE:=Zt1_all hP TF hP.tF
 obtain ⟨a1,a2,a3⟩:=ha
 obtain ⟨b1,b2,b3⟩:=hb
 rw [← eqV]
 refine CSpec_go (E:=⟨TF,Zt1⟩) (fn35 hP) HE hP.mix ?_
 simp only [go_sem,a1,a2,a3,b1,b2,b3,qtS_eq]
 exact fin_z
noncomputable def is4S:List AV→Option (Prop × AV)
 | [x,y]=>(rawV x).bind fun a=>(rawX y).map fun b=>(fV a FB∧fV b FB,.bool (decide (a=b)))
 | _=>none
theorem is4S_eq (x y):is4S [x,y]=(rawV x).bind fun a=>(rawX y).map fun b=>(fV a FB∧fV b FB,.bool (decide (a=b))):=rfl
theorem is4S_ok (hP:PrgOk P) (args p r) (he:is4S args=some (p,r)) (hp:p):CSpec P 35 args r:=by
 unfold is4S at he
 split at he
 · simp only [Option.bind_eq_some_iff,Option.map_eq_some_iff,Prod.mk.injEq] at he
   obtain ⟨a,h1,b,h2,rfl,rfl⟩:=he
   rw [rawV_inv h1,rawX_inv h2]
   exact is4_spec hP a b hp.1 hp.2
 · simp at he
theorem isF_spec (hP:PrgOk P) (a b:Rat) (ha:fl a≤FB) (hb:fl b≤FB):CSpec P 44 [(.agg [.opq (.frac (a)),.pad,.pad,.pad,.pad]),(.agg [.opq (.rfrac (b)),.pad,.pad])] (.bool (decide (a=b))):=by
 have HE:=Zt1_all hP TF hP.tF
 refine CSpec_go (E:=⟨TF,Zt1⟩) (fn44 hP) HE hP.mix ?_
 simp only [go_sem,ha,hb,qtS_eq]
 exact fin_z
noncomputable def isFS:List AV→Option (Prop × AV)
 | [(.agg [.opq (.frac (a)),.pad,.pad,.pad,.pad]),(.agg [.opq (.rfrac (b)),.pad,.pad])]=>some (fl a≤FB∧fl b≤FB,.bool (decide (a=b)))
 | _=>none
theorem isFS_ok (hP:PrgOk P) (args p r) (h:isFS args=some (p,r)) (hp:p):CSpec P 44 args r:=by
 unfold isFS at h
 split at h
 · simp only [Option.some.injEq,Prod.mk.injEq] at h
   obtain ⟨rfl,rfl⟩:=h
   exact isF_spec hP _ _ hp.1 hp.2
 · simp at h
def lngP (x y z:ByteArray):Bool:=decide (90<x.size) || (decide (90<y.size) || decide (90<z.size))
theorem long4_spec (hP:PrgOk P) (x y z:ByteArray):CSpec P 50 [.agg [.str x,.str y,.str z]] (.bool (lngP x y z)):=by
 have HE:=Zt1_all hP TF hP.tF
 unfold lngP
 refine CSpec_go (E:=⟨TF,Zt1⟩) (fn50 hP) HE hP.mix ?_
 by_cases h1:90<x.size
 · simp only [go_sem,h1]
   exact fin_z
 · by_cases h2:90<y.size
   · simp only [go_sem,h1,h2]
     exact fin_z
   · simp only [go_sem,h1,h2]
     exact fin_z
def long4S:List AV→Option (Prop × AV)
 | [.agg [.str x,.str y,.str z]]=>some (True,.bool (lngP x y z))
 | _=>none
theorem long4S_ok (hP:PrgOk P) (args p r) (h:long4S args=some (p,r)) (hp:p):CSpec P 50 args r:=by
 unfold long4S at h
 split at h
 · simp only [Option.some.injEq,Prod.mk.injEq] at h
   obtain ⟨rfl,rfl⟩:=h
   exact long4_spec hP _ _ _
 · simp at h
attribute [go_sem] is4S_eq isFS long4S
noncomputable def Zt2:Nat→List AV→Option (Prop × AV):=addS (addS (addS Zt1 35 is4S) 44 isFS) 50 long4S
theorem Zt2_all (hP:PrgOk P) (T) (hT:TyOk P T):EnvOk P ⟨T,Zt2⟩:=((((Zt1_all hP T hT).add (is4S_ok hP)).add (isFS_ok hP)).add (long4S_ok hP))
theorem Zt2_at (f a):Zt2 f a=(addS (addS (addS Zt1 35 is4S) 44 isFS) 50 long4S) f a:=rfl
attribute [go_sem] Zt2_at
noncomputable def ptV (x y z:ByteArray):V3:=(parV (bl x) (bl y) (bl z)).1
noncomputable def okM (x y z:ByteArray):Bool:=decide ((parV (bl x) (bl y) (bl z)).2=0) && !lngP x y z
theorem made_spec (hP:PrgOk P) (x y z:ByteArray) (hx:(bl x).length≤140737488355328) (hy:(bl y).length≤140737488355328) (hz:(bl z).length≤140737488355328):CSpec P 9 [.agg [.str x,.str y,.str z]] (.tup [(.agg [.opq (.frac ((ptV x y z).1)),.pad,.pad,.pad,.pad,.opq (.frac ((ptV x y z).2.1)),.pad,.pad,.pad,.pad,.opq (.frac ((ptV x y z).2.2)),.pad,.pad,.pad,.pad]),(.agg [.opq (.rfrac ((ptV x y z).1)),.pad,.pad,.opq (.rfrac ((ptV x y z).2.1)),.pad,.pad,.opq (.rfrac ((ptV x y z).2.2)),.pad,.pad]),.bool (okM x y z)]):=by
 have HE:=Zt2_all hP TF hP.tF
 unfold okM ptV
 obtain ⟨r,hr⟩:∃ r,parV (bl x) (bl y) (bl z)=r:=⟨_,rfl⟩
 rw [hr]
 refine CSpec_go (E:=⟨TF,Zt2⟩) (fn9 hP) HE hP.mix ?_
 by_cases h:r.2=0
 · have h1:(r.2 == 0)=true:=by rw [h]; rfl
   have h2:=decide_eq_true h
   simp only [go_sem,hx,hy,hz,hr,h1,h2,Bool.true_and]
   exact fin_z
 · have h1:(r.2 == 0)=false:=by simpa using h
   have h2:=decide_eq_false h
   simp only [go_sem,hx,hy,hz,hr,h1,h2,Bool.false_and]
   exact fin_z
noncomputable def madeS:List AV→Option (Prop × AV)
 | [.agg [.str x,.str y,.str z]]=>some ((bl x).length≤140737488355328∧(bl y).length≤140737488355328∧(bl z).length≤140737488355328,.tup [(.agg [.opq (.frac ((ptV x y z).1)),.pad,.pad,.pad,.pad,.opq (.frac ((ptV x y z).2.1)),.pad,.pad,.pad,.pad,.opq (.frac ((ptV x y z).2.2)),.pad,.pad,.pad,.pad]),(.agg [.opq (.rfrac ((ptV x y z).1)),.pad,.pad,.opq (.rfrac ((ptV x y z).2.1)),.pad,.pad,.opq (.rfrac ((ptV x y z).2.2)),.pad,.pad]),.bool (okM x y z)])
 | _=>none
theorem madeS_ok (hP:PrgOk P) (args p r) (h:madeS args=some (p,r)) (hp:p):CSpec P 9 args r:=by
 unfold madeS at h
 split at h
 · simp only [Option.some.injEq,Prod.mk.injEq] at h
   obtain ⟨rfl,rfl⟩:=h
   exact made_spec hP _ _ _ hp.1 hp.2.1 hp.2.2
 · simp at h
attribute [go_sem] madeS
noncomputable def Zt3:Nat→List AV→Option (Prop × AV):=addS Zt2 9 madeS
theorem Zt3_all (hP:PrgOk P) (T) (hT:TyOk P T):EnvOk P ⟨T,Zt3⟩:=((Zt2_all hP T hT).add (madeS_ok hP))
theorem Zt3_at (f a):Zt3 f a=(addS Zt2 9 madeS) f a:=rfl
attribute [go_sem] Zt3_at
noncomputable def Zt4:Nat→List AV→Option (Prop × AV):=Zt3
theorem Zt4_all (hP:PrgOk P) (T) (hT:TyOk P T):EnvOk P ⟨T,Zt4⟩:=(Zt3_all hP T hT)
attribute [go_sem] Zt4
theorem ptV_fl (x y z:ByteArray):fV (ptV x y z) 1024:=parV_fl _ _ _
end Go.Proofs.YtmahhmdeocnlgaaGreatDoor.AM
/- Vectors: how long what is reckoned becomes. -/
namespace Go.Proofs.YtmahhmdeocnlgaaGreatDoor.AM
set_option linter.all false
set_option autoImplicit true
set_option relaxedAutoImplicit true
open Go Go.Proofs
set_option maxRecDepth 100000
structure BV (a:V3):Prop where
 r:fV a 65536
 d:fV a 8388608
 t:fV a 67108864
 x:fV a 268435456
 f:fV a FB
theorem qdt_fl {a b:V3} {n m:Nat} (ha:fV a n) (hb:fV b m):fl (qdt a b)≤n+m+(n+m)+1+(n+m)+1:=fl_qadd (fl_qadd (fl_qmul ha.1 hb.1) (fl_qmul ha.2.1 hb.2.1)) (fl_qmul ha.2.2 hb.2.2)
noncomputable def ngV (a:V3):V3:=(qneg a.1,qneg a.2.1,qneg a.2.2)
theorem ngV_eq (a:V3):ngV a=vsc (-1) a:=by unfold ngV vsc; simp only [qneg_eq]; refine v3_ext ?_ ?_ ?_<;>(simp only []; grind)
noncomputable def nrm (d:V3):V3:=if cmpV (dirA d) v0<0 then ngV (dirA d) else dirA d
theorem cmpV_v0 (a:V3):cmpV a v0=if a.1=0 then (if a.2.1=0 then cmpQ a.2.2 0 else cmpQ a.2.1 0) else cmpQ a.1 0:=by
 have k:∀ x:Rat,cmpQ x 0=0 ↔ x=0:=fun x=>by
  rcases cmpQ_cases x 0 with ⟨h,e⟩|⟨h,e⟩|⟨h,e⟩<;>rw [e]<;>simp<;>grind
 unfold cmpV v0
 simp only []
 by_cases h1:a.1=0
 · rw [if_pos ((k _).2 h1),if_pos h1]
   by_cases h2:a.2.1=0
   · rw [if_pos ((k _).2 h2),if_pos h2]
   · rw [if_neg (fun e=>h2 ((k _).1 e)),if_neg h2]
 · rw [if_neg (fun e=>h1 ((k _).1 e)),if_neg h1]
theorem cmpQ_neg (x:Rat):cmpQ (-1*x) 0 = -cmpQ x 0:=by
 rcases cmpQ_cases x 0 with ⟨h,e⟩|⟨h,e⟩|⟨h,e⟩
 · rw [e,cmpQ_gt (by grind)]; rfl
 · rw [e,h]; decide +kernel
 · rw [e,cmpQ_lt (by grind)]
theorem cmpV_neg (a:V3):cmpV (vsc (-1) a) v0 = -cmpV a v0:=by
 rw [cmpV_v0,cmpV_v0]
 have k:∀ x:Rat,(-1*x=0)=(x=0):=fun x=>propext ⟨fun h=>by grind,fun h=>by grind⟩
 simp only [vsc,k,cmpQ_neg]
 split
 · split<;>rfl
 · rfl
theorem cmpV_nz {a:V3} (h:a ≠ v0):cmpV a v0 ≠ 0:=by
 have k:∀ x:Rat,x ≠ 0→cmpQ x 0 ≠ 0:=fun x hx=>by
  rcases cmpQ_cases x 0 with ⟨_,e⟩|⟨h,_⟩|⟨_,e⟩
  · rw [e]; decide
  · exact absurd h hx
  · rw [e]; decide
 rw [cmpV_v0]
 split
 · split
   · rename_i h1 h2
     exact k _ fun h3=>h ((v0_iff a).2 ⟨h1,h2,h3⟩)
   · rename_i h2; exact k _ h2
 · rename_i h1; exact k _ h1
theorem nrm_sc {d:V3} (h:d ≠ v0):∃ k:Rat,k ≠ 0∧nrm d=vsc k d:=by
 obtain ⟨k,hk,e⟩:=dirA_sc h
 unfold nrm
 split
 · exact ⟨-1*k,by grind,by rw [ngV_eq,e,sc_sc]⟩
 · exact ⟨k,by grind,e⟩
theorem nrm_nz {d:V3} (h:d ≠ v0):nrm d ≠ v0:=by
 obtain ⟨k,hk,e⟩:=nrm_sc h
 rw [e]; exact vsc_nz hk h
theorem nrm_neg {d:V3} (h:d ≠ v0):nrm (vsc (-1) d)=nrm d:=by
 have hd:dirA d ≠ v0:=fun e=>h ((dir_v0 d).1 e)
 have hn:=cmpV_nz hd
 unfold nrm
 rw [dir_neg,cmpV_neg]
 by_cases hc:cmpV (dirA d) v0<0
 · rw [if_neg (by omega),if_pos hc,ngV_eq]
 · rw [if_pos (by omega),if_neg hc,ngV_eq,sc_sc,show (-1:Rat) * -1=1 by decide +kernel,vsc_one]
theorem nrm_any {k:Rat} (hk:k ≠ 0) {d:V3} (h:d ≠ v0):nrm (vsc k d)=nrm d:=by
 rcases (show k<0∨0<k by grind) with hk|hk
 · have:vsc k d=vsc (-1) (vsc (-k) d):=by rw [sc_sc]; congr 1; grind
   rw [this,nrm_neg (vsc_nz (by grind) h)]
   unfold nrm
   rw [dir_pos (by grind)]
 · unfold nrm
   rw [dir_pos hk]
theorem nrm_idem {d:V3} (h:d ≠ v0):nrm (nrm d)=nrm d:=by
 obtain ⟨k,hk,e⟩:=nrm_sc h
 conv=>lhs; rw [e]
 exact nrm_any hk h
theorem dt_self {d:V3} (h:d ≠ v0):vdt d d ≠ 0:=by
 have hsq:∀ x:Rat,0≤x*x:=fun x=>by
  rcases (Rat.le_total:0≤x∨x≤0) with h|h
  · exact Rat.mul_nonneg h h
  · have:=Rat.mul_nonneg (a:=-x) (b:=-x) (by grind) (by grind)
    grind
 have h1:=hsq d.1
 have h2:=hsq d.2.1
 have h3:=hsq d.2.2
 unfold vdt
 intro e
 have e1:d.1*d.1=0:=by grind
 have e2:d.2.1*d.2.1=0:=by grind
 have e3:d.2.2*d.2.2=0:=by grind
 exact h ((v0_iff d).2 ⟨(Rat.mul_eq_zero.1 e1).elim id id,(Rat.mul_eq_zero.1 e2).elim id id,(Rat.mul_eq_zero.1 e3).elim id id⟩)
noncomputable def lnT (p e:V3):Rat:=qdiv (qdt p e) (qdt e e)
noncomputable def lnP (p e:V3):V3:=(qsub p.1 (qmul (lnT p e) e.1),qsub p.2.1 (qmul (lnT p e) e.2.1),qsub p.2.2 (qmul (lnT p e) e.2.2))
theorem qdt_vdt0 (a b:V3):qdt a b=vdt a b:=by unfold qdt vdt; simp only [qadd_eq,qmul_eq]
theorem lnT_eq {p e:V3} (h:e ≠ v0):lnT p e*vdt e e=vdt p e:=by
 unfold lnT
 rw [qdiv_eq,qdt_vdt0,qdt_vdt0,Rat.div_mul_cancel (dt_self h)]
theorem lnP_eq (p e:V3):lnP p e=vsb p (vsc (lnT p e) e):=by
 unfold lnP vsb vsc; simp only [qsub_eq,qmul_eq]
abbrev V4:=Rat × Rat × Rat × Rat
def m4 (h:V4):Nat:=lcmD (lcmD (lcmD (lcmD 1 h.1.den) h.2.1.den) h.2.2.1.den) h.2.2.2.den
theorem m4_pos (h:V4):0<m4 h:=lcmD_pos (lcmD_pos (lcmD_pos (lcmD_pos (by decide) h.1.den_pos) h.2.1.den_pos) h.2.2.1.den_pos) h.2.2.2.den_pos
theorem m4_1 (h:V4):h.1.den ∣ m4 h:=Nat.dvd_trans (lcmD_r _ _) (Nat.dvd_trans (lcmD_l _ _) (Nat.dvd_trans (lcmD_l _ _) (lcmD_l _ _)))
theorem m4_2 (h:V4):h.2.1.den ∣ m4 h:=Nat.dvd_trans (lcmD_r _ _) (Nat.dvd_trans (lcmD_l _ _) (lcmD_l _ _))
theorem m4_3 (h:V4):h.2.2.1.den ∣ m4 h:=Nat.dvd_trans (lcmD_r _ _) (lcmD_l _ _)
theorem m4_4 (h:V4):h.2.2.2.den ∣ m4 h:=lcmD_r _ _
def n4 (h:V4) (x:Rat):Int:=x.num*((m4 h / x.den:Nat):Int)
def l4 (h:V4):List Int:=[n4 h h.1,n4 h h.2.1,n4 h h.2.2.1,n4 h h.2.2.2]
def g4 (h:V4):Nat:=gcdL (l4 h)
def p4 (h:V4) (x:Rat):Int:=primZ (g4 h) (n4 h x)
def s4 (h:V4):Bool:=if h.1=0 then (if h.2.1=0 then decide (h.2.2.1<0) else decide (h.2.1<0)) else decide (h.1<0)
def q4 (h:V4) (x:Rat):Int:=if s4 h then -p4 h x else p4 h x
noncomputable def plN (h:V4):V4:=((q4 h h.1:Int),(q4 h h.2.1:Int),(q4 h h.2.2.1:Int),(q4 h h.2.2.2:Int))
theorem n4_eq {h:V4} {x:Rat} (hd:x.den ∣ m4 h):((n4 h x:Int):Rat)=x*(m4 h:Rat):=by
 unfold n4
 obtain ⟨c,hc⟩:=hd
 have hd:m4 h / x.den=c:=by rw [hc]; exact Nat.mul_div_cancel_left c x.den_pos
 rw [hd,hc,Rat.intCast_mul,num_den x,Rat.natCast_mul,Rat.mul_assoc]
 rfl
theorem g4_nz {h:V4} {x:Rat} (hd:x.den ∣ m4 h) (hx:n4 h x ∈ l4 h) (h0:x ≠ 0):g4 h ≠ 0:=fun e=>by
 have hm:=nat_nz (Nat.pos_iff_ne_zero.1 (m4_pos h))
 have h1:=gcdL_zero e hx
 have h2:=n4_eq hd
 rw [h1] at h2
 rcases Rat.mul_eq_zero.1 h2.symm with h3|h3
 · exact h0 h3
 · exact hm h3
theorem p4_mul {h:V4} (hg:g4 h ≠ 0) {x:Rat} (hd:x.den ∣ m4 h) (hx:n4 h x ∈ l4 h):((p4 h x:Int):Rat)=((m4 h:Rat) / (g4 h:Rat))*x:=by
 have e:primZ (g4 h) (n4 h x)*(g4 h:Int)=n4 h x:=primZ_mul hg (gcdL_dvd hx)
 have e2:((p4 h x:Int):Rat)*(g4 h:Rat)=x*(m4 h:Rat):=by
  rw [← n4_eq hd]
  have:((primZ (g4 h) (n4 h x)*(g4 h:Int):Int):Rat)=((n4 h x:Int):Rat):=by rw [e]
  rw [Rat.intCast_mul] at this
  exact this
 have hg':=nat_nz hg
 generalize (g4 h:Rat)=g at *
 generalize (m4 h:Rat)=m at *
 generalize ((p4 h x:Int):Rat)=d at *
 rw [Rat.div_def]
 have h1:=Rat.mul_inv_cancel g hg'
 generalize g⁻¹=i at *
 calc d=d*g*i:=by rw [Rat.mul_assoc,h1,Rat.mul_one]
  _=m*i*x:=by rw [e2]; grind
theorem plN_sc {h:V4} (h0:(h.1,h.2.1,h.2.2.1) ≠ v0):∃ k:Rat,k ≠ 0∧plN h=(k*h.1,k*h.2.1,k*h.2.2.1,k*h.2.2.2):=by
 have hg:g4 h ≠ 0:=by
  by_cases e1:h.1=0
  · by_cases e2:h.2.1=0
    · by_cases e3:h.2.2.1=0
      · exact absurd ((v0_iff _).2 ⟨e1,e2,e3⟩) h0
      · exact g4_nz (m4_3 h) (by simp [l4]) e3
    · exact g4_nz (m4_2 h) (by simp [l4]) e2
  · exact g4_nz (m4_1 h) (by simp [l4]) e1
 have hk:(0:Rat)<(m4 h:Rat) / (g4 h:Rat):=by
  rw [Rat.div_def]
  exact Rat.mul_pos (nat_pos' (Nat.pos_iff_ne_zero.1 (m4_pos h))) (Rat.inv_pos.2 (nat_pos' hg))
 have a1:=p4_mul hg (m4_1 h) (by simp [l4])
 have a2:=p4_mul hg (m4_2 h) (by simp [l4])
 have a3:=p4_mul hg (m4_3 h) (by simp [l4])
 have a4:=p4_mul hg (m4_4 h) (by simp [l4])
 unfold plN q4
 cases s4 h
 · exact ⟨_,by grind,Prod.ext a1 (Prod.ext a2 (Prod.ext a3 a4))⟩
 · refine ⟨-1*((m4 h:Rat) / (g4 h:Rat)),by grind,?_⟩
   simp only [if_true,Rat.intCast_neg,a1,a2,a3,a4]
   refine Prod.ext ?_ (Prod.ext ?_ (Prod.ext ?_ ?_))<;>(simp only []; grind)
theorem plN_nz {h:V4} (h0:(h.1,h.2.1,h.2.2.1) ≠ v0):((plN h).1,(plN h).2.1,(plN h).2.2.1) ≠ v0:=by
 obtain ⟨k,hk,e⟩:=plN_sc h0
 rw [e]
 exact vsc_nz (a:=(h.1,h.2.1,h.2.2.1)) hk h0
theorem mul_cancel {a b q:Rat} (hq:q ≠ 0) (h:a*q=b*q):a=b:=by
 have:q*(a-b)=0:=by grind
 have:=zero_of_mul hq this
 grind
theorem lnT_add {p e:V3} (h:e ≠ v0) (s:Rat):lnT (vad p (vsc s e)) e=lnT p e+s:=by
 refine mul_cancel (dt_self h) ?_
 have h1:=lnT_eq (p:=p) h
 have h2:=lnT_eq (p:=vad p (vsc s e)) h
 have h3:vdt (vad p (vsc s e)) e=vdt p e+s*vdt e e:=by unfold vdt vad vsc; simp only []; grind
 rw [h2,h3,← h1]; grind
theorem lnP_any {p e:V3} (h:e ≠ v0) (s:Rat):lnP (vad p (vsc s e)) e=lnP p e:=by
 rw [lnP_eq,lnP_eq,lnT_add h]
 generalize lnT p e=t
 unfold vsb vad vsc; refine v3_ext ?_ ?_ ?_<;>(simp only []; grind)
theorem lnP_dot {p e:V3} (h:e ≠ v0):vdt (lnP p e) e=0:=by
 have h1:=lnT_eq (p:=p) h
 rw [lnP_eq]
 generalize lnT p e=t at *
 have:vdt (vsb p (vsc t e)) e=vdt p e-t*vdt e e:=by unfold vdt vsb vsc; simp only []; grind
 rw [this,h1]; grind
theorem lnP_self {p e:V3} (h:e ≠ v0) (hp:vdt p e=0):lnP p e=p:=by
 have h1:=lnT_eq (p:=p) h
 rw [hp] at h1
 have h2:lnT p e=0:=by
  rcases Rat.mul_eq_zero.1 h1 with h3|h3
  · exact h3
  · exact absurd h3 (dt_self h)
 rw [lnP_eq,h2]
 unfold vsb vsc; refine v3_ext ?_ ?_ ?_<;>(simp only []; grind)
theorem meet_pt {n m:V3} {h k q x y:Rat} (hd:vcr n m ≠ v0) (hq:q*vdt (vcr n m) (vcr n m)=1) (hx:x*(vdt n n*vdt m m-vdt n m*vdt n m)=h*vdt m m-k*vdt n m) (hy:y*(vdt n n*vdt m m-vdt n m*vdt n m)=k*vdt n n-h*vdt n m) :
 vsc q (vad (vsc h (vcr m (vcr n m))) (vsc k (vcr (vcr n m) n)))=vad (vsc x n) (vsc y m):=by
 have hl:vdt (vcr n m) (vcr n m)=vdt n n*vdt m m-vdt n m*vdt n m:=by unfold vdt vcr; simp only []; grind
 have hD:=dt_self hd
 have i1:vcr m (vcr n m)=vsb (vsc (vdt m m) n) (vsc (vdt n m) m):=by unfold vcr vdt vsb vsc; refine v3_ext ?_ ?_ ?_<;>(simp only []; grind)
 have i2:vcr (vcr n m) n=vsb (vsc (vdt n n) m) (vsc (vdt n m) n):=by unfold vcr vdt vsb vsc; refine v3_ext ?_ ?_ ?_<;>(simp only []; grind)
 rw [i1,i2]
 rw [hl] at hq hD
 generalize vdt n n*vdt m m-vdt n m*vdt n m=D at *
 generalize vdt n n=a at *
 generalize vdt n m=b at *
 generalize vdt m m=c at *
 have key:∀ u v:Rat,q*(h*(c*u-b*v)+k*(a*v-b*u))=x*u+y*v:=fun u v=>by
  refine mul_cancel hD ?_
  have e1:q*(h*(c*u-b*v)+k*(a*v-b*u))*D=(q*D)*((h*c-k*b)*u+(k*a-h*b)*v):=by grind
  have e2:(x*u+y*v)*D=(x*D)*u+(y*D)*v:=by grind
  rw [e1,e2,hq,hx,hy]; grind
 unfold vad vsc vsb
 exact v3_ext (key _ _) (key _ _) (key _ _)
theorem cross_pt (d c v:V3):vsc (vdt (vcr d c) (vcr d c)) v=vad (vsb (vsc (vdt (vcr v c) (vcr d c)) d) (vsc (vdt (vcr v d) (vcr d c)) c)) (vsc (vdt v (vcr d c)) (vcr d c)):=by
 unfold vcr vdt vad vsb vsc; refine v3_ext ?_ ?_ ?_<;>(simp only []; grind)
end Go.Proofs.YtmahhmdeocnlgaaGreatDoor.AM
/- Package plane: what is read off a plane. -/
namespace Go.Proofs.YtmahhmdeocnlgaaGreatDoor.AM
set_option linter.all false
set_option autoImplicit true
set_option relaxedAutoImplicit true
open Go Go.Proofs
set_option maxRecDepth 100000
set_option maxHeartbeats 8000000
set_option linter.unusedSimpArgs false
variable {P:Program}
def cells4:List AV→Option V4
 | [.opq (.frac (x)),.pad,.pad,.pad,.pad,.opq (.frac (y)),.pad,.pad,.pad,.pad,.opq (.frac (z)),.pad,.pad,.pad,.pad,.opq (.frac (w)),.pad,.pad,.pad,.pad]=>some (x,y,z,w)
 | _=>none
theorem cells4_eq (x y z w):cells4 [.opq (.frac (x)),.pad,.pad,.pad,.pad,.opq (.frac (y)),.pad,.pad,.pad,.pad,.opq (.frac (z)),.pad,.pad,.pad,.pad,.opq (.frac (w)),.pad,.pad,.pad,.pad]=some (x,y,z,w):=rfl
theorem cells4_inv {A:List AV} {a:V4} (h:cells4 A=some a):A=[.opq (.frac (a.1)),.pad,.pad,.pad,.pad,.opq (.frac (a.2.1)),.pad,.pad,.pad,.pad,.opq (.frac (a.2.2.1)),.pad,.pad,.pad,.pad,.opq (.frac (a.2.2.2)),.pad,.pad,.pad,.pad]:=by
 unfold cells4 at h
 split at h
 · simp only [Option.some.injEq] at h; subst h; rfl
 · simp at h
def rawP:AV→Option V4
 | .agg A=>cells4 A
 | _=>none
theorem rawP_eq (A):rawP (.agg A)=cells4 A:=rfl
theorem rawP_inv {v:AV} {a:V4} (h:rawP v=some a):v=(.agg [.opq (.frac (a.1)),.pad,.pad,.pad,.pad,.opq (.frac (a.2.1)),.pad,.pad,.pad,.pad,.opq (.frac (a.2.2.1)),.pad,.pad,.pad,.pad,.opq (.frac (a.2.2.2)),.pad,.pad,.pad,.pad]):=by
 unfold rawP at h
 split at h
 · rw [cells4_inv h]
 · simp at h
def fP (a:V4) (n:Nat):Prop:=fl a.1≤n∧fl a.2.1≤n∧fl a.2.2.1≤n∧fl a.2.2.2≤n
theorem fP_eq (x y z w n):fP (x,y,z,w) n=(fl x≤n∧fl y≤n∧fl z≤n∧fl w≤n):=rfl
noncomputable def pnr (n:V3):V3:=if n=v0 then (((0:Int):Rat),((0:Int):Rat),((1:Int):Rat)) else n
def nP (h:V4):V3:=(h.1,h.2.1,h.2.2.1)
theorem nP_eq (x y z w):nP (x,y,z,w)=(x,y,z):=rfl
theorem pnr_nz {n:V3} (h:n ≠ v0):pnr n=n:=if_neg h
attribute [go_sem] cells4_eq rawP_eq fP_eq
noncomputable def onP1 (f:V4→Prop × AV):List AV→Option (Prop × AV)
 | [x]=>(rawP x).map f
 | _=>none
theorem onP1_eq (f x):onP1 f [x]=(rawP x).map f:=rfl
theorem onP1_ok {fi:Nat} {f:V4→Prop × AV} (h:∀ a,(f a).1→CSpec P fi [(.agg [.opq (.frac (a.1)),.pad,.pad,.pad,.pad,.opq (.frac (a.2.1)),.pad,.pad,.pad,.pad,.opq (.frac (a.2.2.1)),.pad,.pad,.pad,.pad,.opq (.frac (a.2.2.2)),.pad,.pad,.pad,.pad])] (f a).2) (args p r) (he:onP1 f args=some (p,r)) (hp:p):CSpec P fi args r:=by
 unfold onP1 at he
 split at he
 · simp only [Option.map_eq_some_iff] at he
   obtain ⟨a,h1,h2⟩:=he
   have:=h a (by rw [h2]; exact hp)
   rw [h2] at this; rw [rawP_inv h1]; exact this
 · simp at he
attribute [go_sem] onP1_eq
theorem pnorm_spec (hP:PrgOk P) (h:V4) (hh:fP h FB):CSpec P 102 [(.agg [.opq (.frac (h.1)),.pad,.pad,.pad,.pad,.opq (.frac (h.2.1)),.pad,.pad,.pad,.pad,.opq (.frac (h.2.2.1)),.pad,.pad,.pad,.pad,.opq (.frac (h.2.2.2)),.pad,.pad,.pad,.pad])] (.agg [.opq (.frac ((pnr (nP h)).1)),.pad,.pad,.pad,.pad,.opq (.frac ((pnr (nP h)).2.1)),.pad,.pad,.pad,.pad,.opq (.frac ((pnr (nP h)).2.2)),.pad,.pad,.pad,.pad]):=by
 have HE:=Zt4_all hP TF hP.tF
 obtain ⟨a,b,c,d⟩:=h
 obtain ⟨a1,a2,a3,a4⟩:=hh
 simp only [nP_eq] at a1 a2 a3 ⊢
 have b0:((-9223372036854775808:Int)≤0∧(0:Int)≤9223372036854775807)=True:=eq_true (by decide)
 have b1:((-9223372036854775808:Int)≤1∧(1:Int)≤9223372036854775807)=True:=eq_true (by decide)
 refine CSpec_go (E:=⟨TF,Zt4⟩) (fn102 hP) HE hP.mix ?_
 by_cases hz:((a,b,c):V3)=v0
 · have hz':=decide_eq_true hz
   unfold pnr
   rw [if_pos hz]
   simp only [go_sem,hz',b0,b1,a1,a2,a3]
   exact fin_z
 · have hz':=decide_eq_false hz
   rw [pnr_nz hz]
   simp only [go_sem,hz',a1,a2,a3]
   exact fin_z
noncomputable def pnormS:List AV→Option (Prop × AV):=onP1 fun h=>(fP h FB,(.agg [.opq (.frac ((pnr (nP h)).1)),.pad,.pad,.pad,.pad,.opq (.frac ((pnr (nP h)).2.1)),.pad,.pad,.pad,.pad,.opq (.frac ((pnr (nP h)).2.2)),.pad,.pad,.pad,.pad]))
theorem pnormS_ok (hP:PrgOk P) (args p r):pnormS args=some (p,r)→p→CSpec P 102 args r:=onP1_ok (fun a h=>by exact pnorm_spec hP a h) args p r
attribute [go_sem] pnormS
noncomputable def Pt0:Nat→List AV→Option (Prop × AV):=addS Zt4 102 pnormS
theorem Pt0_all (hP:PrgOk P) (T) (hT:TyOk P T):EnvOk P ⟨T,Pt0⟩:=((Zt4_all hP T hT).add (pnormS_ok hP))
theorem Pt0_at (f a):Pt0 f a=(addS Zt4 102 pnormS) f a:=rfl
attribute [go_sem] Pt0_at
theorem pNorm_spec (hP:PrgOk P) (h:V4) (hh:fP h FB):CSpec P 70 [(.agg [.opq (.frac (h.1)),.pad,.pad,.pad,.pad,.opq (.frac (h.2.1)),.pad,.pad,.pad,.pad,.opq (.frac (h.2.2.1)),.pad,.pad,.pad,.pad,.opq (.frac (h.2.2.2)),.pad,.pad,.pad,.pad])] (.agg [.opq (.frac ((pnr (nP h)).1)),.pad,.pad,.pad,.pad,.opq (.frac ((pnr (nP h)).2.1)),.pad,.pad,.pad,.pad,.opq (.frac ((pnr (nP h)).2.2)),.pad,.pad,.pad,.pad]):=by
 have HE:=Pt0_all hP TF hP.tF
 obtain ⟨a1,a2,a3,a4⟩:=hh
 refine CSpec_go (E:=⟨TF,Pt0⟩) (fn70 hP) HE hP.mix ?_
 simp only [go_sem,a1,a2,a3,a4]
 exact fin_z
noncomputable def pNormS:List AV→Option (Prop × AV):=onP1 fun h=>(fP h FB,(.agg [.opq (.frac ((pnr (nP h)).1)),.pad,.pad,.pad,.pad,.opq (.frac ((pnr (nP h)).2.1)),.pad,.pad,.pad,.pad,.opq (.frac ((pnr (nP h)).2.2)),.pad,.pad,.pad,.pad]))
theorem pNormS_ok (hP:PrgOk P) (args p r):pNormS args=some (p,r)→p→CSpec P 70 args r:=onP1_ok (fun a h=>by exact pNorm_spec hP a h) args p r
theorem pOff_spec (hP:PrgOk P) (h:V4):CSpec P 73 [(.agg [.opq (.frac (h.1)),.pad,.pad,.pad,.pad,.opq (.frac (h.2.1)),.pad,.pad,.pad,.pad,.opq (.frac (h.2.2.1)),.pad,.pad,.pad,.pad,.opq (.frac (h.2.2.2)),.pad,.pad,.pad,.pad])] (.agg [.opq (.frac (h.2.2.2)),.pad,.pad,.pad,.pad]):=by
 have HE:=Pt0_all hP TF hP.tF
 refine CSpec_go (E:=⟨TF,Pt0⟩) (fn73 hP) HE hP.mix ?_
 simp only [go_sem]
 exact fin_z
noncomputable def pOffS:List AV→Option (Prop × AV):=onP1 fun h=>(True,(.agg [.opq (.frac (h.2.2.2)),.pad,.pad,.pad,.pad]))
theorem pOffS_ok (hP:PrgOk P) (args p r):pOffS args=some (p,r)→p→CSpec P 73 args r:=onP1_ok (fun a _=>by exact pOff_spec hP a) args p r
noncomputable def patV (h:V4) (p:V3):Rat:=qsub (qdt (pnr (nP h)) p) h.2.2.2
theorem pAt_spec (hP:PrgOk P) (h:V4) (p:V3) (hh:fP h 16777216) (hp:fV p 67108864):CSpec P 98 [(.agg [.opq (.frac (h.1)),.pad,.pad,.pad,.pad,.opq (.frac (h.2.1)),.pad,.pad,.pad,.pad,.opq (.frac (h.2.2.1)),.pad,.pad,.pad,.pad,.opq (.frac (h.2.2.2)),.pad,.pad,.pad,.pad]),(.agg [.opq (.frac (p.1)),.pad,.pad,.pad,.pad,.opq (.frac (p.2.1)),.pad,.pad,.pad,.pad,.opq (.frac (p.2.2)),.pad,.pad,.pad,.pad])] (.agg [.opq (.frac (patV h p)),.pad,.pad,.pad,.pad]):=by
 have HE:=Pt0_all hP TF hP.tF
 have f1:fV (pnr (nP h)) 16777216:=by
  unfold pnr; split
  · exact ⟨Nat.le_trans (fl_i64 (by decide) (by decide)) (by decide),Nat.le_trans (fl_i64 (by decide) (by decide)) (by decide),Nat.le_trans (fl_i64 (by decide) (by decide)) (by decide)⟩
  · exact ⟨hh.1,hh.2.1,hh.2.2.1⟩
 have f4:=Nat.le_trans (qdt_fl f1 hp) (show _≤FB by decide)
 have f5:=Nat.le_trans hh.2.2.2 (show _≤FB by decide)
 obtain ⟨n1,n2,n3⟩:=fV_mono f1 (show _≤67108864 by decide)
 obtain ⟨p1,p2,p3⟩:=hp
 unfold patV
 refine CSpec_go (E:=⟨TF,Pt0⟩) (fn98 hP) HE hP.mix ?_
 obtain ⟨m,hm⟩:∃ m,pnr (nP h)=m:=⟨_,rfl⟩
 rw [hm] at n1 n2 n3 f4
 have f4':fl (qdt (m.1,m.2.1,m.2.2) (p.1,p.2.1,p.2.2))≤FB:=f4
 have hm':pnr (nP (h.1,h.2.1,h.2.2.1,h.2.2.2))=m:=hm
 obtain ⟨h1,h2,h3,h4⟩:=hh
 have h1':=Nat.le_trans h1 (show _≤FB by decide)
 have h2':=Nat.le_trans h2 (show _≤FB by decide)
 have h3':=Nat.le_trans h3 (show _≤FB by decide)
 simp only [go_sem,hm',n1,n2,n3,p1,p2,p3,f4',f5,h1',h2',h3']
 exact fin_z
noncomputable def pAtS:List AV→Option (Prop × AV)
 | [x,y]=>(rawP x).bind fun h=>(rawV y).map fun p=>(fP h 16777216∧fV p 67108864,(.agg [.opq (.frac (patV h p)),.pad,.pad,.pad,.pad]))
 | _=>none
theorem pAtS_eq (x y):pAtS [x,y]=(rawP x).bind fun h=>(rawV y).map fun p=>(fP h 16777216∧fV p 67108864,(.agg [.opq (.frac (patV h p)),.pad,.pad,.pad,.pad])):=rfl
theorem pAtS_ok (hP:PrgOk P) (args p r) (he:pAtS args=some (p,r)) (hp:p):CSpec P 98 args r:=by
 unfold pAtS at he
 split at he
 · simp only [Option.bind_eq_some_iff,Option.map_eq_some_iff,Prod.mk.injEq] at he
   obtain ⟨h,h1,p,h2,rfl,rfl⟩:=he
   rw [rawP_inv h1,rawV_inv h2]
   exact pAt_spec hP h p hp.1 hp.2
 · simp at he
attribute [go_sem] pNormS pOffS pAtS_eq
noncomputable def Pt1:Nat→List AV→Option (Prop × AV):=addS (addS (addS Pt0 70 pNormS) 73 pOffS) 98 pAtS
theorem Pt1_all (hP:PrgOk P) (T) (hT:TyOk P T):EnvOk P ⟨T,Pt1⟩:=((((Pt0_all hP T hT).add (pNormS_ok hP)).add (pOffS_ok hP)).add (pAtS_ok hP))
theorem Pt1_at (f a):Pt1 f a=(addS (addS (addS Pt0 70 pNormS) 73 pOffS) 98 pAtS) f a:=rfl
attribute [go_sem] Pt1_at
abbrev LN:=V3 × V3
def cells6:List AV→Option LN
 | [.opq (.frac (x)),.pad,.pad,.pad,.pad,.opq (.frac (y)),.pad,.pad,.pad,.pad,.opq (.frac (z)),.pad,.pad,.pad,.pad,.opq (.frac (u)),.pad,.pad,.pad,.pad,.opq (.frac (v)),.pad,.pad,.pad,.pad,.opq (.frac (w)),.pad,.pad,.pad,.pad]=>some ((x,y,z),(u,v,w))
 | _=>none
theorem cells6_eq (x y z u v w):cells6 [.opq (.frac (x)),.pad,.pad,.pad,.pad,.opq (.frac (y)),.pad,.pad,.pad,.pad,.opq (.frac (z)),.pad,.pad,.pad,.pad,.opq (.frac (u)),.pad,.pad,.pad,.pad,.opq (.frac (v)),.pad,.pad,.pad,.pad,.opq (.frac (w)),.pad,.pad,.pad,.pad]=some ((x,y,z),(u,v,w)):=rfl
theorem cells6_inv {A:List AV} {l:LN} (h:cells6 A=some l):A=[.opq (.frac (l.1.1)),.pad,.pad,.pad,.pad,.opq (.frac (l.1.2.1)),.pad,.pad,.pad,.pad,.opq (.frac (l.1.2.2)),.pad,.pad,.pad,.pad,.opq (.frac (l.2.1)),.pad,.pad,.pad,.pad,.opq (.frac (l.2.2.1)),.pad,.pad,.pad,.pad,.opq (.frac (l.2.2.2)),.pad,.pad,.pad,.pad]:=by
 unfold cells6 at h
 split at h
 · simp only [Option.some.injEq] at h; subst h; rfl
 · simp at h
def rawLn:AV→Option LN
 | .agg A=>cells6 A
 | _=>none
theorem rawLn_eq (A):rawLn (.agg A)=cells6 A:=rfl
theorem rawLn_inv {v:AV} {l:LN} (h:rawLn v=some l):v=(.agg [.opq (.frac (l.1.1)),.pad,.pad,.pad,.pad,.opq (.frac (l.1.2.1)),.pad,.pad,.pad,.pad,.opq (.frac (l.1.2.2)),.pad,.pad,.pad,.pad,.opq (.frac (l.2.1)),.pad,.pad,.pad,.pad,.opq (.frac (l.2.2.1)),.pad,.pad,.pad,.pad,.opq (.frac (l.2.2.2)),.pad,.pad,.pad,.pad]):=by
 unfold rawLn at h
 split at h
 · rw [cells6_inv h]
 · simp at h
attribute [go_sem] cells6_eq rawLn_eq
noncomputable def lnM (p d:V3):LN:=if d=v0 then (v0,v0) else (lnP p (nrm d),nrm d)
def lnE (d:V3):Int:=if d=v0 then 2 else 0
theorem nrm_fV {d:V3} {n:Nat} (h:fV d n):fV (nrm d) (n+(1+n+n+n)):=by
 have k:=dir_fV h
 unfold nrm
 split
 · exact ⟨fl_qneg k.1,fl_qneg k.2.1,fl_qneg k.2.2⟩
 · exact k
theorem lMake_spec (hP:PrgOk P) (p d:V3) (hp:fV p 1048576) (hd:fV d 1048576):CSpec P 11 [(.agg [.opq (.frac (p.1)),.pad,.pad,.pad,.pad,.opq (.frac (p.2.1)),.pad,.pad,.pad,.pad,.opq (.frac (p.2.2)),.pad,.pad,.pad,.pad]),(.agg [.opq (.frac (d.1)),.pad,.pad,.pad,.pad,.opq (.frac (d.2.1)),.pad,.pad,.pad,.pad,.opq (.frac (d.2.2)),.pad,.pad,.pad,.pad])] (.tup [(.agg [.opq (.frac ((lnM p d).1.1)),.pad,.pad,.pad,.pad,.opq (.frac ((lnM p d).1.2.1)),.pad,.pad,.pad,.pad,.opq (.frac ((lnM p d).1.2.2)),.pad,.pad,.pad,.pad,.opq (.frac ((lnM p d).2.1)),.pad,.pad,.pad,.pad,.opq (.frac ((lnM p d).2.2.1)),.pad,.pad,.pad,.pad,.opq (.frac ((lnM p d).2.2.2)),.pad,.pad,.pad,.pad]),.int .i64 (lnE d)]):=by
 have HE:=Pt1_all hP TF hP.tF
 unfold lnM lnE
 obtain ⟨D1,D2,D3⟩:=fV_mono hd (show _≤FB by decide)
 refine CSpec_go (E:=⟨TF,Pt1⟩) (fn11 hP) HE hP.mix ?_
 by_cases hz:d=v0
 · have hz':decide (((d.1,d.2.1,d.2.2):V3)=v0)=true:=decide_eq_true hz
   rw [if_pos hz,if_pos hz]
   simp only [go_sem,hz',D1,D2,D3]
   exact fin_z
 have hz':decide (((d.1,d.2.1,d.2.2):V3)=v0)=false:=decide_eq_false hz
 rw [if_neg hz,if_neg hz]
 have hen:=nrm_nz hz
 have fe:=nrm_fV hd
 obtain ⟨x1,x2,x3⟩:=fV_mono hd (show _≤268435456 by decide)
 have fa:=dir_fV hd
 obtain ⟨a,ha⟩:∃ a,dirA (d.1,d.2.1,d.2.2)=a:=⟨_,rfl⟩
 have hda:dirA d=a:=ha
 rw [hda] at fa
 obtain ⟨A1,A2,A3⟩:=fV_mono fa (show _≤FB by decide)
 have f0:fl 0≤FB:=fl_zero _
 obtain ⟨P1,P2,P3⟩:=fV_mono hp (show _≤FB by decide)
 obtain ⟨Q1,Q2,Q3⟩:=fV_mono hp (show _≤67108864 by decide)
 by_cases hc:cmpV a v0<0
 · have hc':decide (cmpV (a.1,a.2.1,a.2.2) (0,0,0)<0)=true:=decide_eq_true hc
   have hn:nrm d=(qneg a.1,qneg a.2.1,qneg a.2.2):=by unfold nrm; rw [hda,if_pos hc]; rfl
   obtain ⟨e,he⟩:∃ e:V3,(qneg a.1,qneg a.2.1,qneg a.2.2)=e:=⟨_,rfl⟩
   have e1:qneg a.1=e.1:=congrArg (·.1) he
   have e2:qneg a.2.1=e.2.1:=congrArg (·.2.1) he
   have e3:qneg a.2.2=e.2.2:=congrArg (·.2.2) he
   rw [hn,he] at fe hen ⊢
   obtain ⟨E1,E2,E3⟩:=fV_mono fe (show _≤FB by decide)
   obtain ⟨F1,F2,F3⟩:=fV_mono fe (show _≤67108864 by decide)
   have g1:=qdt_fl (a:=p) (b:=e) hp fe
   have g2:=qdt_fl (a:=e) (b:=e) fe fe
   have hq:qdt e e ≠ 0:=by rw [qdt_vdt]; exact dt_self hen
   have hq':(qdt ((e).1,(e).2.1,(e).2.2) ((e).1,(e).2.1,(e).2.2)=0)=False:=eq_false hq
   have g1':fl (qdt (p.1,p.2.1,p.2.2) ((e).1,(e).2.1,(e).2.2))≤FB:=Nat.le_trans g1 (by decide)
   have g2':fl (qdt ((e).1,(e).2.1,(e).2.2) ((e).1,(e).2.1,(e).2.2))≤FB:=Nat.le_trans g2 (by decide)
   obtain ⟨t,ht⟩:∃ t,qdiv (qdt (p.1,p.2.1,p.2.2) ((e).1,(e).2.1,(e).2.2)) (qdt ((e).1,(e).2.1,(e).2.2) ((e).1,(e).2.1,(e).2.2))=t:=⟨_,rfl⟩
   have ft:=fl_qdiv g1 g2
   have ht':lnT p e=t:=ht
   rw [show qdiv (qdt p e) (qdt e e)=t from ht] at ft
   have ft':fl t≤FB:=Nat.le_trans ft (by decide)
   have m1:=Nat.le_trans (fl_qmul ft fe.1) (show _≤FB by decide)
   have m2:=Nat.le_trans (fl_qmul ft fe.2.1) (show _≤FB by decide)
   have m3:=Nat.le_trans (fl_qmul ft fe.2.2) (show _≤FB by decide)
   unfold lnP
   rw [ht']
   simp only [go_sem,hz',D1,D2,D3,x1,x2,x3,ha,A1,A2,A3,f0,E1,E2,E3,F1,F2,F3,P1,P2,P3,Q1,Q2,Q3,hq',g1',g2',ht,ft',m1,m2,m3,hc',e1,e2,e3]
   exact fin_z
 · have hc':decide (cmpV (a.1,a.2.1,a.2.2) (0,0,0)<0)=false:=decide_eq_false hc
   have hn:nrm d=a:=by unfold nrm; rw [hda,if_neg hc]
   rw [hn] at fe hen ⊢
   obtain ⟨E1,E2,E3⟩:=fV_mono fe (show _≤FB by decide)
   obtain ⟨F1,F2,F3⟩:=fV_mono fe (show _≤67108864 by decide)
   have g1:=qdt_fl (a:=p) (b:=a) hp fe
   have g2:=qdt_fl (a:=a) (b:=a) fe fe
   have hq:qdt a a ≠ 0:=by rw [qdt_vdt]; exact dt_self hen
   have hq':(qdt ((a).1,(a).2.1,(a).2.2) ((a).1,(a).2.1,(a).2.2)=0)=False:=eq_false hq
   have g1':fl (qdt (p.1,p.2.1,p.2.2) ((a).1,(a).2.1,(a).2.2))≤FB:=Nat.le_trans g1 (by decide)
   have g2':fl (qdt ((a).1,(a).2.1,(a).2.2) ((a).1,(a).2.1,(a).2.2))≤FB:=Nat.le_trans g2 (by decide)
   obtain ⟨t,ht⟩:∃ t,qdiv (qdt (p.1,p.2.1,p.2.2) ((a).1,(a).2.1,(a).2.2)) (qdt ((a).1,(a).2.1,(a).2.2) ((a).1,(a).2.1,(a).2.2))=t:=⟨_,rfl⟩
   have ft:=fl_qdiv g1 g2
   have ht':lnT p a=t:=ht
   rw [show qdiv (qdt p a) (qdt a a)=t from ht] at ft
   have ft':fl t≤FB:=Nat.le_trans ft (by decide)
   have m1:=Nat.le_trans (fl_qmul ft fe.1) (show _≤FB by decide)
   have m2:=Nat.le_trans (fl_qmul ft fe.2.1) (show _≤FB by decide)
   have m3:=Nat.le_trans (fl_qmul ft fe.2.2) (show _≤FB by decide)
   unfold lnP
   rw [ht']
   simp only [go_sem,hz',D1,D2,D3,x1,x2,x3,ha,A1,A2,A3,f0,E1,E2,E3,F1,F2,F3,P1,P2,P3,Q1,Q2,Q3,hq',g1',g2',ht,ft',m1,m2,m3,hc']
   exact fin_z
noncomputable def lMakeS:List AV→Option (Prop × AV):=onV2 fun p d=>(fV p 1048576∧fV d 1048576,.tup [(.agg [.opq (.frac ((lnM p d).1.1)),.pad,.pad,.pad,.pad,.opq (.frac ((lnM p d).1.2.1)),.pad,.pad,.pad,.pad,.opq (.frac ((lnM p d).1.2.2)),.pad,.pad,.pad,.pad,.opq (.frac ((lnM p d).2.1)),.pad,.pad,.pad,.pad,.opq (.frac ((lnM p d).2.2.1)),.pad,.pad,.pad,.pad,.opq (.frac ((lnM p d).2.2.2)),.pad,.pad,.pad,.pad]),.int .i64 (lnE d)])
theorem lMakeS_ok (hP:PrgOk P) (args p r):lMakeS args=some (p,r)→p→CSpec P 11 args r:=onV2_ok (fun a b h=>by exact lMake_spec hP a b h.1 h.2) args p r
attribute [go_sem] lMakeS
noncomputable def Pt2:Nat→List AV→Option (Prop × AV):=addS Pt1 11 lMakeS
theorem Pt2_all (hP:PrgOk P) (T) (hT:TyOk P T):EnvOk P ⟨T,Pt2⟩:=((Pt1_all hP T hT).add (lMakeS_ok hP))
theorem Pt2_at (f a):Pt2 f a=(addS Pt1 11 lMakeS) f a:=rfl
attribute [go_sem] Pt2_at
noncomputable def vsbq (q p:V3):V3:=(qsub q.1 p.1,qsub q.2.1 p.2.1,qsub q.2.2 p.2.2)
noncomputable def onN1 (f:LN→Prop × AV):List AV→Option (Prop × AV)
 | [x]=>(rawLn x).map f
 | _=>none
theorem onN1_eq (f x):onN1 f [x]=(rawLn x).map f:=rfl
theorem onN1_ok {fi:Nat} {f:LN→Prop × AV} (h:∀ l,(f l).1→CSpec P fi [(.agg [.opq (.frac (l.1.1)),.pad,.pad,.pad,.pad,.opq (.frac (l.1.2.1)),.pad,.pad,.pad,.pad,.opq (.frac (l.1.2.2)),.pad,.pad,.pad,.pad,.opq (.frac (l.2.1)),.pad,.pad,.pad,.pad,.opq (.frac (l.2.2.1)),.pad,.pad,.pad,.pad,.opq (.frac (l.2.2.2)),.pad,.pad,.pad,.pad])] (f l).2) (args p r) (he:onN1 f args=some (p,r)) (hp:p):CSpec P fi args r:=by
 unfold onN1 at he
 split at he
 · simp only [Option.map_eq_some_iff] at he
   obtain ⟨a,h1,h2⟩:=he
   have:=h a (by rw [h2]; exact hp)
   rw [h2] at this; rw [rawLn_inv h1]; exact this
 · simp at he
attribute [go_sem] onN1_eq
noncomputable def ldr (d:V3):V3:=if d=v0 then (((1:Int):Rat),((0:Int):Rat),((0:Int):Rat)) else d
theorem ldr_nz {n:V3} (h:n ≠ v0):ldr n=n:=if_neg h
theorem ldr_fV {d:V3} {n:Nat} (h:fV d n) (hn:64≤n):fV (ldr d) n:=by
 unfold ldr; split
 · exact ⟨Nat.le_trans (fl_i64 (by decide) (by decide)) hn,Nat.le_trans (fl_i64 (by decide) (by decide)) hn,Nat.le_trans (fl_i64 (by decide) (by decide)) hn⟩
 · exact h
theorem lPoint_spec (hP:PrgOk P) (l:LN):CSpec P 32 [(.agg [.opq (.frac (l.1.1)),.pad,.pad,.pad,.pad,.opq (.frac (l.1.2.1)),.pad,.pad,.pad,.pad,.opq (.frac (l.1.2.2)),.pad,.pad,.pad,.pad,.opq (.frac (l.2.1)),.pad,.pad,.pad,.pad,.opq (.frac (l.2.2.1)),.pad,.pad,.pad,.pad,.opq (.frac (l.2.2.2)),.pad,.pad,.pad,.pad])] (.agg [.opq (.frac (l.1.1)),.pad,.pad,.pad,.pad,.opq (.frac (l.1.2.1)),.pad,.pad,.pad,.pad,.opq (.frac (l.1.2.2)),.pad,.pad,.pad,.pad]):=by
 have HE:=Pt2_all hP TF hP.tF
 refine CSpec_go (E:=⟨TF,Pt2⟩) (fn32 hP) HE hP.mix ?_
 simp only [go_sem]
 exact fin_z
noncomputable def lPointS:List AV→Option (Prop × AV):=onN1 fun l=>(True,(.agg [.opq (.frac (l.1.1)),.pad,.pad,.pad,.pad,.opq (.frac (l.1.2.1)),.pad,.pad,.pad,.pad,.opq (.frac (l.1.2.2)),.pad,.pad,.pad,.pad]))
theorem lPointS_ok (hP:PrgOk P) (args p r):lPointS args=some (p,r)→p→CSpec P 32 args r:=onN1_ok (fun l _=>by exact lPoint_spec hP l) args p r
theorem lDir_spec (hP:PrgOk P) (l:LN) (hl:fV l.2 FB):CSpec P 27 [(.agg [.opq (.frac (l.1.1)),.pad,.pad,.pad,.pad,.opq (.frac (l.1.2.1)),.pad,.pad,.pad,.pad,.opq (.frac (l.1.2.2)),.pad,.pad,.pad,.pad,.opq (.frac (l.2.1)),.pad,.pad,.pad,.pad,.opq (.frac (l.2.2.1)),.pad,.pad,.pad,.pad,.opq (.frac (l.2.2.2)),.pad,.pad,.pad,.pad])] (.agg [.opq (.frac ((ldr l.2).1)),.pad,.pad,.pad,.pad,.opq (.frac ((ldr l.2).2.1)),.pad,.pad,.pad,.pad,.opq (.frac ((ldr l.2).2.2)),.pad,.pad,.pad,.pad]):=by
 have HE:=Pt2_all hP TF hP.tF
 obtain ⟨⟨p1,p2,p3⟩,a,b,c⟩:=l
 obtain ⟨a1,a2,a3⟩:=hl
 simp only [] at a1 a2 a3 ⊢
 have b0:((-9223372036854775808:Int)≤0∧(0:Int)≤9223372036854775807)=True:=eq_true (by decide)
 have b1:((-9223372036854775808:Int)≤1∧(1:Int)≤9223372036854775807)=True:=eq_true (by decide)
 refine CSpec_go (E:=⟨TF,Pt2⟩) (fn27 hP) HE hP.mix ?_
 by_cases hz:((a,b,c):V3)=v0
 · have hz':=decide_eq_true hz
   unfold ldr
   rw [if_pos hz]
   simp only [go_sem,hz',b0,b1,a1,a2,a3]
   exact fin_z
 · have hz':=decide_eq_false hz
   rw [ldr_nz hz]
   simp only [go_sem,hz',a1,a2,a3]
   exact fin_z
noncomputable def lDirS:List AV→Option (Prop × AV):=onN1 fun l=>(fV l.2 FB,(.agg [.opq (.frac ((ldr l.2).1)),.pad,.pad,.pad,.pad,.opq (.frac ((ldr l.2).2.1)),.pad,.pad,.pad,.pad,.opq (.frac ((ldr l.2).2.2)),.pad,.pad,.pad,.pad]))
theorem lDirS_ok (hP:PrgOk P) (args p r):lDirS args=some (p,r)→p→CSpec P 27 args r:=onN1_ok (fun l h=>by exact lDir_spec hP l h) args p r
attribute [go_sem] lPointS lDirS
noncomputable def Pt3:Nat→List AV→Option (Prop × AV):=addS (addS Pt2 32 lPointS) 27 lDirS
theorem Pt3_all (hP:PrgOk P) (T) (hT:TyOk P T):EnvOk P ⟨T,Pt3⟩:=(((Pt2_all hP T hT).add (lPointS_ok hP)).add (lDirS_ok hP))
theorem Pt3_at (f a):Pt3 f a=(addS (addS Pt2 32 lPointS) 27 lDirS) f a:=rfl
attribute [go_sem] Pt3_at
theorem lThr_spec (hP:PrgOk P) (p q:V3) (hp:fV p 262144) (hq:fV q 262144):CSpec P 13 [(.agg [.opq (.frac (p.1)),.pad,.pad,.pad,.pad,.opq (.frac (p.2.1)),.pad,.pad,.pad,.pad,.opq (.frac (p.2.2)),.pad,.pad,.pad,.pad]),(.agg [.opq (.frac (q.1)),.pad,.pad,.pad,.pad,.opq (.frac (q.2.1)),.pad,.pad,.pad,.pad,.opq (.frac (q.2.2)),.pad,.pad,.pad,.pad])] (.tup [(.agg [.opq (.frac ((lnM p (vsbq q p)).1.1)),.pad,.pad,.pad,.pad,.opq (.frac ((lnM p (vsbq q p)).1.2.1)),.pad,.pad,.pad,.pad,.opq (.frac ((lnM p (vsbq q p)).1.2.2)),.pad,.pad,.pad,.pad,.opq (.frac ((lnM p (vsbq q p)).2.1)),.pad,.pad,.pad,.pad,.opq (.frac ((lnM p (vsbq q p)).2.2.1)),.pad,.pad,.pad,.pad,.opq (.frac ((lnM p (vsbq q p)).2.2.2)),.pad,.pad,.pad,.pad]),.int .i64 (lnE (vsbq q p))]):=by
 have HE:=Pt3_all hP TF hP.tF
 obtain ⟨p1,p2,p3⟩:=fV_mono hp (show _≤FB by decide)
 obtain ⟨q1,q2,q3⟩:=fV_mono hq (show _≤FB by decide)
 obtain ⟨P1,P2,P3⟩:=fV_mono hp (show _≤1048576 by decide)
 have s1:=Nat.le_trans (fl_qsub hq.1 hp.1) (show _≤1048576 by decide)
 have s2:=Nat.le_trans (fl_qsub hq.2.1 hp.2.1) (show _≤1048576 by decide)
 have s3:=Nat.le_trans (fl_qsub hq.2.2 hp.2.2) (show _≤1048576 by decide)
 unfold vsbq
 refine CSpec_go (E:=⟨TF,Pt3⟩) (fn13 hP) HE hP.mix ?_
 simp only [go_sem,p1,p2,p3,q1,q2,q3,P1,P2,P3,s1,s2,s3]
 exact fin_z
end Go.Proofs.YtmahhmdeocnlgaaGreatDoor.AM
