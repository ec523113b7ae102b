/- The laws of lines: makes, meets, lines. -/
import Derived.Test.YtapddfjimhohcaaB6
namespace Go.Proofs.Ytapddfjimhohcaa.AM
set_option linter.all false
set_option autoImplicit true
set_option relaxedAutoImplicit true
open Go Go.Proofs
set_option maxRecDepth 100000
set_option maxHeartbeats 8000000
set_option linter.unusedSimpArgs false
variable {P:Program}
end Go.Proofs.Ytapddfjimhohcaa.AM
/- The laws of sides: five points. -/
namespace Go.Proofs.Ytapddfjimhohcaa.AM
set_option linter.all false
set_option autoImplicit true
set_option relaxedAutoImplicit true
open Go Go.Proofs
set_option maxRecDepth 100000
set_option maxHeartbeats 16000000
set_option linter.unusedSimpArgs false
variable {P:Program}
noncomputable def Ku0:Nat→List AV→Option (Prop × AV):=Kt9
theorem Ku0_all (hP:PrgOk P) (T) (hT:TyOk P T):EnvOk P ⟨T,Ku0⟩:=(Kt9_all hP T hT)
attribute [go_sem] Ku0
theorem wIn_is {d e:Nat} {p:V3} {l:List V3} {w:Int} (h:Rk (lessH l) d) (h':Rk (lessH (p::l)) e) (hw:wCl d e p l=w):wIn p l=w:=(wIn_C h h').trans hw
theorem btB_is {d e:Nat} {a p b:V3} {w:Bool} (h:Rk (lessH [a,b]) d) (h':Rk (lessH [p,a,b]) e) (hw:(wCl d e p [a,b] != -1)=w):btB a p b=w:=by unfold btB; rw [wIn_C h h',hw]
theorem wakes8_spec (hP:PrgOk P):CSpec P 14 [] (.bool true):=by
 have HE:=Ku0_all hP TF hP.tF
 have f0:=sm (x:=0) (by decide +kernel)
 have i0:=smi (n:=0) (by decide) (by decide)
 have i1:=smi (n:=1) (by decide) (by decide)
 have i2:=smi (n:=2) (by decide) (by decide)
 have i4:=smi (n:=4) (by decide) (by decide)
 have j0:fl (0:Rat)≤16384:=Nat.le_trans f0.1 (by decide)
 have j0':fl ((0:Int):Rat)≤16384:=Nat.le_trans i0.1.1 (by decide)
 have j1':fl ((1:Int):Rat)≤16384:=Nat.le_trans i1.1.1 (by decide)
 have j2':fl ((2:Int):Rat)≤16384:=Nat.le_trans i2.1.1 (by decide)
 have j4':fl ((4:Int):Rat)≤16384:=Nat.le_trans i4.1.1 (by decide)
 have k0:cmpQ (D2 ((0:Rat),(0:Rat),(0:Rat)) (((4:Int):Rat),((0:Int):Rat),((0:Int):Rat)) (((0:Int):Rat),((4:Int):Rat),((0:Int):Rat)) (((0:Int):Rat),((0:Int):Rat),((1:Int):Rat))) 0=1:=by decide +kernel
 have k1:wIn (((1:Int):Rat),((1:Int):Rat),((0:Int):Rat)) [((0:Rat),(0:Rat),(0:Rat)),(((4:Int):Rat),((0:Int):Rat),((0:Int):Rat)),(((0:Int):Rat),((4:Int):Rat),((0:Int):Rat))]=1:=wIn_is (d:=2) (e:=2) (by unfold Rk; decide +kernel) (by unfold Rk; decide +kernel) (by decide +kernel)
 have k2:wIn (((2:Int):Rat),((0:Int):Rat),((0:Int):Rat)) [((0:Rat),(0:Rat),(0:Rat)),(((4:Int):Rat),((0:Int):Rat),((0:Int):Rat)),(((0:Int):Rat),((4:Int):Rat),((0:Int):Rat))]=0:=wIn_is (d:=2) (e:=2) (by unfold Rk; decide +kernel) (by unfold Rk; decide +kernel) (by decide +kernel)
 have k3:wIn (((1:Int):Rat),((1:Int):Rat),((1:Int):Rat)) [((0:Rat),(0:Rat),(0:Rat)),(((4:Int):Rat),((0:Int):Rat),((0:Int):Rat)),(((0:Int):Rat),((4:Int):Rat),((0:Int):Rat))] = -1:=wIn_is (d:=2) (e:=3) (by unfold Rk; decide +kernel) (by unfold Rk; decide +kernel) (by decide +kernel)
 have k4:btB ((0:Rat),(0:Rat),(0:Rat)) (((1:Int):Rat),((0:Int):Rat),((0:Int):Rat)) (((4:Int):Rat),((0:Int):Rat),((0:Int):Rat))=true:=btB_is (d:=1) (e:=1) (by unfold Rk; decide +kernel) (by unfold Rk; decide +kernel) (by decide +kernel)
 refine CSpec_go (E:=⟨TF,Ku0⟩) (fn14 hP) HE hP.mix ?_
 simp only [go_sem,f0,i0,i1,i2,i4,j0,j0',j1',j2',j4',k0,k1,k2,k3,k4]
 exact .refl _
def wakes8S:List AV→Option (Prop × AV)
 | []=>some (True,.bool true)
 | _=>none
theorem wakes8S_ok (hP:PrgOk P) (args p r) (h:wakes8S args=some (p,r)) (hp:p):CSpec P 14 args r:=by
 unfold wakes8S at h
 split at h
 · simp only [Option.some.injEq,Prod.mk.injEq] at h
   obtain ⟨rfl,rfl⟩:=h
   exact wakes8_spec hP
 · simp at h
attribute [go_sem] wakes8S
noncomputable def Ku1:Nat→List AV→Option (Prop × AV):=addS Ku0 14 wakes8S
theorem Ku1_all (hP:PrgOk P) (T) (hT:TyOk P T):EnvOk P ⟨T,Ku1⟩:=((Ku0_all hP T hT).add (wakes8S_ok hP))
theorem Ku1_at (f a):Ku1 f a=(addS Ku0 14 wakes8S) f a:=rfl
attribute [go_sem] Ku1_at
theorem crB_t {a b c d:V3} (h:crN a b c d ≠ v0∧vdt (vsb c a) (crN a b c d)=0∧prt (vcr (vsb c a) (vsb d c)) (crN a b c d)∧prt (vcr (vsb c a) (vsb b a)) (crN a b c d)):crB a b c d=true:=by
 rw [crB_iff]; unfold CrE; exact .inr (.inr (.inr (.inr h)))
theorem crB_f {a b c d:V3} (h1:btB a c b=false) (h2:btB a d b=false) (h3:btB c a d=false) (h4:btB c b d=false) (h:crN a b c d=v0∨vdt (vsb c a) (crN a b c d) ≠ 0):crB a b c d=false:=by
 rw [Bool.eq_false_iff]
 intro k
 have:=(crB_2 (btF h1) (btF h2) (btF h3) (btF h4)).1 k
 rcases h with h|h
 · exact this.1 h
 · exact h this.2.1
theorem PredKnown_spec (hP:PrgOk P):CSpec P 3 [] (.bool true):=by
 have HE:=Ku1_all hP TF hP.tF
 have f0:=sm (x:=0) (by decide +kernel)
 have j0:fl (0:Rat)≤16384:=Nat.le_trans f0.1 (by decide)
 have q0:fl (0:Rat)≤524288:=Nat.le_trans f0.1 (by decide)
 have i0:=smi (n:=0) (by decide) (by decide)
 have j0':fl ((0:Int):Rat)≤16384∧fl ((0:Int):Rat)≤4096:=⟨Nat.le_trans i0.1.1 (by decide),Nat.le_trans (fl_i64 (n:=0) (by decide) (by decide)) (by decide)⟩
 have i1:=smi (n:=1) (by decide) (by decide)
 have j1':fl ((1:Int):Rat)≤16384∧fl ((1:Int):Rat)≤4096:=⟨Nat.le_trans i1.1.1 (by decide),Nat.le_trans (fl_i64 (n:=1) (by decide) (by decide)) (by decide)⟩
 have i2:=smi (n:=2) (by decide) (by decide)
 have j2':fl ((2:Int):Rat)≤16384∧fl ((2:Int):Rat)≤4096:=⟨Nat.le_trans i2.1.1 (by decide),Nat.le_trans (fl_i64 (n:=2) (by decide) (by decide)) (by decide)⟩
 have i3:=smi (n:=3) (by decide) (by decide)
 have j3':fl ((3:Int):Rat)≤16384∧fl ((3:Int):Rat)≤4096:=⟨Nat.le_trans i3.1.1 (by decide),Nat.le_trans (fl_i64 (n:=3) (by decide) (by decide)) (by decide)⟩
 have i5:=smi (n:=5) (by decide) (by decide)
 have j5':fl ((5:Int):Rat)≤16384∧fl ((5:Int):Rat)≤4096:=⟨Nat.le_trans i5.1.1 (by decide),Nat.le_trans (fl_i64 (n:=5) (by decide) (by decide)) (by decide)⟩
 have i7:=smi (n:=7) (by decide) (by decide)
 have j7':fl ((7:Int):Rat)≤16384∧fl ((7:Int):Rat)≤4096:=⟨Nat.le_trans i7.1.1 (by decide),Nat.le_trans (fl_i64 (n:=7) (by decide) (by decide)) (by decide)⟩
 have im1:=smi (n:=-1) (by decide) (by decide)
 have jm1':fl ((-1:Int):Rat)≤16384∧fl ((-1:Int):Rat)≤4096:=⟨Nat.le_trans im1.1.1 (by decide),Nat.le_trans (fl_i64 (n:=-1) (by decide) (by decide)) (by decide)⟩
 have g:fl (qneg ((0:Int):Rat))≤16384∧fl (qneg ((1:Int):Rat))≤16384:=⟨Nat.le_trans (fl_qneg i0.1.1) (by decide),Nat.le_trans (fl_qneg i1.1.1) (by decide)⟩
 have k1:cmpQ (D2 ((0:Rat),(0:Rat),(0:Rat)) (((1:Int):Rat),((0:Int):Rat),((0:Int):Rat)) (((0:Int):Rat),((1:Int):Rat),((0:Int):Rat)) (qneg ((0:Int):Rat),qneg ((0:Int):Rat),qneg ((1:Int):Rat))) 0 = -1:=by simp only [qneg_eq]; decide +kernel
 have k2:btB ((0:Rat),(0:Rat),(0:Rat)) (((1:Int):Rat),((1:Int):Rat),((1:Int):Rat)) (((2:Int):Rat),((2:Int):Rat),((2:Int):Rat))=true:=btB_is (d:=1) (e:=1) (by unfold Rk; decide +kernel) (by unfold Rk; decide +kernel) (by decide +kernel)
 have k3:btB ((0:Rat),(0:Rat),(0:Rat)) (((3:Int):Rat),((3:Int):Rat),((3:Int):Rat)) (((2:Int):Rat),((2:Int):Rat),((2:Int):Rat))=false:=btB_is (d:=1) (e:=1) (by unfold Rk; decide +kernel) (by unfold Rk; decide +kernel) (by decide +kernel)
 have k4:btB (((1:Int):Rat),((0:Int):Rat),((0:Int):Rat)) (((1:Int):Rat),((0:Int):Rat),((0:Int):Rat)) (((1:Int):Rat),((0:Int):Rat),((0:Int):Rat))=true:=btB_is (d:=0) (e:=0) (by unfold Rk; decide +kernel) (by unfold Rk; decide +kernel) (by decide +kernel)
 have k5:btB (((1:Int):Rat),((0:Int):Rat),((0:Int):Rat)) (((2:Int):Rat),((0:Int):Rat),((0:Int):Rat)) (((1:Int):Rat),((0:Int):Rat),((0:Int):Rat))=false:=btB_is (d:=0) (e:=1) (by unfold Rk; decide +kernel) (by unfold Rk; decide +kernel) (by decide +kernel)
 have k6:wIn (((1:Int):Rat),((0:Int):Rat),((0:Int):Rat)) [((0:Rat),(0:Rat),(0:Rat)),(((2:Int):Rat),((0:Int):Rat),((0:Int):Rat)),(((1:Int):Rat),((0:Int):Rat),((0:Int):Rat))]=1:=wIn_is (d:=1) (e:=1) (by unfold Rk; decide +kernel) (by unfold Rk; decide +kernel) (by decide +kernel)
 have k7:wIn (((2:Int):Rat),((0:Int):Rat),((0:Int):Rat)) [((0:Rat),(0:Rat),(0:Rat)),(((2:Int):Rat),((0:Int):Rat),((0:Int):Rat)),(((1:Int):Rat),((0:Int):Rat),((0:Int):Rat))]=0:=wIn_is (d:=1) (e:=1) (by unfold Rk; decide +kernel) (by unfold Rk; decide +kernel) (by decide +kernel)
 have k8:wIn (((3:Int):Rat),((0:Int):Rat),((0:Int):Rat)) [((0:Rat),(0:Rat),(0:Rat)),(((2:Int):Rat),((0:Int):Rat),((0:Int):Rat)),(((1:Int):Rat),((0:Int):Rat),((0:Int):Rat))] = -1:=wIn_is (d:=1) (e:=1) (by unfold Rk; decide +kernel) (by unfold Rk; decide +kernel) (by decide +kernel)
 have k9:wIn ((0:Rat),(0:Rat),(0:Rat)) [((0:Rat),(0:Rat),(0:Rat)),((0:Rat),(0:Rat),(0:Rat)),((0:Rat),(0:Rat),(0:Rat))]=1:=wIn_is (d:=0) (e:=0) (by unfold Rk; decide +kernel) (by unfold Rk; decide +kernel) (by decide +kernel)
 have k10:wIn (((1:Int):Rat),((0:Int):Rat),((0:Int):Rat)) [((0:Rat),(0:Rat),(0:Rat)),((0:Rat),(0:Rat),(0:Rat)),((0:Rat),(0:Rat),(0:Rat))] = -1:=wIn_is (d:=0) (e:=1) (by unfold Rk; decide +kernel) (by unfold Rk; decide +kernel) (by decide +kernel)
 have k11:wIn (((1:Int):Rat),((0:Int):Rat),((0:Int):Rat)) [((0:Rat),(0:Rat),(0:Rat)),((0:Rat),(0:Rat),(0:Rat)),(((2:Int):Rat),((0:Int):Rat),((0:Int):Rat)),(((2:Int):Rat),((0:Int):Rat),((0:Int):Rat))]=1:=wIn_is (d:=1) (e:=1) (by unfold Rk; decide +kernel) (by unfold Rk; decide +kernel) (by decide +kernel)
 have k12:dm [((0:Rat),(0:Rat),(0:Rat)),(((1:Int):Rat),((0:Int):Rat),((0:Int):Rat)),(((2:Int):Rat),((0:Int):Rat),((0:Int):Rat))]=1:=rkN_is (l:=lessH _) (by unfold Rk; decide +kernel)
 have k13:dm [((0:Rat),(0:Rat),(0:Rat)),(((1:Int):Rat),((0:Int):Rat),((0:Int):Rat)),(((0:Int):Rat),((0:Int):Rat),((1:Int):Rat))]=2:=rkN_is (l:=lessH _) (by unfold Rk; decide +kernel)
 have k14:cmpQ (D2 ((0:Rat),(0:Rat),(0:Rat)) (((1:Int):Rat),((0:Int):Rat),((0:Int):Rat)) (((2:Int):Rat),((0:Int):Rat),((0:Int):Rat)) (((0:Int):Rat),((0:Int):Rat),((1:Int):Rat))) 0=0:=by decide +kernel
 have k15:crB ((0:Rat),(0:Rat),(0:Rat)) (((2:Int):Rat),((0:Int):Rat),((0:Int):Rat)) (((1:Int):Rat),((-1:Int):Rat),((0:Int):Rat)) (((1:Int):Rat),((1:Int):Rat),((0:Int):Rat))=true:=crB_t (by unfold prt; decide +kernel)
 have k16:crB ((0:Rat),(0:Rat),(0:Rat)) (((1:Int):Rat),((0:Int):Rat),((0:Int):Rat)) (((2:Int):Rat),((0:Int):Rat),((0:Int):Rat)) (((3:Int):Rat),((0:Int):Rat),((0:Int):Rat))=false:=crB_f (btB_is (d:=1) (e:=1) (by unfold Rk; decide +kernel) (by unfold Rk; decide +kernel) (by decide +kernel)) (btB_is (d:=1) (e:=1) (by unfold Rk; decide +kernel) (by unfold Rk; decide +kernel) (by decide +kernel)) (btB_is (d:=1) (e:=1) (by unfold Rk; decide +kernel) (by unfold Rk; decide +kernel) (by decide +kernel)) (btB_is (d:=1) (e:=1) (by unfold Rk; decide +kernel) (by unfold Rk; decide +kernel) (by decide +kernel)) (.inl (by decide +kernel))
 have k17:crB ((0:Rat),(0:Rat),(0:Rat)) (((2:Int):Rat),((0:Int):Rat),((0:Int):Rat)) (((1:Int):Rat),((0:Int):Rat),((0:Int):Rat)) (((3:Int):Rat),((0:Int):Rat),((0:Int):Rat))=true:=crB_1 (.inl ((btB_iff ..).1 (btB_is (d:=1) (e:=1) (by unfold Rk; decide +kernel) (by unfold Rk; decide +kernel) (by decide +kernel))))
 have k18:crB ((0:Rat),(0:Rat),(0:Rat)) ((0:Rat),(0:Rat),(0:Rat)) ((0:Rat),(0:Rat),(0:Rat)) (((1:Int):Rat),((0:Int):Rat),((0:Int):Rat))=true:=crB_1 (.inl ((btB_iff ..).1 (btB_is (d:=0) (e:=0) (by unfold Rk; decide +kernel) (by unfold Rk; decide +kernel) (by decide +kernel))))
 have k19:crB ((0:Rat),(0:Rat),(0:Rat)) (((2:Int):Rat),((0:Int):Rat),((0:Int):Rat)) (((1:Int):Rat),((-1:Int):Rat),((1:Int):Rat)) (((1:Int):Rat),((1:Int):Rat),((1:Int):Rat))=false:=crB_f (btB_is (d:=1) (e:=2) (by unfold Rk; decide +kernel) (by unfold Rk; decide +kernel) (by decide +kernel)) (btB_is (d:=1) (e:=2) (by unfold Rk; decide +kernel) (by unfold Rk; decide +kernel) (by decide +kernel)) (btB_is (d:=1) (e:=2) (by unfold Rk; decide +kernel) (by unfold Rk; decide +kernel) (by decide +kernel)) (btB_is (d:=1) (e:=2) (by unfold Rk; decide +kernel) (by unfold Rk; decide +kernel) (by decide +kernel)) (.inr (by decide +kernel))
 have k20:anE (((0:Int):Rat),((0:Int):Rat),((1:Int):Rat)) (((1:Int):Rat),((0:Int):Rat),((0:Int):Rat)) (((0:Int):Rat),((1:Int):Rat),((0:Int):Rat)) (((-1:Int):Rat),((0:Int):Rat),((0:Int):Rat)) = -1:=by decide +kernel
 have k21:anE (((0:Int):Rat),((0:Int):Rat),((1:Int):Rat)) (((1:Int):Rat),((0:Int):Rat),((0:Int):Rat)) (((0:Int):Rat),((-1:Int):Rat),((0:Int):Rat)) (((0:Int):Rat),((1:Int):Rat),((5:Int):Rat))=1:=by decide +kernel
 have k22:anE (((0:Int):Rat),((0:Int):Rat),((1:Int):Rat)) (((1:Int):Rat),((0:Int):Rat),((0:Int):Rat)) (((1:Int):Rat),((0:Int):Rat),((7:Int):Rat)) (((2:Int):Rat),((0:Int):Rat),((0:Int):Rat))=0:=by decide +kernel
 have k23:anE (((0:Int):Rat),((0:Int):Rat),((1:Int):Rat)) (((1:Int):Rat),((0:Int):Rat),((0:Int):Rat)) (((0:Int):Rat),((0:Int):Rat),((3:Int):Rat)) (((1:Int):Rat),((0:Int):Rat),((0:Int):Rat))=0:=by decide +kernel
 have k24:anE ((0:Rat),(0:Rat),(0:Rat)) (((1:Int):Rat),((0:Int):Rat),((0:Int):Rat)) (((1:Int):Rat),((0:Int):Rat),((0:Int):Rat)) (((0:Int):Rat),((0:Int):Rat),((1:Int):Rat))=0:=by decide +kernel
 have k25:anE (((0:Int):Rat),((0:Int):Rat),((1:Int):Rat)) (((0:Int):Rat),((0:Int):Rat),((1:Int):Rat)) (((1:Int):Rat),((0:Int):Rat),((0:Int):Rat)) (((0:Int):Rat),((1:Int):Rat),((0:Int):Rat))=0:=by decide +kernel
 have k26:anE (((0:Int):Rat),((0:Int):Rat),((1:Int):Rat)) (((1:Int):Rat),((0:Int):Rat),((0:Int):Rat)) (((-1:Int):Rat),((0:Int):Rat),((0:Int):Rat)) (((-1:Int):Rat),((-1:Int):Rat),((0:Int):Rat)) = -1:=by decide +kernel
 refine CSpec_go (E:=⟨TF,Ku1⟩) (fn3 hP) HE hP.mix ?_
 simp only [go_sem,f0,j0,i0,i1,i2,i3,i5,i7,im1,j0',j1',j2',j3',j5',j7',jm1',g,k1,k2,k3,k4,k5,k6,k7,k8,k9,k10,k11,k12,k13,k14,k15,k16,k17,k18,k19,k20,k21,k22,k23,k24,k25,k26]
 exact .refl _
end Go.Proofs.Ytapddfjimhohcaa.AM
