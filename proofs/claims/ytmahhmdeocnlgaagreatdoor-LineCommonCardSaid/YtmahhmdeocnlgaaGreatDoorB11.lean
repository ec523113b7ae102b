/- Package plane: making. -/
import Derived.Test.YtmahhmdeocnlgaaGreatDoorB10
namespace Go.Proofs.YtmahhmdeocnlgaaGreatDoor.AM
set_option linter.all false
set_option autoImplicit true
set_option relaxedAutoImplicit true
open Go Go.Proofs
set_option maxRecDepth 100000
set_option maxHeartbeats 8000000
set_option linter.unusedSimpArgs false
variable {P:Program}
def wMulA:List AV→Option (Prop × AV):=onW2 fun a b=>(wl a≤34359738368∧wl b≤34359738368,.agg [.bool (decide (a*b<0)),.opq (.nat (a*b).natAbs),.pad])
theorem wMulA_ok (hP:PrgOk P) (args p r):wMulA args=some (p,r)→p→CSpec P 108 args r:=onW2_ok (fun a b h=>by exact (wMul_spec hP a b h.1 h.2).conv (CvL.conv (.wholeIn _ .nil))) args p r
attribute [go_sem] wMulA
noncomputable def Mt0:Nat→List AV→Option (Prop × AV):=addS Pt3 108 wMulA
theorem Mt0_all (hP:PrgOk P) (T) (hT:TyOk P T):EnvOk P ⟨T,Mt0⟩:=((Pt3_all hP T hT).add (wMulA_ok hP))
theorem Mt0_at (f a):Mt0 f a=(addS Pt3 108 wMulA) f a:=rfl
attribute [go_sem] Mt0_at
theorem p4_sg {h:V4} (hg:g4 h ≠ 0) (x:Rat):sg (decide (n4 h x<0)) ((n4 h x).natAbs / g4 h)=p4 h x:=by unfold p4 primZ; rw [if_neg hg]
theorem p4_sign {h:V4} (hg:g4 h ≠ 0) {x:Rat} (hd:x.den ∣ m4 h) (hx:n4 h x ∈ l4 h):(x=0 ↔ p4 h x=0)∧(x<0 ↔ p4 h x<0):=by
 have e:=p4_mul hg hd hx
 have hk:(0:Rat)<(m4 h:Rat) / (g4 h:Rat):=by
  rw [Rat.div_def]
  exact Rat.mul_pos (nat_pos' (Nat.pos_iff_ne_zero.1 (m4_pos h))) (Rat.inv_pos.2 (nat_pos' hg))
 generalize (m4 h:Rat) / (g4 h:Rat)=k at *
 generalize p4 h x=r at *
 have m1:0<x→0<k*x:=fun h=>Rat.mul_pos hk h
 have m2:x<0→k*x<0:=fun h=>by have:=Rat.mul_pos hk (show 0 < -x by grind); grind
 have c0:((r:Int):Rat)=0 ↔ r=0:=by rw [← Rat.intCast_zero]; exact Rat.intCast_inj
 have c1:((r:Int):Rat)<0 ↔ r<0:=by rw [← Rat.intCast_zero]; exact Rat.intCast_lt_intCast
 rw [← c0,← c1,e]
 rcases (show x<0∨x=0∨0<x by grind) with h|h|h
 · have:=m2 h; constructor<;>constructor<;>intro<;>grind
 · subst h; constructor<;>constructor<;>intro<;>grind
 · have:=m1 h; constructor<;>constructor<;>intro<;>grind
theorem plN_t {h:V4} (e:s4 h=true):plN h=(((-p4 h h.1:Int):Rat),((-p4 h h.2.1:Int):Rat),((-p4 h h.2.2.1:Int):Rat),((-p4 h h.2.2.2:Int):Rat)):=by unfold plN q4; simp [e]
theorem plN_f {h:V4} (e:s4 h=false):plN h=(((p4 h h.1:Int):Rat),((p4 h h.2.1:Int):Rat),((p4 h h.2.2.1:Int):Rat),((p4 h h.2.2.2:Int):Rat)):=by unfold plN q4; simp [e]
theorem sgn_0 (z:Int):(sgnZ z == 0)=decide (z=0):=by
 unfold sgnZ; split
 · simp_all
 · split<;>simp_all
theorem pMake_spec (hP:PrgOk P) (h:V4) (hn:nP h ≠ v0) (hb:fP h 4194304):CSpec P 52 [(.agg [.opq (.frac (h.1)),.pad,.pad,.pad,.pad,.opq (.frac (h.2.1)),.pad,.pad,.pad,.pad,.opq (.frac (h.2.2.1)),.pad,.pad,.pad,.pad]),(.agg [.opq (.frac (h.2.2.2)),.pad,.pad,.pad,.pad])] (.tup [(.agg [.opq (.frac ((plN h).1)),.pad,.pad,.pad,.pad,.opq (.frac ((plN h).2.1)),.pad,.pad,.pad,.pad,.opq (.frac ((plN h).2.2.1)),.pad,.pad,.pad,.pad,.opq (.frac ((plN h).2.2.2)),.pad,.pad,.pad,.pad]),.int .i64 0]):=by
 have HE:=Mt0_all hP TF hP.tF
 obtain ⟨x,y,z,w⟩:=h
 obtain ⟨h1,h2,h3,h4⟩:=hb
 have hn':decide (((x,y,z):V3)=v0)=false:=decide_eq_false hn
 simp only [] at h1 h2 h3 h4 ⊢
 have w1:IntKind.i64.wrap (0+1)=1:=rfl
 have w2:IntKind.i64.wrap (1+1)=2:=rfl
 have n1:(1:Int).toNat=1:=rfl
 have le1:((0:Int)≤1)=True:=eq_true (by decide)
 have w3:IntKind.i64.wrap (2+1)=3:=rfl
 have n2:(2:Int).toNat=2:=rfl
 have le2:((0:Int)≤2)=True:=eq_true (by decide)
 have w4:IntKind.i64.wrap (3+1)=4:=rfl
 have n3:(3:Int).toNat=3:=rfl
 have le3:((0:Int)≤3)=True:=eq_true (by decide)
 have b1:blen 1≤68719476736:=by decide
 obtain ⟨m1,hm1⟩:∃ m,1*(x.den / Nat.gcd 1 x.den)=m:=⟨_,rfl⟩
 obtain ⟨m2,hm2⟩:∃ m,m1*(y.den / Nat.gcd m1 y.den)=m:=⟨_,rfl⟩
 obtain ⟨m3,hm3⟩:∃ m,m2*(z.den / Nat.gcd m2 z.den)=m:=⟨_,rfl⟩
 obtain ⟨M,hm4⟩:∃ m,m3*(w.den / Nat.gcd m3 w.den)=m:=⟨_,rfl⟩
 have hmV:m4 (x,y,z,w)=M:=by rw [← hm4,← hm3,← hm2,← hm1]; rfl
 have d1:=fl_den h1
 have d2:=fl_den h2
 have d3:=fl_den h3
 have d4:=fl_den h4
 have c1:blen m1≤1+4194304:=by rw [← hm1]; exact lcmD_blen (show blen 1≤1 by decide) d1
 have c2:blen m2≤1+4194304+4194304:=by rw [← hm2]; exact lcmD_blen c1 d2
 have c3:blen m3≤1+4194304+4194304+4194304:=by rw [← hm3]; exact lcmD_blen c2 d3
 have c4:blen M≤1+4194304+4194304+4194304+4194304:=by rw [← hm4]; exact lcmD_blen c3 d4
 have e1:blen x.den≤34359738368:=by omega
 have f1:blen x.den≤68719476736:=by omega
 have k1:blen m1≤68719476736:=by omega
 have gc1:blen (Nat.gcd 1 x.den)≤68719476736:=gcd_blen b1 f1
 have z1:=gcd_ne (m:=1) x.den_pos
 have q1:blen (x.den / Nat.gcd 1 x.den)≤68719476736:=blen_le_of (Nat.div_le_self _ _) f1
 have e2:blen y.den≤34359738368:=by omega
 have f2:blen y.den≤68719476736:=by omega
 have k2:blen m2≤68719476736:=by omega
 have gc2:blen (Nat.gcd m1 y.den)≤68719476736:=gcd_blen k1 f2
 have z2:=gcd_ne (m:=m1) y.den_pos
 have q2:blen (y.den / Nat.gcd m1 y.den)≤68719476736:=blen_le_of (Nat.div_le_self _ _) f2
 have e3:blen z.den≤34359738368:=by omega
 have f3:blen z.den≤68719476736:=by omega
 have k3:blen m3≤68719476736:=by omega
 have gc3:blen (Nat.gcd m2 z.den)≤68719476736:=gcd_blen k2 f3
 have z3:=gcd_ne (m:=m2) z.den_pos
 have q3:blen (z.den / Nat.gcd m2 z.den)≤68719476736:=blen_le_of (Nat.div_le_self _ _) f3
 have e4:blen w.den≤34359738368:=by omega
 have f4:blen w.den≤68719476736:=by omega
 have k4:blen M≤68719476736:=by omega
 have gc4:blen (Nat.gcd m3 w.den)≤68719476736:=gcd_blen k3 f4
 have z4:=gcd_ne (m:=m3) w.den_pos
 have q4:blen (w.den / Nat.gcd m3 w.den)≤68719476736:=blen_le_of (Nat.div_le_self _ _) f4
 have o1:(x.den=0)=False:=eq_false x.den_nz
 have r1:blen (M / x.den)≤68719476736:=blen_le_of (Nat.div_le_self _ _) k4
 have s1:wl x.num≤34359738368:=Nat.le_trans (fl_num h1) (by decide)
 have o2:(y.den=0)=False:=eq_false y.den_nz
 have r2:blen (M / y.den)≤68719476736:=blen_le_of (Nat.div_le_self _ _) k4
 have s2:wl y.num≤34359738368:=Nat.le_trans (fl_num h2) (by decide)
 have o3:(z.den=0)=False:=eq_false z.den_nz
 have r3:blen (M / z.den)≤68719476736:=blen_le_of (Nat.div_le_self _ _) k4
 have s3:wl z.num≤34359738368:=Nat.le_trans (fl_num h3) (by decide)
 have o4:(w.den=0)=False:=eq_false w.den_nz
 have r4:blen (M / w.den)≤68719476736:=blen_le_of (Nat.div_le_self _ _) k4
 have s4:wl w.num≤34359738368:=Nat.le_trans (fl_num h4) (by decide)
 have a1:=Nat.le_trans h1 (show _≤FB by decide)
 have a2:=Nat.le_trans h2 (show _≤FB by decide)
 have a3:=Nat.le_trans h3 (show _≤FB by decide)
 have a4:=Nat.le_trans h4 (show _≤FB by decide)
 have u0:∀ d:Nat,wl ((M / d:Nat):Int)≤1+4194304+4194304+4194304+4194304:=fun d=>blen_le_of (Nat.div_le_self _ _) c4
 have t1:wl ((M / x.den:Nat):Int)≤34359738368:=Nat.le_trans (u0 _) (by decide)
 obtain ⟨N1,hN1⟩:∃ N,x.num*((M / x.den:Nat):Int)=N:=⟨_,rfl⟩
 have u1:blen N1.natAbs≤68719476736:=by rw [← hN1]; exact Nat.le_trans (wl_mul (fl_num h1) (u0 _)) (by decide)
 have hn1:n4 (x,y,z,w) x=N1:=by unfold n4; rw [hmV]; exact hN1
 have t2:wl ((M / y.den:Nat):Int)≤34359738368:=Nat.le_trans (u0 _) (by decide)
 obtain ⟨N2,hN2⟩:∃ N,y.num*((M / y.den:Nat):Int)=N:=⟨_,rfl⟩
 have u2:blen N2.natAbs≤68719476736:=by rw [← hN2]; exact Nat.le_trans (wl_mul (fl_num h2) (u0 _)) (by decide)
 have hn2:n4 (x,y,z,w) y=N2:=by unfold n4; rw [hmV]; exact hN2
 have t3:wl ((M / z.den:Nat):Int)≤34359738368:=Nat.le_trans (u0 _) (by decide)
 obtain ⟨N3,hN3⟩:∃ N,z.num*((M / z.den:Nat):Int)=N:=⟨_,rfl⟩
 have u3:blen N3.natAbs≤68719476736:=by rw [← hN3]; exact Nat.le_trans (wl_mul (fl_num h3) (u0 _)) (by decide)
 have hn3:n4 (x,y,z,w) z=N3:=by unfold n4; rw [hmV]; exact hN3
 have t4:wl ((M / w.den:Nat):Int)≤34359738368:=Nat.le_trans (u0 _) (by decide)
 obtain ⟨N4,hN4⟩:∃ N,w.num*((M / w.den:Nat):Int)=N:=⟨_,rfl⟩
 have u4:blen N4.natAbs≤68719476736:=by rw [← hN4]; exact Nat.le_trans (wl_mul (fl_num h4) (u0 _)) (by decide)
 have hn4:n4 (x,y,z,w) w=N4:=by unfold n4; rw [hmV]; exact hN4
 obtain ⟨G,hG⟩:∃ G,g4 (x,y,z,w)=G:=⟨_,rfl⟩
 obtain ⟨G1,hG1⟩:∃ g,Nat.gcd 0 N1.natAbs=g:=⟨_,rfl⟩
 obtain ⟨G2,hG2⟩:∃ g,Nat.gcd G1 N2.natAbs=g:=⟨_,rfl⟩
 obtain ⟨G3,hG3⟩:∃ g,Nat.gcd G2 N3.natAbs=g:=⟨_,rfl⟩
 have hG4:Nat.gcd G3 N4.natAbs=G:=by rw [← hG3,← hG2,← hG1,← hG,← hn1,← hn2,← hn3,← hn4]; rfl
 have b0:blen 0≤68719476736:=by decide
 have v1:blen G1≤68719476736:=by rw [← hG1]; exact gcd_blen b0 u1
 have v2:blen G2≤68719476736:=by rw [← hG2]; exact gcd_blen v1 u2
 have v3:blen G3≤68719476736:=by rw [← hG3]; exact gcd_blen v2 u3
 have v4:blen G≤68719476736:=by rw [← hG4]; exact gcd_blen v3 u4
 have hg0:G ≠ 0:=by
  rw [← hG]
  have hn2:((x,y,z):V3) ≠ v0:=hn
  by_cases e1:x=0
  · by_cases e2:y=0
    · by_cases e3:z=0
      · exact absurd ((v0_iff _).2 ⟨e1,e2,e3⟩) hn2
      · exact g4_nz (m4_3 (x,y,z,w)) (by simp [l4]) e3
    · exact g4_nz (m4_2 (x,y,z,w)) (by simp [l4]) e2
  · exact g4_nz (m4_1 (x,y,z,w)) (by simp [l4]) e1
 have hg0':(G=0)=False:=eq_false hg0
 obtain ⟨R1,hR1⟩:∃ R,sg (decide (N1<0)) (N1.natAbs / G)=R:=⟨_,rfl⟩
 have hp1:p4 (x,y,z,w) x=R1:=by rw [← p4_sg (by rw [hG]; exact hg0),hG,hn1]; exact hR1
 have j1:blen (N1.natAbs / G)≤68719476736:=blen_le_of (Nat.div_le_self _ _) u1
 have i1:wl R1≤68719476736:=by rw [← hR1]; unfold wl; rw [sg_abs]; exact j1
 obtain ⟨R2,hR2⟩:∃ R,sg (decide (N2<0)) (N2.natAbs / G)=R:=⟨_,rfl⟩
 have hp2:p4 (x,y,z,w) y=R2:=by rw [← p4_sg (by rw [hG]; exact hg0),hG,hn2]; exact hR2
 have j2:blen (N2.natAbs / G)≤68719476736:=blen_le_of (Nat.div_le_self _ _) u2
 have i2:wl R2≤68719476736:=by rw [← hR2]; unfold wl; rw [sg_abs]; exact j2
 obtain ⟨R3,hR3⟩:∃ R,sg (decide (N3<0)) (N3.natAbs / G)=R:=⟨_,rfl⟩
 have hp3:p4 (x,y,z,w) z=R3:=by rw [← p4_sg (by rw [hG]; exact hg0),hG,hn3]; exact hR3
 have j3:blen (N3.natAbs / G)≤68719476736:=blen_le_of (Nat.div_le_self _ _) u3
 have i3:wl R3≤68719476736:=by rw [← hR3]; unfold wl; rw [sg_abs]; exact j3
 obtain ⟨R4,hR4⟩:∃ R,sg (decide (N4<0)) (N4.natAbs / G)=R:=⟨_,rfl⟩
 have hp4:p4 (x,y,z,w) w=R4:=by rw [← p4_sg (by rw [hG]; exact hg0),hG,hn4]; exact hR4
 have j4:blen (N4.natAbs / G)≤68719476736:=blen_le_of (Nat.div_le_self _ _) u4
 have i4:wl R4≤68719476736:=by rw [← hR4]; unfold wl; rw [sg_abs]; exact j4
 refine CSpec_go (E:=⟨TF,Mt0⟩) (fn52 hP) HE hP.mix ?_
 simp only [go_sem,hn',le1,le2,le3,n1,n2,n3,a1,a2,a3,a4]
 refine trX_once HE hP.mix 121 200 (by kernel_rfl) ?_
 simp only [go_sem,w1,n1,n2,n3,le1,le2,le3,a1,a2,a3,a4,b1,e1,f1,gc1,z1,q1,hm1]
 refine goX_once HE hP.mix 121 300 (by kernel_rfl) ?_
 simp only [go_sem,w2,n1,n2,n3,le1,le2,le3,b1,e2,f2,k1,gc2,z2,q2,hm2]
 refine goX_once HE hP.mix 121 400 (by kernel_rfl) ?_
 simp only [go_sem,w3,n1,n2,n3,le1,le2,le3,b1,e3,f3,k2,gc3,z3,q3,hm3]
 refine goX_once HE hP.mix 121 500 (by kernel_rfl) ?_
 simp only [go_sem,w4,n1,n2,n3,le1,le2,le3,b1,e4,f4,k3,gc4,z4,q4,hm4]
 refine goX_once HE hP.mix 121 600 (by kernel_rfl) ?_
 simp only [go_sem]
 refine trX_once HE hP.mix 121 700 (by kernel_rfl) ?_
 simp only [go_sem,w1,n1,n2,n3,le1,le2,le3,e1,f1,k4,o1,r1,s1,t1,sg_f,hN1,a1,a2,a3,a4,ne_eq,not_false_eq_true,imp_self]
 try refine ⟨by simp,?_⟩
 refine goX_once HE hP.mix 121 800 (by kernel_rfl) ?_
 simp only [go_sem,w2,n1,n2,n3,le1,le2,le3,e2,f2,k4,o2,r2,s2,t2,sg_f,hN2,a1,a2,a3,a4,ne_eq,not_false_eq_true,imp_self]
 try refine ⟨by simp,?_⟩
 refine goX_once HE hP.mix 121 900 (by kernel_rfl) ?_
 simp only [go_sem,w3,n1,n2,n3,le1,le2,le3,e3,f3,k4,o3,r3,s3,t3,sg_f,hN3,a1,a2,a3,a4,ne_eq,not_false_eq_true,imp_self]
 try refine ⟨by simp,?_⟩
 refine goX_once HE hP.mix 121 1000 (by kernel_rfl) ?_
 simp only [go_sem,w4,n1,n2,n3,le1,le2,le3,e4,f4,k4,o4,r4,s4,t4,sg_f,hN4,a1,a2,a3,a4,ne_eq,not_false_eq_true,imp_self]
 refine ⟨by simp,?_⟩
 refine goX_once HE hP.mix 121 1100 (by kernel_rfl) ?_
 simp only [go_sem]
 refine icX_vc (E:=⟨TF,Mt0⟩) (fn111 hP) HE hP.mix rfl rfl (Nat.le_of_ble_eq_true rfl) 1200 ?_
 simp only [go_sem]
 refine icX_vc (E:=⟨TF,Mt0⟩) (fn153 hP) HE hP.mix rfl rfl (Nat.le_of_ble_eq_true rfl) 1300 ?_
 simp only [go_sem]
 refine trX_once HE hP.mix 13 1350 (by kernel_rfl) ?_
 simp only [go_sem,w1]
 refine icX_vc (E:=⟨TF,Mt0⟩) (fn154 hP) HE hP.mix rfl rfl (Nat.le_of_ble_eq_true rfl) 1400 ?_
 simp only [go_sem,le1,le2,le3,n1,n2,n3,b0,u1,hG1]
 unfold finX
 simp only [go_sem,w1]
 refine goX_once HE hP.mix 13 1450 (by kernel_rfl) ?_
 simp only [go_sem,w2]
 refine icX_vc (E:=⟨TF,Mt0⟩) (fn154 hP) HE hP.mix rfl rfl (Nat.le_of_ble_eq_true rfl) 1500 ?_
 simp only [go_sem,le1,le2,le3,n1,n2,n3,v1,u2,hG2]
 unfold finX
 simp only [go_sem,w2]
 refine goX_once HE hP.mix 13 1550 (by kernel_rfl) ?_
 simp only [go_sem,w3]
 refine icX_vc (E:=⟨TF,Mt0⟩) (fn154 hP) HE hP.mix rfl rfl (Nat.le_of_ble_eq_true rfl) 1600 ?_
 simp only [go_sem,le1,le2,le3,n1,n2,n3,v2,u3,hG3]
 unfold finX
 simp only [go_sem,w3]
 refine goX_once HE hP.mix 13 1650 (by kernel_rfl) ?_
 simp only [go_sem,w4]
 refine icX_vc (E:=⟨TF,Mt0⟩) (fn154 hP) HE hP.mix rfl rfl (Nat.le_of_ble_eq_true rfl) 1700 ?_
 simp only [go_sem,le1,le2,le3,n1,n2,n3,v3,u4,hG4]
 unfold finX
 simp only [go_sem,w4]
 refine goX_once HE hP.mix 13 1750 (by kernel_rfl) ?_
 simp only [go_sem]
 unfold finX
 simp only [go_sem]
 refine icX_vc (E:=⟨TF,Mt0⟩) (fn153 hP) HE hP.mix rfl rfl (Nat.le_of_ble_eq_true rfl) 1850 ?_
 simp only [go_sem]
 refine trX_once HE hP.mix 13 1900 (by kernel_rfl) ?_
 simp only [go_sem,w1]
 refine icX_vc (E:=⟨TF,Mt0⟩) (fn155 hP) HE hP.mix rfl rfl (Nat.le_of_ble_eq_true rfl) 1950 ?_
 simp only [go_sem,le1,le2,le3,n1,n2,n3,u1,v4,hg0',j1,hR1]
 unfold finX
 simp only [go_sem,w1]
 refine goX_once HE hP.mix 13 2000 (by kernel_rfl) ?_
 simp only [go_sem,w2]
 refine icX_vc (E:=⟨TF,Mt0⟩) (fn155 hP) HE hP.mix rfl rfl (Nat.le_of_ble_eq_true rfl) 2050 ?_
 simp only [go_sem,le1,le2,le3,n1,n2,n3,u2,v4,hg0',j2,hR2]
 unfold finX
 simp only [go_sem,w2]
 refine goX_once HE hP.mix 13 2100 (by kernel_rfl) ?_
 simp only [go_sem,w3]
 refine icX_vc (E:=⟨TF,Mt0⟩) (fn155 hP) HE hP.mix rfl rfl (Nat.le_of_ble_eq_true rfl) 2150 ?_
 simp only [go_sem,le1,le2,le3,n1,n2,n3,u3,v4,hg0',j3,hR3]
 unfold finX
 simp only [go_sem,w3]
 refine goX_once HE hP.mix 13 2200 (by kernel_rfl) ?_
 simp only [go_sem,w4]
 refine icX_vc (E:=⟨TF,Mt0⟩) (fn155 hP) HE hP.mix rfl rfl (Nat.le_of_ble_eq_true rfl) 2250 ?_
 simp only [go_sem,le1,le2,le3,n1,n2,n3,u4,v4,hg0',j4,hR4]
 unfold finX
 simp only [go_sem,w4]
 refine goX_once HE hP.mix 13 2300 (by kernel_rfl) ?_
 simp only [go_sem]
 unfold finX
 simp only [go_sem]
 unfold finX
 simp only [go_sem]
 have i0:wl 0≤68719476736:=by decide
 have zw:((0:Int)=0)=True:=eq_true rfl
 have hgg:g4 (x,y,z,w) ≠ 0:=by rw [hG]; exact hg0
 have sx:=p4_sign hgg (m4_1 (x,y,z,w)) (by simp [l4])
 have sy:=p4_sign hgg (m4_2 (x,y,z,w)) (by simp [l4])
 have sz:=p4_sign hgg (m4_3 (x,y,z,w)) (by simp [l4])
 simp only [hp1,hp2,hp3] at sx sy sz
 have hs4:AM.s4 (x,y,z,w)=if R1=0 then (if R2=0 then decide (R3<0) else decide (R2<0)) else decide (R1<0):=by
  unfold AM.s4; simp only [sx.1,sx.2,sy.1,sy.2,sz.1,sz.2]
 refine trX_once HE hP.mix 121 2400 (by kernel_rfl) ?_
 by_cases t1:R1=0
 · have t1':=decide_eq_true t1
   simp only [go_sem,w1,le1,le2,le3,n1,n2,n3,i0,i1,i2,i3,i4,sgn_0,t1',zw]
   refine goX_once HE hP.mix 121 2500 (by kernel_rfl) ?_
   by_cases t2:R2=0
   · have t2':=decide_eq_true t2
     simp only [go_sem,w2,le1,le2,le3,n1,n2,n3,i0,i1,i2,i3,i4,sgn_0,t2',zw]
     refine goX_once HE hP.mix 121 2600 (by kernel_rfl) ?_
     have t3:decide (R3=0)=false:=decide_eq_false fun h3=>hn ((v0_iff _).2 ⟨sx.1.2 t1,sy.1.2 t2,sz.1.2 h3⟩)
     simp only [go_sem,w3,le1,le2,le3,n1,n2,n3,i0,i1,i2,i3,i4,sgn_0,t3,zw]
     by_cases hlt:R3<0
     · rw [show plN (x,y,z,w)=(((-0:Int):Rat),((-0:Int):Rat),((-R3:Int):Rat),((-R4:Int):Rat)) by rw [plN_t (by rw [hs4]; simp [t1,t2,hlt])]; simp only [hp1,hp2,hp3,hp4,t1,t2]]
       have hlt':=decide_eq_true hlt
       simp only [go_sem,sgn_neg,sgn_0,t1,t2,hlt',le1,le2,le3,n1,n2,n3,i0,i1,i2,i3,i4,zw]
       refine trX_once HE hP.mix 121 2900 (by kernel_rfl) ?_
       simp only [go_sem,w1,le1,le2,le3,n1,n2,n3,i0,i1,i2,i3,i4]
       refine goX_once HE hP.mix 121 3000 (by kernel_rfl) ?_
       simp only [go_sem,w2,le1,le2,le3,n1,n2,n3,i0,i1,i2,i3,i4]
       refine goX_once HE hP.mix 121 3100 (by kernel_rfl) ?_
       simp only [go_sem,w3,le1,le2,le3,n1,n2,n3,i0,i1,i2,i3,i4]
       refine goX_once HE hP.mix 121 3200 (by kernel_rfl) ?_
       simp only [go_sem,w4,le1,le2,le3,n1,n2,n3,i0,i1,i2,i3,i4]
       refine goX_once HE hP.mix 121 3300 (by kernel_rfl) ?_
       simp only [go_sem,le1,le2,le3,n1,n2,n3,i0,i1,i2,i3,i4]
       exact fin_z
     · rw [show plN (x,y,z,w)=(((0:Int):Rat),((0:Int):Rat),((R3:Int):Rat),((R4:Int):Rat)) by rw [plN_f (by rw [hs4]; simp [t1,t2,hlt])]; simp only [hp1,hp2,hp3,hp4,t1,t2]]
       have hlt':=decide_eq_false hlt
       simp only [go_sem,sgn_neg,sgn_0,t1,t2,hlt',le1,le2,le3,n1,n2,n3,i0,i1,i2,i3,i4,zw]
       exact fin_z
   · have t2':=decide_eq_false t2
     simp only [go_sem,w2,le1,le2,le3,n1,n2,n3,i0,i1,i2,i3,i4,sgn_0,t2',zw]
     by_cases hlt:R2<0
     · rw [show plN (x,y,z,w)=(((-0:Int):Rat),((-R2:Int):Rat),((-R3:Int):Rat),((-R4:Int):Rat)) by rw [plN_t (by rw [hs4]; simp [t1,t2,hlt])]; simp only [hp1,hp2,hp3,hp4,t1,t2]]
       have hlt':=decide_eq_true hlt
       simp only [go_sem,sgn_neg,sgn_0,t1,t2,hlt',le1,le2,le3,n1,n2,n3,i0,i1,i2,i3,i4,zw]
       refine trX_once HE hP.mix 121 2900 (by kernel_rfl) ?_
       simp only [go_sem,w1,le1,le2,le3,n1,n2,n3,i0,i1,i2,i3,i4]
       refine goX_once HE hP.mix 121 3000 (by kernel_rfl) ?_
       simp only [go_sem,w2,le1,le2,le3,n1,n2,n3,i0,i1,i2,i3,i4]
       refine goX_once HE hP.mix 121 3100 (by kernel_rfl) ?_
       simp only [go_sem,w3,le1,le2,le3,n1,n2,n3,i0,i1,i2,i3,i4]
       refine goX_once HE hP.mix 121 3200 (by kernel_rfl) ?_
       simp only [go_sem,w4,le1,le2,le3,n1,n2,n3,i0,i1,i2,i3,i4]
       refine goX_once HE hP.mix 121 3300 (by kernel_rfl) ?_
       simp only [go_sem,le1,le2,le3,n1,n2,n3,i0,i1,i2,i3,i4]
       exact fin_z
     · rw [show plN (x,y,z,w)=(((0:Int):Rat),((R2:Int):Rat),((R3:Int):Rat),((R4:Int):Rat)) by rw [plN_f (by rw [hs4]; simp [t1,t2,hlt])]; simp only [hp1,hp2,hp3,hp4,t1,t2]]
       have hlt':=decide_eq_false hlt
       simp only [go_sem,sgn_neg,sgn_0,t1,t2,hlt',le1,le2,le3,n1,n2,n3,i0,i1,i2,i3,i4,zw]
       exact fin_z
 · have t1':=decide_eq_false t1
   simp only [go_sem,w1,le1,le2,le3,n1,n2,n3,i0,i1,i2,i3,i4,sgn_0,t1',zw]
   by_cases hlt:R1<0
   · rw [show plN (x,y,z,w)=(((-R1:Int):Rat),((-R2:Int):Rat),((-R3:Int):Rat),((-R4:Int):Rat)) by rw [plN_t (by rw [hs4]; simp [t1,hlt])]; simp only [hp1,hp2,hp3,hp4,t1]]
     have hlt':=decide_eq_true hlt
     simp only [go_sem,sgn_neg,sgn_0,t1,hlt',le1,le2,le3,n1,n2,n3,i0,i1,i2,i3,i4,zw]
     refine trX_once HE hP.mix 121 2900 (by kernel_rfl) ?_
     simp only [go_sem,w1,le1,le2,le3,n1,n2,n3,i0,i1,i2,i3,i4]
     refine goX_once HE hP.mix 121 3000 (by kernel_rfl) ?_
     simp only [go_sem,w2,le1,le2,le3,n1,n2,n3,i0,i1,i2,i3,i4]
     refine goX_once HE hP.mix 121 3100 (by kernel_rfl) ?_
     simp only [go_sem,w3,le1,le2,le3,n1,n2,n3,i0,i1,i2,i3,i4]
     refine goX_once HE hP.mix 121 3200 (by kernel_rfl) ?_
     simp only [go_sem,w4,le1,le2,le3,n1,n2,n3,i0,i1,i2,i3,i4]
     refine goX_once HE hP.mix 121 3300 (by kernel_rfl) ?_
     simp only [go_sem,le1,le2,le3,n1,n2,n3,i0,i1,i2,i3,i4]
     exact fin_z
   · rw [show plN (x,y,z,w)=(((R1:Int):Rat),((R2:Int):Rat),((R3:Int):Rat),((R4:Int):Rat)) by rw [plN_f (by rw [hs4]; simp [t1,hlt])]; simp only [hp1,hp2,hp3,hp4,t1]]
     have hlt':=decide_eq_false hlt
     simp only [go_sem,sgn_neg,sgn_0,t1,hlt',le1,le2,le3,n1,n2,n3,i0,i1,i2,i3,i4,zw]
     exact fin_z
noncomputable def plV (h:V4):V4:=if nP h=v0 then (0,0,0,0) else plN h
def plE (h:V4):Int:=if nP h=v0 then 2 else 0
theorem pMakV_spec (hP:PrgOk P) (n:V3) (d:Rat) (hpre:fV n 4194304∧fl d≤4194304):CSpec P 52 [(.agg [.opq (.frac (n.1)),.pad,.pad,.pad,.pad,.opq (.frac (n.2.1)),.pad,.pad,.pad,.pad,.opq (.frac (n.2.2)),.pad,.pad,.pad,.pad]),(.agg [.opq (.frac (d)),.pad,.pad,.pad,.pad])] (.tup [(.agg [.opq (.frac ((plV (n.1,n.2.1,n.2.2,d)).1)),.pad,.pad,.pad,.pad,.opq (.frac ((plV (n.1,n.2.1,n.2.2,d)).2.1)),.pad,.pad,.pad,.pad,.opq (.frac ((plV (n.1,n.2.1,n.2.2,d)).2.2.1)),.pad,.pad,.pad,.pad,.opq (.frac ((plV (n.1,n.2.1,n.2.2,d)).2.2.2)),.pad,.pad,.pad,.pad]),.int .i64 (plE (n.1,n.2.1,n.2.2,d))]):=by
 by_cases hz:nP (n.1,n.2.1,n.2.2,d)=v0
 · unfold plV plE
   rw [if_pos hz,if_pos hz]
   have HE:=Mt0_all hP TF hP.tF
   obtain ⟨x,y,z⟩:=n
   obtain ⟨h1,h4⟩:=hpre
   obtain ⟨a1,a2,a3⟩:=fV_mono h1 (show _≤FB by decide)
   have hz':decide (((x,y,z):V3)=v0)=true:=decide_eq_true hz
   refine CSpec_go (E:=⟨TF,Mt0⟩) (fn52 hP) HE hP.mix ?_
   simp only [go_sem,hz',a1,a2,a3]
   exact fin_z
 · have:=pMake_spec hP (n.1,n.2.1,n.2.2,d) hz ⟨hpre.1.1,hpre.1.2.1,hpre.1.2.2,hpre.2⟩
   unfold plV plE
   rw [if_neg hz,if_neg hz]
   exact this
noncomputable def pMakVS:List AV→Option (Prop × AV)
 | [x0,x1]=>(rawV x0).bind fun n=>(rawF x1).bind fun d=>some (d.1∧(fV n 4194304∧fl d.2≤4194304),.tup [(.agg [.opq (.frac ((plV (n.1,n.2.1,n.2.2,d.2)).1)),.pad,.pad,.pad,.pad,.opq (.frac ((plV (n.1,n.2.1,n.2.2,d.2)).2.1)),.pad,.pad,.pad,.pad,.opq (.frac ((plV (n.1,n.2.1,n.2.2,d.2)).2.2.1)),.pad,.pad,.pad,.pad,.opq (.frac ((plV (n.1,n.2.1,n.2.2,d.2)).2.2.2)),.pad,.pad,.pad,.pad]),.int .i64 (plE (n.1,n.2.1,n.2.2,d.2))])
 | _=>none
theorem pMakVS_eq (x0 x1):pMakVS [x0,x1]=(rawV x0).bind fun n=>(rawF x1).bind fun d=>some (d.1∧(fV n 4194304∧fl d.2≤4194304),.tup [(.agg [.opq (.frac ((plV (n.1,n.2.1,n.2.2,d.2)).1)),.pad,.pad,.pad,.pad,.opq (.frac ((plV (n.1,n.2.1,n.2.2,d.2)).2.1)),.pad,.pad,.pad,.pad,.opq (.frac ((plV (n.1,n.2.1,n.2.2,d.2)).2.2.1)),.pad,.pad,.pad,.pad,.opq (.frac ((plV (n.1,n.2.1,n.2.2,d.2)).2.2.2)),.pad,.pad,.pad,.pad]),.int .i64 (plE (n.1,n.2.1,n.2.2,d.2))]):=rfl
theorem pMakVS_ok (hP:PrgOk P) (args p r) (he:pMakVS args=some (p,r)) (hp:p):CSpec P 52 args r:=by
 unfold pMakVS at he
 split at he
 · simp only [Option.bind_eq_some_iff,Option.some.injEq,Prod.mk.injEq] at he
   obtain ⟨n,hhn,⟨ud,d⟩,hhd,rfl,rfl⟩:=he
   rw [rawV_inv hhn]
   exact (pMakV_spec hP n d hp.2).cv (.agg (.refl _) (rawF_cv hhd hp.1 (.refl _)))
 · simp at he
attribute [go_sem] pMakVS_eq
noncomputable def Mt1:Nat→List AV→Option (Prop × AV):=addS Pt3 52 pMakVS
theorem Mt1_all (hP:PrgOk P) (T) (hT:TyOk P T):EnvOk P ⟨T,Mt1⟩:=((Pt3_all hP T hT).add (pMakVS_ok hP))
theorem Mt1_at (f a):Mt1 f a=(addS Pt3 52 pMakVS) f a:=rfl
attribute [go_sem] Mt1_at
theorem CvL.raI (q:Rat):CvL [.opq (.rfrac q),.pad,.pad] (rA q):=by simpa [Pay.open,Pay.width,rA] using CvL.unfold (.rfrac q) []
theorem CvL.ra3I (x y z:Rat):CvL [.opq (.rfrac (x)),.pad,.pad,.opq (.rfrac (y)),.pad,.pad,.opq (.rfrac (z)),.pad,.pad] (rA x++rA y++rA z):=CvL.app (CvL.app (.raI x) (.raI y) rfl) (.raI z) rfl
theorem rawRF_A (q:Rat):rawRF (.agg [.bool (decide (q.num<0)),(.opq (.rnat (q.num.natAbs))),(.opq (.rnat (q.den)))])=some (True,q):=by
 rw [rawRF_raw,rawR_opq,rawR_opq]
 simp only [Option.bind_some,Option.map_some,true_and]
 rw [sg_of,qlow_eq,q_self]
 congr 2
 refine eq_true ⟨fun h=>?_,q.den_pos,q_gcd q⟩
 have:=of_decide_eq_true h
 omega
theorem rawRF_I (z:Int):rawRF (.agg [.bool (decide (z<0)),(.opq (.rnat (z.natAbs))),(.opq (.rnat (1)))])=some (True,(z:Rat)):=rawRF_A (z:Rat)
theorem rawRF_N (n:Nat):rawRF (.agg [.bool false,(.opq (.rnat (n))),(.opq (.rnat (1)))])=some (True,(((n:Nat):Int):Rat)):=by
 have:=rawRF_I (n:Int)
 rwa [show decide (((n:Nat):Int)<0)=false from decide_eq_false (by omega),Int.natAbs_natCast] at this
noncomputable def rMul3A:List AV→Option (Prop × AV):=onQ2 fun a b=>(fl a≤FB∧fl b≤FB,.agg [.bool (decide ((qmul a b).num<0)),(.opq (.rnat ((qmul a b).num.natAbs))),(.opq (.rnat ((qmul a b).den)))])
theorem rMul3A_ok (hP:PrgOk P) (args p r):rMul3A args=some (p,r)→p→CSpec P 77 args r:=onQ2_ok (fun a b h=>by exact (rMul3_spec hP a b h.1 h.2).conv (CvL.conv (.agg (CvL.raI _) .nil))) args p r
attribute [go_sem] rMul3A
noncomputable def Qt0:Nat→List AV→Option (Prop × AV):=addS Pt1 77 rMul3A
theorem Qt0_all (hP:PrgOk P) (T) (hT:TyOk P T):EnvOk P ⟨T,Qt0⟩:=((Pt1_all hP T hT).add (rMul3A_ok hP))
theorem Qt0_at (f a):Qt0 f a=(addS Pt1 77 rMul3A) f a:=rfl
attribute [go_sem] Qt0_at
theorem cmpQ_int (z:Int):cmpQ (z:Rat) 0=sgnZ z:=(sgn_cmp (z:Rat)).symm
theorem p4_qdiv {h:V4} (hg:g4 h ≠ 0) {x:Rat} (hx:n4 h x ∈ l4 h):qdiv ((n4 h x:Int):Rat) (((g4 h:Nat):Int):Rat)=((p4 h x:Int):Rat):=by
 have e:primZ (g4 h) (n4 h x)*(g4 h:Int)=n4 h x:=primZ_mul hg (gcdL_dvd hx)
 rw [qdiv_eq,← e,Rat.intCast_mul]
 show ((p4 h x:Int):Rat)*(((g4 h:Nat):Int):Rat) / _=_
 rw [Rat.div_def,Rat.mul_assoc,Rat.mul_inv_cancel _ (show (((g4 h:Nat):Int):Rat) ≠ 0 from nat_nz hg),Rat.mul_one]
theorem n4_qmul {h:V4} {x:Rat} (hd:x.den ∣ m4 h):qmul x (((m4 h:Nat):Int):Rat)=((n4 h x:Int):Rat):=by
 rw [qmul_eq,n4_eq hd]; rfl
theorem qneg_int (z:Int):qneg ((z:Int):Rat)=((-z:Int):Rat):=by rw [qneg_eq,Rat.intCast_neg]
theorem sgnZ_cases (z:Int):(z<0∧sgnZ z = -1)∨(z=0∧sgnZ z=0)∨(0<z∧sgnZ z=1):=by
 unfold sgnZ
 rcases (show z<0∨z=0∨0<z by omega) with h|h|h
 · left; exact ⟨h,by rw [if_neg (by omega),if_pos h]⟩
 · right; left; exact ⟨h,by rw [if_pos h]⟩
 · right; right; exact ⟨h,by rw [if_neg (by omega),if_neg (by omega)]⟩
theorem p4_sgnZ {h:V4} (hg:g4 h ≠ 0) {x:Rat} (hx:n4 h x ∈ l4 h):sgnZ (n4 h x)=sgnZ (p4 h x):=by
 have e:p4 h x*(g4 h:Int)=n4 h x:=primZ_mul hg (gcdL_dvd hx)
 have hg':0<(g4 h:Int):=by omega
 generalize n4 h x=n at *
 generalize p4 h x=p at *
 generalize (g4 h:Int)=g at *
 rcases sgnZ_cases p with ⟨l,m⟩|⟨l,m⟩|⟨l,m⟩<;>rcases sgnZ_cases n with ⟨l',m'⟩|⟨l',m'⟩|⟨l',m'⟩<;>rw [m,m']<;>exfalso
 · have:=Int.mul_neg_of_neg_of_pos l hg'; omega
 · have:=Int.mul_neg_of_neg_of_pos l hg'; omega
 · rw [l,Int.zero_mul] at e; omega
 · rw [l,Int.zero_mul] at e; omega
 · have:=Int.mul_pos l hg'; omega
 · have:=Int.mul_pos l hg'; omega
theorem r5Make_spec (hP:PrgOk P) (h:V4) (hn:nP h ≠ v0) (hb:fP h 4194304):CSpec P 130 [(.agg [.opq (.rfrac (h.1)),.pad,.pad,.opq (.rfrac (h.2.1)),.pad,.pad,.opq (.rfrac (h.2.2.1)),.pad,.pad]),(.agg [.opq (.rfrac (h.2.2.2)),.pad,.pad])] (.agg [.opq (.rfrac ((plN h).1)),.pad,.pad,.opq (.rfrac ((plN h).2.1)),.pad,.pad,.opq (.rfrac ((plN h).2.2.1)),.pad,.pad,.opq (.rfrac ((plN h).2.2.2)),.pad,.pad]):=by
 have HE:=Qt0_all hP TF hP.tF
 refine CSpec.cv ?_ (CvL.agg (CvL.ra3I _ _ _) (CvL.agg (CvL.raI _) .nil))
 obtain ⟨x,y,z,w⟩:=h
 obtain ⟨h1,h2,h3,h4⟩:=hb
 simp only [] at h1 h2 h3 h4 ⊢
 have w1:IntKind.i64.wrap (0+1)=1:=rfl
 have w2:IntKind.i64.wrap (1+1)=2:=rfl
 have w3:IntKind.i64.wrap (2+1)=3:=rfl
 have w4:IntKind.i64.wrap (3+1)=4:=rfl
 have t1:(1:Int).toNat=1:=rfl
 have le1:((0:Int)≤1)=True:=eq_true (by decide)
 have t2:(2:Int).toNat=2:=rfl
 have le2:((0:Int)≤2)=True:=eq_true (by decide)
 have t3:(3:Int).toNat=3:=rfl
 have le3:((0:Int)≤3)=True:=eq_true (by decide)
 have b1:blen 1≤34359738368:=by decide
 have b1':blen 1≤68719476736:=by decide
 have b0:blen 0≤34359738368:=by decide
 obtain ⟨m1,hm1⟩:∃ m,1*(x.den / Nat.gcd 1 x.den)=m:=⟨_,rfl⟩
 obtain ⟨m2,hm2⟩:∃ m,m1*(y.den / Nat.gcd m1 y.den)=m:=⟨_,rfl⟩
 obtain ⟨m3,hm3⟩:∃ m,m2*(z.den / Nat.gcd m2 z.den)=m:=⟨_,rfl⟩
 obtain ⟨M,hm4⟩:∃ m,m3*(w.den / Nat.gcd m3 w.den)=m:=⟨_,rfl⟩
 have hmV:m4 (x,y,z,w)=M:=by rw [← hm4,← hm3,← hm2,← hm1]; rfl
 have d1:=fl_den h1
 have c1:blen m1≤1+4194304:=by rw [← hm1]; exact lcmD_blen (show blen 1≤1 by decide) d1
 have d2:=fl_den h2
 have c2:blen m2≤1+4194304+4194304:=by rw [← hm2]; exact lcmD_blen (c1) d2
 have d3:=fl_den h3
 have c3:blen m3≤1+4194304+4194304+4194304:=by rw [← hm3]; exact lcmD_blen (c2) d3
 have d4:=fl_den h4
 have c4:blen M≤1+4194304+4194304+4194304+4194304:=by rw [← hm4]; exact lcmD_blen (c3) d4
 have e1:blen x.den≤34359738368:=by omega
 have f1:blen x.den≤68719476736:=by omega
 have k1:blen m1≤34359738368:=by omega
 have j1:blen m1≤68719476736:=by omega
 have gc1:blen (Nat.gcd 1 x.den)≤34359738368:=gcd_blen b1 e1
 have z1:(0<Nat.gcd 1 x.den)=True:=eq_true (Nat.gcd_pos_of_pos_right _ x.den_pos)
 have q1:blen (x.den / Nat.gcd 1 x.den)≤68719476736:=blen_le_of (Nat.div_le_self _ _) f1
 have a1:=Nat.le_trans h1 (show _≤FB by decide)
 have e2:blen y.den≤34359738368:=by omega
 have f2:blen y.den≤68719476736:=by omega
 have k2:blen m2≤34359738368:=by omega
 have j2:blen m2≤68719476736:=by omega
 have gc2:blen (Nat.gcd m1 y.den)≤34359738368:=gcd_blen k1 e2
 have z2:(0<Nat.gcd m1 y.den)=True:=eq_true (Nat.gcd_pos_of_pos_right _ y.den_pos)
 have q2:blen (y.den / Nat.gcd m1 y.den)≤68719476736:=blen_le_of (Nat.div_le_self _ _) f2
 have a2:=Nat.le_trans h2 (show _≤FB by decide)
 have e3:blen z.den≤34359738368:=by omega
 have f3:blen z.den≤68719476736:=by omega
 have k3:blen m3≤34359738368:=by omega
 have j3:blen m3≤68719476736:=by omega
 have gc3:blen (Nat.gcd m2 z.den)≤34359738368:=gcd_blen k2 e3
 have z3:(0<Nat.gcd m2 z.den)=True:=eq_true (Nat.gcd_pos_of_pos_right _ z.den_pos)
 have q3:blen (z.den / Nat.gcd m2 z.den)≤68719476736:=blen_le_of (Nat.div_le_self _ _) f3
 have a3:=Nat.le_trans h3 (show _≤FB by decide)
 have e4:blen w.den≤34359738368:=by omega
 have f4:blen w.den≤68719476736:=by omega
 have k4:blen M≤34359738368:=by omega
 have j4:blen M≤68719476736:=by omega
 have gc4:blen (Nat.gcd m3 w.den)≤34359738368:=gcd_blen k3 e4
 have z4:(0<Nat.gcd m3 w.den)=True:=eq_true (Nat.gcd_pos_of_pos_right _ w.den_pos)
 have q4:blen (w.den / Nat.gcd m3 w.den)≤68719476736:=blen_le_of (Nat.div_le_self _ _) f4
 have a4:=Nat.le_trans h4 (show _≤FB by decide)
 have aM:fl (((M:Nat):Int):Rat)≤FB:=fl_int (Nat.le_trans (show wl ((M:Nat):Int)≤_ from c4) (by decide)) (by decide)
 have u1:wl (n4 (x,y,z,w) x)≤4194304+(1+4194304+4194304+4194304+4194304):=by unfold n4; rw [hmV]; exact wl_mul (fl_num h1) (blen_le_of (Nat.div_le_self _ _) c4)
 have hQ1:=n4_qmul (m4_1 (x,y,z,w))
 have u2:wl (n4 (x,y,z,w) y)≤4194304+(1+4194304+4194304+4194304+4194304):=by unfold n4; rw [hmV]; exact wl_mul (fl_num h2) (blen_le_of (Nat.div_le_self _ _) c4)
 have hQ2:=n4_qmul (m4_2 (x,y,z,w))
 have u3:wl (n4 (x,y,z,w) z)≤4194304+(1+4194304+4194304+4194304+4194304):=by unfold n4; rw [hmV]; exact wl_mul (fl_num h3) (blen_le_of (Nat.div_le_self _ _) c4)
 have hQ3:=n4_qmul (m4_3 (x,y,z,w))
 have u4:wl (n4 (x,y,z,w) w)≤4194304+(1+4194304+4194304+4194304+4194304):=by unfold n4; rw [hmV]; exact wl_mul (fl_num h4) (blen_le_of (Nat.div_le_self _ _) c4)
 have hQ4:=n4_qmul (m4_4 (x,y,z,w))
 obtain ⟨G,hG⟩:∃ G,g4 (x,y,z,w)=G:=⟨_,rfl⟩
 obtain ⟨N1,hn1⟩:∃ N,n4 (x,y,z,w) x=N:=⟨_,rfl⟩
 obtain ⟨N2,hn2⟩:∃ N,n4 (x,y,z,w) y=N:=⟨_,rfl⟩
 obtain ⟨N3,hn3⟩:∃ N,n4 (x,y,z,w) z=N:=⟨_,rfl⟩
 obtain ⟨N4,hn4⟩:∃ N,n4 (x,y,z,w) w=N:=⟨_,rfl⟩
 obtain ⟨G1,hG1⟩:∃ g,Nat.gcd 0 N1.natAbs=g:=⟨_,rfl⟩
 obtain ⟨G2,hG2⟩:∃ g,Nat.gcd G1 N2.natAbs=g:=⟨_,rfl⟩
 obtain ⟨G3,hG3⟩:∃ g,Nat.gcd G2 N3.natAbs=g:=⟨_,rfl⟩
 have hG4:Nat.gcd G3 N4.natAbs=G:=by rw [← hG3,← hG2,← hG1,← hG,← hn1,← hn2,← hn3,← hn4]; rfl
 have hg0:g4 (x,y,z,w) ≠ 0:=by
  have hn2:((x,y,z):V3) ≠ v0:=hn
  by_cases e1:x=0
  · by_cases e2:y=0
    · by_cases e3:z=0
      · exact absurd ((v0_iff _).2 ⟨e1,e2,e3⟩) hn2
      · exact g4_nz (m4_3 (x,y,z,w)) (by simp [l4]) e3
    · exact g4_nz (m4_2 (x,y,z,w)) (by simp [l4]) e2
  · exact g4_nz (m4_1 (x,y,z,w)) (by simp [l4]) e1
 have hD1:=p4_qdiv hg0 (show n4 (x,y,z,w) x ∈ l4 (x,y,z,w) by simp [l4])
 have sx1:=p4_sign hg0 (m4_1 (x,y,z,w)) (by simp [l4])
 have hD2:=p4_qdiv hg0 (show n4 (x,y,z,w) y ∈ l4 (x,y,z,w) by simp [l4])
 have sx2:=p4_sign hg0 (m4_2 (x,y,z,w)) (by simp [l4])
 have hD3:=p4_qdiv hg0 (show n4 (x,y,z,w) z ∈ l4 (x,y,z,w) by simp [l4])
 have sx3:=p4_sign hg0 (m4_3 (x,y,z,w)) (by simp [l4])
 have hD4:=p4_qdiv hg0 (show n4 (x,y,z,w) w ∈ l4 (x,y,z,w) by simp [l4])
 have sx4:=p4_sign hg0 (m4_4 (x,y,z,w)) (by simp [l4])
 simp only [hmV] at hQ1 hQ2 hQ3 hQ4
 simp only [hn1,hn2,hn3,hn4,hG] at hQ1 hQ2 hQ3 hQ4 hD1 hD2 hD3 hD4 u1 u2 u3 u4
 have y1':blen N1.natAbs≤25165825:=Nat.le_trans u1 (by decide)
 have y1:blen N1.natAbs≤34359738368:=Nat.le_trans u1 (by decide)
 have i1:fl ((N1:Int):Rat)≤FB:=fl_int (Nat.le_trans u1 (by decide)) (by decide)
 have y2':blen N2.natAbs≤25165825:=Nat.le_trans u2 (by decide)
 have y2:blen N2.natAbs≤34359738368:=Nat.le_trans u2 (by decide)
 have i2:fl ((N2:Int):Rat)≤FB:=fl_int (Nat.le_trans u2 (by decide)) (by decide)
 have y3':blen N3.natAbs≤25165825:=Nat.le_trans u3 (by decide)
 have y3:blen N3.natAbs≤34359738368:=Nat.le_trans u3 (by decide)
 have i3:fl ((N3:Int):Rat)≤FB:=fl_int (Nat.le_trans u3 (by decide)) (by decide)
 have y4':blen N4.natAbs≤25165825:=Nat.le_trans u4 (by decide)
 have y4:blen N4.natAbs≤34359738368:=Nat.le_trans u4 (by decide)
 have i4:fl ((N4:Int):Rat)≤FB:=fl_int (Nat.le_trans u4 (by decide)) (by decide)
 have b0':blen 0≤25165825:=by decide
 have v1':blen G1≤25165825:=by rw [← hG1]; exact gcd_blen b0' y1'
 have v2':blen G2≤25165825:=by rw [← hG2]; exact gcd_blen v1' y2'
 have v3':blen G3≤25165825:=by rw [← hG3]; exact gcd_blen v2' y3'
 have v4':blen G≤25165825:=by rw [← hG4]; exact gcd_blen v3' y4'
 have v1:=Nat.le_trans v1' (show _≤34359738368 by decide)
 have v2:=Nat.le_trans v2' (show _≤34359738368 by decide)
 have v3:=Nat.le_trans v3' (show _≤34359738368 by decide)
 have aG:fl (((G:Nat):Int):Rat)≤FB:=fl_int (Nat.le_trans (show wl ((G:Nat):Int)≤_ from v4') (by decide)) (by decide)
 have gz:((((G:Nat):Int):Rat)=0)=False:=eq_false (fun e=>hg0 (by rw [hG]; exact Int.ofNat_eq_zero.1 (Rat.intCast_inj.1 (e.trans Rat.intCast_zero.symm))))
 obtain ⟨R1,hp1⟩:∃ R,p4 (x,y,z,w) x=R:=⟨_,rfl⟩
 obtain ⟨R2,hp2⟩:∃ R,p4 (x,y,z,w) y=R:=⟨_,rfl⟩
 obtain ⟨R3,hp3⟩:∃ R,p4 (x,y,z,w) z=R:=⟨_,rfl⟩
 obtain ⟨R4,hp4⟩:∃ R,p4 (x,y,z,w) w=R:=⟨_,rfl⟩
 simp only [hp1,hp2,hp3,hp4] at hD1 hD2 hD3 hD4 sx1 sx2 sx3
 have sN1:sgnZ N1=sgnZ R1:=by rw [← hn1,← hp1]; exact p4_sgnZ hg0 (show n4 (x,y,z,w) x ∈ l4 (x,y,z,w) by simp [l4])
 have sN2:sgnZ N2=sgnZ R2:=by rw [← hn2,← hp2]; exact p4_sgnZ hg0 (show n4 (x,y,z,w) y ∈ l4 (x,y,z,w) by simp [l4])
 have sN3:sgnZ N3=sgnZ R3:=by rw [← hn3,← hp3]; exact p4_sgnZ hg0 (show n4 (x,y,z,w) z ∈ l4 (x,y,z,w) by simp [l4])
 have six:(sgnZ N1 = -1∧sgnZ N1 = -1∧sgnZ N1 = -1∧s4 (x,y,z,w)=true)∨(sgnZ N1=1∧sgnZ N1=1∧sgnZ N1=1∧s4 (x,y,z,w)=false)∨(sgnZ N1=0∧sgnZ N2 = -1∧sgnZ N1=0∧s4 (x,y,z,w)=true)∨(sgnZ N1=0∧sgnZ N2=1∧sgnZ N1=0∧s4 (x,y,z,w)=false)∨(sgnZ N1=0∧sgnZ N2=0∧sgnZ N3 = -1∧s4 (x,y,z,w)=true)∨(sgnZ N1=0∧sgnZ N2=0∧sgnZ N3=1∧s4 (x,y,z,w)=false):=by
  rw [sN1,sN2,sN3]
  have hs4:s4 (x,y,z,w)=if R1=0 then (if R2=0 then decide (R3<0) else decide (R2<0)) else decide (R1<0):=by
   unfold s4; simp only [sx1.1,sx1.2,sx2.1,sx2.2,sx3.1,sx3.2]
  rw [hs4]
  have nz:R1=0→R2=0→R3 ≠ 0:=fun t1 t2 t3=>hn ((v0_iff _).2 ⟨sx1.1.2 t1,sx2.1.2 t2,sx3.1.2 t3⟩)
  rcases sgnZ_cases R1 with ⟨l1,m1⟩|⟨l1,m1⟩|⟨l1,m1⟩
  · left; rw [m1,if_neg (by omega)]; simp [l1]
  · rw [m1,if_pos l1]
    rcases sgnZ_cases R2 with ⟨l2,m2⟩|⟨l2,m2⟩|⟨l2,m2⟩
    · right; right; left; rw [m2,if_neg (by omega)]; simp [l2]
    · rw [m2,if_pos l2]
      rcases sgnZ_cases R3 with ⟨l3,m3⟩|⟨l3,m3⟩|⟨l3,m3⟩
      · simp [l3,m3]
      · exact absurd l3 (nz l1 l2)
      · rw [m3]; simp; omega
    · right; right; right; left; rw [m2,if_neg (by omega)]; simp; omega
  · right; left; rw [m1,if_neg (by omega)]; simp; omega
 have q0:((0:Int) != 0)=false:=rfl
 have q5:((1:Int) != 0)=true:=rfl
 have q6:((-1:Int) != 0)=true:=rfl
 have q7:decide ((-1:Int)<0)=true:=rfl
 have q8:decide ((1:Int)<0)=false:=rfl
 show CSpec P 130 [.agg [.bool (decide (x.num<0)),(.opq (.rnat (x.num.natAbs))),(.opq (.rnat (x.den))),.bool (decide (y.num<0)),(.opq (.rnat (y.num.natAbs))),(.opq (.rnat (y.den))),.bool (decide (z.num<0)),(.opq (.rnat (z.num.natAbs))),(.opq (.rnat (z.den)))],.agg [.bool (decide (w.num<0)),(.opq (.rnat (w.num.natAbs))),(.opq (.rnat (w.den)))]] _
 refine CSpec_go (E:=⟨TF,Qt0⟩) (fn130 hP) HE hP.mix ?_
 simp only [go_sem,le1,le2,le3,t1,t2,t3]
 refine trX_once HE hP.mix 103 150 (by kernel_rfl) ?_
 simp only [go_sem,w1,le1,le2,le3,t1,t2,t3,b1,b1',e1,f1,gc1,z1,q1,hm1]
 refine goX_once HE hP.mix 103 200 (by kernel_rfl) ?_
 simp only [go_sem,w2,le1,le2,le3,t1,t2,t3,k1,j1,e2,f2,gc2,z2,q2,hm2]
 refine goX_once HE hP.mix 103 250 (by kernel_rfl) ?_
 simp only [go_sem,w3,le1,le2,le3,t1,t2,t3,k2,j2,e3,f3,gc3,z3,q3,hm3]
 refine goX_once HE hP.mix 103 300 (by kernel_rfl) ?_
 simp only [go_sem,w4,le1,le2,le3,t1,t2,t3,k3,j3,e4,f4,gc4,z4,q4,hm4]
 refine goX_once HE hP.mix 103 350 (by kernel_rfl) ?_
 simp only [go_sem]
 rcases six with ⟨s1,s2,s3,s4⟩|⟨s1,s2,s3,s4⟩|⟨s1,s2,s3,s4⟩|⟨s1,s2,s3,s4⟩|⟨s1,s2,s3,s4⟩|⟨s1,s2,s3,s4⟩
 all_goals
  first|(have e:=plN_t s4; simp only [hp1,hp2,hp3,hp4] at e; rw [e])|(have e:=plN_f s4; simp only [hp1,hp2,hp3,hp4] at e; rw [e])
  refine trX_once HE hP.mix 103 400 (by kernel_rfl) ?_
  simp only [go_sem,w1,le1,le2,le3,t1,t2,t3,rawRF_A,rawRF_N,rawRF_I,hQ1,Rat.num_intCast,Rat.den_intCast,a1,aM,b0,y1,hG1,cmpQ_int,s1,s2,s3,q0,q5,q6,q7,q8]
  refine goX_once HE hP.mix 103 450 (by kernel_rfl) ?_
  simp only [go_sem,w2,le1,le2,le3,t1,t2,t3,rawRF_A,rawRF_N,rawRF_I,hQ2,Rat.num_intCast,Rat.den_intCast,a2,aM,v1,y2,hG2,cmpQ_int,s1,s2,s3,q0,q5,q6,q7,q8]
  refine goX_once HE hP.mix 103 500 (by kernel_rfl) ?_
  simp only [go_sem,w3,le1,le2,le3,t1,t2,t3,rawRF_A,rawRF_N,rawRF_I,hQ3,Rat.num_intCast,Rat.den_intCast,a3,aM,v2,y3,hG3,cmpQ_int,s1,s2,s3,q0,q5,q6,q7,q8]
  refine goX_once HE hP.mix 103 550 (by kernel_rfl) ?_
  simp only [go_sem,w4,le1,le2,le3,t1,t2,t3,rawRF_A,rawRF_N,rawRF_I,hQ4,Rat.num_intCast,Rat.den_intCast,a4,aM,v3,y4,hG4,cmpQ_int,s1,s2,s3,q0,q5,q6,q7,q8]
  refine goX_once HE hP.mix 103 600 (by kernel_rfl) ?_
  simp only [go_sem]
  refine trX_once HE hP.mix 103 700 (by kernel_rfl) ?_
  simp only [go_sem,w1,le1,le2,le3,t1,t2,t3,rawRF_N,rawRF_I,i1,aG,gz,ne_eq,not_false_eq_true,hD1,qneg_int]
  refine goX_once HE hP.mix 103 750 (by kernel_rfl) ?_
  simp only [go_sem,w2,le1,le2,le3,t1,t2,t3,rawRF_N,rawRF_I,i2,aG,gz,ne_eq,not_false_eq_true,hD2,qneg_int]
  refine goX_once HE hP.mix 103 800 (by kernel_rfl) ?_
  simp only [go_sem,w3,le1,le2,le3,t1,t2,t3,rawRF_N,rawRF_I,i3,aG,gz,ne_eq,not_false_eq_true,hD3,qneg_int]
  refine goX_once HE hP.mix 103 850 (by kernel_rfl) ?_
  simp only [go_sem,w4,le1,le2,le3,t1,t2,t3,rawRF_N,rawRF_I,i4,aG,gz,ne_eq,not_false_eq_true,hD4,qneg_int]
  refine goX_once HE hP.mix 103 900 (by kernel_rfl) ?_
  simp only [go_sem]
  exact fin_z
def cellsZ:List AV→Option V4
 | [.opq (.rfrac (x)),.pad,.pad,.opq (.rfrac (y)),.pad,.pad,.opq (.rfrac (z)),.pad,.pad,.opq (.rfrac (w)),.pad,.pad]=>some (x,y,z,w)
 | _=>none
theorem cellsZ_eq (x y z w):cellsZ [.opq (.rfrac (x)),.pad,.pad,.opq (.rfrac (y)),.pad,.pad,.opq (.rfrac (z)),.pad,.pad,.opq (.rfrac (w)),.pad,.pad]=some (x,y,z,w):=rfl
theorem cellsZ_inv {A:List AV} {a:V4} (h:cellsZ A=some a):A=[.opq (.rfrac (a.1)),.pad,.pad,.opq (.rfrac (a.2.1)),.pad,.pad,.opq (.rfrac (a.2.2.1)),.pad,.pad,.opq (.rfrac (a.2.2.2)),.pad,.pad]:=by
 unfold cellsZ at h
 split at h
 · simp only [Option.some.injEq] at h; subst h; rfl
 · simp at h
def rawZ:AV→Option V4
 | .agg A=>cellsZ A
 | _=>none
theorem rawZ_eq (A):rawZ (.agg A)=cellsZ A:=rfl
theorem rawZ_inv {v:AV} {a:V4} (h:rawZ v=some a):v=(.agg [.opq (.rfrac (a.1)),.pad,.pad,.opq (.rfrac (a.2.1)),.pad,.pad,.opq (.rfrac (a.2.2.1)),.pad,.pad,.opq (.rfrac (a.2.2.2)),.pad,.pad]):=by
 unfold rawZ at h
 split at h
 · rw [cellsZ_inv h]
 · simp at h
attribute [go_sem] cellsZ_eq rawZ_eq
theorem r5Mak_spec (hP:PrgOk P) (n:V3) (d:Rat) (hpre:nP (n.1,n.2.1,n.2.2,d) ≠ v0∧fV n 4194304∧fl d≤4194304):CSpec P 130 [(.agg [.opq (.rfrac (n.1)),.pad,.pad,.opq (.rfrac (n.2.1)),.pad,.pad,.opq (.rfrac (n.2.2)),.pad,.pad]),(.agg [.opq (.rfrac (d)),.pad,.pad])] ((.agg [.opq (.rfrac ((plN (n.1,n.2.1,n.2.2,d)).1)),.pad,.pad,.opq (.rfrac ((plN (n.1,n.2.1,n.2.2,d)).2.1)),.pad,.pad,.opq (.rfrac ((plN (n.1,n.2.1,n.2.2,d)).2.2.1)),.pad,.pad,.opq (.rfrac ((plN (n.1,n.2.1,n.2.2,d)).2.2.2)),.pad,.pad])):=by
 exact r5Make_spec hP (n.1,n.2.1,n.2.2,d) hpre.1 ⟨hpre.2.1.1,hpre.2.1.2.1,hpre.2.1.2.2,hpre.2.2⟩
noncomputable def r5MakS:List AV→Option (Prop × AV)
 | [x0,x1]=>(rawX x0).bind fun n=>(rawRF x1).bind fun d=>some (d.1∧(nP (n.1,n.2.1,n.2.2,d.2) ≠ v0∧fV n 4194304∧fl d.2≤4194304),(.agg [.opq (.rfrac ((plN (n.1,n.2.1,n.2.2,d.2)).1)),.pad,.pad,.opq (.rfrac ((plN (n.1,n.2.1,n.2.2,d.2)).2.1)),.pad,.pad,.opq (.rfrac ((plN (n.1,n.2.1,n.2.2,d.2)).2.2.1)),.pad,.pad,.opq (.rfrac ((plN (n.1,n.2.1,n.2.2,d.2)).2.2.2)),.pad,.pad]))
 | _=>none
theorem r5MakS_eq (x0 x1):r5MakS [x0,x1]=(rawX x0).bind fun n=>(rawRF x1).bind fun d=>some (d.1∧(nP (n.1,n.2.1,n.2.2,d.2) ≠ v0∧fV n 4194304∧fl d.2≤4194304),(.agg [.opq (.rfrac ((plN (n.1,n.2.1,n.2.2,d.2)).1)),.pad,.pad,.opq (.rfrac ((plN (n.1,n.2.1,n.2.2,d.2)).2.1)),.pad,.pad,.opq (.rfrac ((plN (n.1,n.2.1,n.2.2,d.2)).2.2.1)),.pad,.pad,.opq (.rfrac ((plN (n.1,n.2.1,n.2.2,d.2)).2.2.2)),.pad,.pad])):=rfl
theorem r5MakS_ok (hP:PrgOk P) (args p r) (he:r5MakS args=some (p,r)) (hp:p):CSpec P 130 args r:=by
 unfold r5MakS at he
 split at he
 · simp only [Option.bind_eq_some_iff,Option.some.injEq,Prod.mk.injEq] at he
   obtain ⟨n,hhn,⟨ud,d⟩,hhd,rfl,rfl⟩:=he
   rw [rawX_inv hhn]
   exact (r5Mak_spec hP n d hp.2).cv (.agg (.refl _) (rawRF_cv hhd hp.1 (.refl _)))
 · simp at he
attribute [go_sem] r5MakS_eq
theorem r5Zero_spec (hP:PrgOk P) (a:V3) (hpre:True):CSpec P 129 [(.agg [.opq (.rfrac (a.1)),.pad,.pad,.opq (.rfrac (a.2.1)),.pad,.pad,.opq (.rfrac (a.2.2)),.pad,.pad])] (.bool (decide (a=v0))):=by
 have HE:=Mt1_all hP TF hP.tF
 refine CSpec.cv ?_ (CvL.agg (CvL.app (CvL.app (.rgI _) (.rgI _) rfl) (.rgI _) rfl) .nil)
 rw [← zrV_eq]
 unfold zrV
 obtain ⟨x,y,z⟩:=a
 have k:∀ q:Rat,((((digs 65536 q.num.natAbs).length:Nat):Int) == 0)=decide (q=0):=fun q=>by
  have h:=digs0 q.num.natAbs
  have e:(q=0)=(q.num.natAbs=0):=by rw [eq_iff_iff,Int.natAbs_eq_zero]; exact Rat.num_eq_zero.symm
  rw [decide_eq_decide.2 (iff_of_eq e),← h,Bool.eq_iff_iff]; simp
 show CSpec P 129 [.agg [.bool (decide (x.num<0)),(.imm (digs 65536 (x.num.natAbs)).length (List.map (fun d:Nat=>AV.int .u32 (d:Int)) (digs 65536 (x.num.natAbs)))),(.imm (digs 65536 (x.den)).length (List.map (fun d:Nat=>AV.int .u32 (d:Int)) (digs 65536 (x.den)))),.bool (decide (y.num<0)),(.imm (digs 65536 (y.num.natAbs)).length (List.map (fun d:Nat=>AV.int .u32 (d:Int)) (digs 65536 (y.num.natAbs)))),(.imm (digs 65536 (y.den)).length (List.map (fun d:Nat=>AV.int .u32 (d:Int)) (digs 65536 (y.den)))),.bool (decide (z.num<0)),(.imm (digs 65536 (z.num.natAbs)).length (List.map (fun d:Nat=>AV.int .u32 (d:Int)) (digs 65536 (z.num.natAbs)))),(.imm (digs 65536 (z.den)).length (List.map (fun d:Nat=>AV.int .u32 (d:Int)) (digs 65536 (z.den))))]] _
 refine CSpec_go (E:=⟨TF,Mt1⟩) (fn129 hP) HE hP.mix ?_
 by_cases c1:x=0
 · have c1':=decide_eq_true c1
   by_cases c2:y=0
   · have c2':=decide_eq_true c2
     simp only [go_sem,k,c1',c2']
     exact fin_z
   · have c2':=decide_eq_false c2
     simp only [go_sem,k,c1',c2']
     exact fin_z
 · have c1':=decide_eq_false c1
   simp only [go_sem,k,c1']
   exact fin_z
noncomputable def r5ZeroS:List AV→Option (Prop × AV)
 | [x0]=>(rawX x0).bind fun a=>some ((True),.bool (decide (a=v0)))
 | _=>none
theorem r5ZeroS_eq (x0):r5ZeroS [x0]=(rawX x0).bind fun a=>some ((True),.bool (decide (a=v0))):=rfl
theorem r5ZeroS_ok (hP:PrgOk P) (args p r) (he:r5ZeroS args=some (p,r)) (hp:p):CSpec P 129 args r:=by
 unfold r5ZeroS at he
 split at he
 · simp only [Option.bind_eq_some_iff,Option.some.injEq,Prod.mk.injEq] at he
   obtain ⟨a,hha,rfl,rfl⟩:=he
   rw [rawX_inv hha]
   exact r5Zero_spec hP a hp
 · simp at he
attribute [go_sem] r5ZeroS_eq
theorem r5Nrm_spec (hP:PrgOk P) (h:V4) (hpre:True):CSpec P 74 [(.agg [.opq (.rfrac (h.1)),.pad,.pad,.opq (.rfrac (h.2.1)),.pad,.pad,.opq (.rfrac (h.2.2.1)),.pad,.pad,.opq (.rfrac (h.2.2.2)),.pad,.pad])] ((.agg [.opq (.rfrac (h.1)),.pad,.pad,.opq (.rfrac (h.2.1)),.pad,.pad,.opq (.rfrac (h.2.2.1)),.pad,.pad])):=by
 have HE:=Mt1_all hP TF hP.tF
 refine CSpec_go (E:=⟨TF,Mt1⟩) (fn74 hP) HE hP.mix ?_
 simp only [go_sem]
 exact fin_z
noncomputable def r5NrmS:List AV→Option (Prop × AV)
 | [x0]=>(rawZ x0).bind fun h=>some ((True),(.agg [.opq (.rfrac (h.1)),.pad,.pad,.opq (.rfrac (h.2.1)),.pad,.pad,.opq (.rfrac (h.2.2.1)),.pad,.pad]))
 | _=>none
theorem r5NrmS_eq (x0):r5NrmS [x0]=(rawZ x0).bind fun h=>some ((True),(.agg [.opq (.rfrac (h.1)),.pad,.pad,.opq (.rfrac (h.2.1)),.pad,.pad,.opq (.rfrac (h.2.2.1)),.pad,.pad])):=rfl
theorem r5NrmS_ok (hP:PrgOk P) (args p r) (he:r5NrmS args=some (p,r)) (hp:p):CSpec P 74 args r:=by
 unfold r5NrmS at he
 split at he
 · simp only [Option.bind_eq_some_iff,Option.some.injEq,Prod.mk.injEq] at he
   obtain ⟨h,hhh,rfl,rfl⟩:=he
   rw [rawZ_inv hhh]
   exact r5Nrm_spec hP h hp
 · simp at he
attribute [go_sem] r5NrmS_eq
noncomputable def Mt2:Nat→List AV→Option (Prop × AV):=addS (addS (addS Mt1 130 r5MakS) 129 r5ZeroS) 74 r5NrmS
theorem Mt2_all (hP:PrgOk P) (T) (hT:TyOk P T):EnvOk P ⟨T,Mt2⟩:=((((Mt1_all hP T hT).add (r5MakS_ok hP)).add (r5ZeroS_ok hP)).add (r5NrmS_ok hP))
theorem Mt2_at (f a):Mt2 f a=(addS (addS (addS Mt1 130 r5MakS) 129 r5ZeroS) 74 r5NrmS) f a:=rfl
attribute [go_sem] Mt2_at
theorem pnr_fV {n:V3} {k:Nat} (h:fV n k) (hk:64≤k):fV (pnr n) k:=by
 unfold pnr; split
 · exact ⟨Nat.le_trans (fl_i64 (by decide) (by decide)) hk,Nat.le_trans (fl_i64 (by decide) (by decide)) hk,Nat.le_trans (fl_i64 (by decide) (by decide)) hk⟩
 · exact h
theorem vcq_fV {a b:V3} {n m:Nat} (ha:fV a n) (hb:fV b m):fV (vcq a b) (n+m+(n+m)+1) :=
 ⟨fl_qsub (fl_qmul ha.2.1 hb.2.2) (fl_qmul ha.2.2 hb.2.1),fl_qsub (fl_qmul ha.2.2 hb.1) (fl_qmul ha.1 hb.2.2),fl_qsub (fl_qmul ha.1 hb.2.1) (fl_qmul ha.2.1 hb.1)⟩
theorem patV_fl {h:V4} {p:V3} (hh:fP h 16777216) (hp:fV p 67108864):fl (patV h p)≤FB :=
 Nat.le_trans (fl_qsub (qdt_fl (pnr_fV (n:=nP h) ⟨hh.1,hh.2.1,hh.2.2.1⟩ (by decide)) hp) hh.2.2.2) (by decide)
noncomputable def patR (h:V4) (p:V3):Rat:=qsub (qdt (nP h) p) h.2.2.2
theorem r5At_spec (hP:PrgOk P) (h:V4) (p:V3) (hpre:fP h 16777216∧fV p 67108864):CSpec P 100 [(.agg [.opq (.rfrac (h.1)),.pad,.pad,.opq (.rfrac (h.2.1)),.pad,.pad,.opq (.rfrac (h.2.2.1)),.pad,.pad,.opq (.rfrac (h.2.2.2)),.pad,.pad]),(.agg [.opq (.rfrac (p.1)),.pad,.pad,.opq (.rfrac (p.2.1)),.pad,.pad,.opq (.rfrac (p.2.2)),.pad,.pad])] ((.agg [.opq (.rfrac (patR h p)),.pad,.pad])):=by
 have HE:=Mt2_all hP TF hP.tF
 obtain ⟨hh,hp⟩:=hpre
 have f1:fV (nP h) 16777216:=⟨hh.1,hh.2.1,hh.2.2.1⟩
 have f4:fl (qdt (h.1,h.2.1,h.2.2.1) (p.1,p.2.1,p.2.2))≤FB:=Nat.le_trans (qdt_fl f1 hp) (show _≤FB by decide)
 have f5:=Nat.le_trans hh.2.2.2 (show _≤FB by decide)
 obtain ⟨n1,n2,n3⟩:fl h.1≤67108864∧fl h.2.1≤67108864∧fl h.2.2.1≤67108864:=fV_mono f1 (show _≤67108864 by decide)
 obtain ⟨p1,p2,p3⟩:=hp
 unfold patR nP
 refine CSpec_go (E:=⟨TF,Mt2⟩) (fn100 hP) HE hP.mix ?_
 simp only [go_sem,n1,n2,n3,p1,p2,p3,f4,f5]
 exact fin_z
noncomputable def r5AtS:List AV→Option (Prop × AV)
 | [x0,x1]=>(rawZ x0).bind fun h=>(rawX x1).bind fun p=>some ((fP h 16777216∧fV p 67108864),(.agg [.opq (.rfrac (patR h p)),.pad,.pad]))
 | _=>none
theorem r5AtS_eq (x0 x1):r5AtS [x0,x1]=(rawZ x0).bind fun h=>(rawX x1).bind fun p=>some ((fP h 16777216∧fV p 67108864),(.agg [.opq (.rfrac (patR h p)),.pad,.pad])):=rfl
theorem r5AtS_ok (hP:PrgOk P) (args p r) (he:r5AtS args=some (p,r)) (hp:p):CSpec P 100 args r:=by
 unfold r5AtS at he
 split at he
 · simp only [Option.bind_eq_some_iff,Option.some.injEq,Prod.mk.injEq] at he
   obtain ⟨h,hhh,p,hhp,rfl,rfl⟩:=he
   rw [rawZ_inv hhh,rawX_inv hhp]
   exact r5At_spec hP h p hp
 · simp at he
attribute [go_sem] r5AtS_eq
theorem pSide_spec (hP:PrgOk P) (h:V4) (p:V3) (hpre:fP h 16777216∧fV p 67108864):CSpec P 46 [(.agg [.opq (.frac (h.1)),.pad,.pad,.pad,.pad,.opq (.frac (h.2.1)),.pad,.pad,.pad,.pad,.opq (.frac (h.2.2.1)),.pad,.pad,.pad,.pad,.opq (.frac (h.2.2.2)),.pad,.pad,.pad,.pad]),(.agg [.opq (.frac (p.1)),.pad,.pad,.pad,.pad,.opq (.frac (p.2.1)),.pad,.pad,.pad,.pad,.opq (.frac (p.2.2)),.pad,.pad,.pad,.pad])] (.int .i64 (cmpQ (patV h p) 0)):=by
 have HE:=Mt2_all hP TF hP.tF
 obtain ⟨⟨h1,h2,h3,h4⟩,p1,p2,p3⟩:=hpre
 have fa:wl (patV h p).num≤68719476736:=Nat.le_trans (fl_num (patV_fl ⟨h1,h2,h3,h4⟩ ⟨p1,p2,p3⟩)) (by decide)
 refine CSpec_go (E:=⟨TF,Mt2⟩) (fn46 hP) HE hP.mix ?_
 have fa':wl (patV (h.1,h.2.1,h.2.2.1,h.2.2.2) (p.1,p.2.1,p.2.2)).num≤68719476736:=fa
 simp only [go_sem,h1,h2,h3,h4,p1,p2,p3,fa']
 exact fin_z
noncomputable def pSideS:List AV→Option (Prop × AV)
 | [x0,x1]=>(rawP x0).bind fun h=>(rawV x1).bind fun p=>some ((fP h 16777216∧fV p 67108864),.int .i64 (cmpQ (patV h p) 0))
 | _=>none
theorem pSideS_eq (x0 x1):pSideS [x0,x1]=(rawP x0).bind fun h=>(rawV x1).bind fun p=>some ((fP h 16777216∧fV p 67108864),.int .i64 (cmpQ (patV h p) 0)):=rfl
theorem pSideS_ok (hP:PrgOk P) (args p r) (he:pSideS args=some (p,r)) (hp:p):CSpec P 46 args r:=by
 unfold pSideS at he
 split at he
 · simp only [Option.bind_eq_some_iff,Option.some.injEq,Prod.mk.injEq] at he
   obtain ⟨h,hhh,p,hhp,rfl,rfl⟩:=he
   rw [rawP_inv hhh,rawV_inv hhp]
   exact pSide_spec hP h p hp
 · simp at he
attribute [go_sem] pSideS_eq
theorem pPar_spec (hP:PrgOk P) (h:V4) (k:V4) (hpre:fP h 16777216∧fP k 16777216):CSpec P 45 [(.agg [.opq (.frac (h.1)),.pad,.pad,.pad,.pad,.opq (.frac (h.2.1)),.pad,.pad,.pad,.pad,.opq (.frac (h.2.2.1)),.pad,.pad,.pad,.pad,.opq (.frac (h.2.2.2)),.pad,.pad,.pad,.pad]),(.agg [.opq (.frac (k.1)),.pad,.pad,.pad,.pad,.opq (.frac (k.2.1)),.pad,.pad,.pad,.pad,.opq (.frac (k.2.2.1)),.pad,.pad,.pad,.pad,.opq (.frac (k.2.2.2)),.pad,.pad,.pad,.pad])] (.bool (decide (vcq (pnr (nP h)) (pnr (nP k))=v0))):=by
 have HE:=Mt2_all hP TF hP.tF
 obtain ⟨⟨h1,h2,h3,h4⟩,k1,k2,k3,k4⟩:=hpre
 have fh:fV (pnr (nP h)) 16777216:=pnr_fV ⟨h1,h2,h3⟩ (by decide)
 have fk:fV (pnr (nP k)) 16777216:=pnr_fV ⟨k1,k2,k3⟩ (by decide)
 have fc:=vcq_fV fh fk
 refine CSpec_go (E:=⟨TF,Mt2⟩) (fn45 hP) HE hP.mix ?_
 obtain ⟨m,hm⟩:∃ m,pnr (nP h)=m:=⟨_,rfl⟩
 obtain ⟨n,hn⟩:∃ n,pnr (nP k)=n:=⟨_,rfl⟩
 rw [hm,hn] at fc ⊢
 rw [hm] at fh
 rw [hn] at fk
 have hm':pnr (nP (h.1,h.2.1,h.2.2.1,h.2.2.2))=m:=hm
 have hn':pnr (nP (k.1,k.2.1,k.2.2.1,k.2.2.2))=n:=hn
 obtain ⟨c1,c2,c3⟩:=fV_mono fc (show _≤FB by decide)
 obtain ⟨m1,m2,m3⟩:=fV_mono fh (show _≤268435456 by decide)
 obtain ⟨n1,n2,n3⟩:=fV_mono fk (show _≤268435456 by decide)
 have H1:=Nat.le_trans h1 (show _≤FB by decide)
 have H2:=Nat.le_trans h2 (show _≤FB by decide)
 have H3:=Nat.le_trans h3 (show _≤FB by decide)
 have H4:=Nat.le_trans h4 (show _≤FB by decide)
 have K1:=Nat.le_trans k1 (show _≤FB by decide)
 have K2:=Nat.le_trans k2 (show _≤FB by decide)
 have K3:=Nat.le_trans k3 (show _≤FB by decide)
 have K4:=Nat.le_trans k4 (show _≤FB by decide)
 unfold vcq at c1 c2 c3
 unfold vcq
 simp only [go_sem,hm',hn',m1,m2,m3,n1,n2,n3,H1,H2,H3,H4,K1,K2,K3,K4,c1,c2,c3]
 exact fin_z
noncomputable def pParS:List AV→Option (Prop × AV)
 | [x0,x1]=>(rawP x0).bind fun h=>(rawP x1).bind fun k=>some ((fP h 16777216∧fP k 16777216),.bool (decide (vcq (pnr (nP h)) (pnr (nP k))=v0)))
 | _=>none
theorem pParS_eq (x0 x1):pParS [x0,x1]=(rawP x0).bind fun h=>(rawP x1).bind fun k=>some ((fP h 16777216∧fP k 16777216),.bool (decide (vcq (pnr (nP h)) (pnr (nP k))=v0))):=rfl
theorem pParS_ok (hP:PrgOk P) (args p r) (he:pParS args=some (p,r)) (hp:p):CSpec P 45 args r:=by
 unfold pParS at he
 split at he
 · simp only [Option.bind_eq_some_iff,Option.some.injEq,Prod.mk.injEq] at he
   obtain ⟨h,hhh,k,hhk,rfl,rfl⟩:=he
   rw [rawP_inv hhh,rawP_inv hhk]
   exact pPar_spec hP h k hp
 · simp at he
attribute [go_sem] pParS_eq
noncomputable def Mt3:Nat→List AV→Option (Prop × AV):=addS (addS (addS Mt2 100 r5AtS) 46 pSideS) 45 pParS
theorem Mt3_all (hP:PrgOk P) (T) (hT:TyOk P T):EnvOk P ⟨T,Mt3⟩:=((((Mt2_all hP T hT).add (r5AtS_ok hP)).add (pSideS_ok hP)).add (pParS_ok hP))
theorem Mt3_at (f a):Mt3 f a=(addS (addS (addS Mt2 100 r5AtS) 46 pSideS) 45 pParS) f a:=rfl
attribute [go_sem] Mt3_at
noncomputable def parC (a b c d:List Nat):V4 × Int :=
 if (parF a).2=0 then (if (parF b).2=0 then (if (parF c).2=0 then (if (parF d).2=0 then (plV ((parF a).1,(parF b).1,(parF c).1,(parF d).1),plE ((parF a).1,(parF b).1,(parF c).1,(parF d).1)) else ((0,0,0,0),(parF d).2)) else ((0,0,0,0),(parF c).2)) else ((0,0,0,0),(parF b).2)) else ((0,0,0,0),(parF a).2)
theorem pPars_spec (hP:PrgOk P) (x y z w:ByteArray) (hx:(bl x).length≤140737488355328) (hy:(bl y).length≤140737488355328) (hz:(bl z).length≤140737488355328) (hw:(bl w).length≤140737488355328):CSpec P 68 [.agg [.str x,.str y,.str z,.str w]] (.tup [(.agg [.opq (.frac (((parC (bl x) (bl y) (bl z) (bl w)).1).1)),.pad,.pad,.pad,.pad,.opq (.frac (((parC (bl x) (bl y) (bl z) (bl w)).1).2.1)),.pad,.pad,.pad,.pad,.opq (.frac (((parC (bl x) (bl y) (bl z) (bl w)).1).2.2.1)),.pad,.pad,.pad,.pad,.opq (.frac (((parC (bl x) (bl y) (bl z) (bl w)).1).2.2.2)),.pad,.pad,.pad,.pad]),.int .i64 (parC (bl x) (bl y) (bl z) (bl w)).2]):=by
 have HE:=Mt3_all hP TF hP.tF
 have w1:IntKind.i64.wrap (0+1)=1:=rfl
 have w2:IntKind.i64.wrap (1+1)=2:=rfl
 have w3:IntKind.i64.wrap (2+1)=3:=rfl
 have w4:IntKind.i64.wrap (3+1)=4:=rfl
 have n1:(1:Int).toNat=1:=rfl
 have le1:((0:Int)≤1)=True:=eq_true (by decide)
 have n2:(2:Int).toNat=2:=rfl
 have le2:((0:Int)≤2)=True:=eq_true (by decide)
 have n3:(3:Int).toNat=3:=rfl
 have le3:((0:Int)≤3)=True:=eq_true (by decide)
 have f1:=Nat.le_trans (parF_fl (bl x)) (show _≤4194304 by decide)
 have f2:=Nat.le_trans (parF_fl (bl y)) (show _≤4194304 by decide)
 have f3:=Nat.le_trans (parF_fl (bl z)) (show _≤4194304 by decide)
 have f4:=Nat.le_trans (parF_fl (bl w)) (show _≤4194304 by decide)
 unfold parC
 refine CSpec_go (E:=⟨TF,Mt3⟩) (fn68 hP) HE hP.mix ?_
 simp only [go_sem,le1,le2,le3,n1,n2,n3]
 refine trX_once HE hP.mix 51 150 (by kernel_rfl) ?_
 by_cases c1:(parF (bl x)).2=0
 · have c1':((parF (bl x)).2 != 0)=false:=by rw [c1]; rfl
   rw [if_pos c1]
   simp only [go_sem,w1,le1,le2,le3,n1,n2,n3,hx,c1']
   refine goX_once HE hP.mix 51 200 (by kernel_rfl) ?_
   by_cases c2:(parF (bl y)).2=0
   · have c2':((parF (bl y)).2 != 0)=false:=by rw [c2]; rfl
     rw [if_pos c2]
     simp only [go_sem,w2,le1,le2,le3,n1,n2,n3,hy,c2']
     try refine ⟨by simp,?_⟩
     refine goX_once HE hP.mix 51 250 (by kernel_rfl) ?_
     by_cases c3:(parF (bl z)).2=0
     · have c3':((parF (bl z)).2 != 0)=false:=by rw [c3]; rfl
       rw [if_pos c3]
       simp only [go_sem,w3,le1,le2,le3,n1,n2,n3,hz,c3']
       try refine ⟨by simp,?_⟩
       refine goX_once HE hP.mix 51 300 (by kernel_rfl) ?_
       by_cases c4:(parF (bl w)).2=0
       · have c4':((parF (bl w)).2 != 0)=false:=by rw [c4]; rfl
         rw [if_pos c4]
         simp only [go_sem,w4,le1,le2,le3,n1,n2,n3,hw,c4']
         try refine ⟨by simp,?_⟩
         refine goX_once HE hP.mix 51 350 (by kernel_rfl) ?_
         simp only [go_sem,f1,f2,f3,f4,le1,le2,le3,n1,n2,n3]
         exact fin_z
       · have c4':((parF (bl w)).2 != 0)=true:=by simpa using c4
         rw [if_neg c4]
         simp only [go_sem,w4,le1,le2,le3,n1,n2,n3,hw,c4']
         exact fin_z
     · have c3':((parF (bl z)).2 != 0)=true:=by simpa using c3
       rw [if_neg c3]
       simp only [go_sem,w3,le1,le2,le3,n1,n2,n3,hz,c3']
       exact fin_z
   · have c2':((parF (bl y)).2 != 0)=true:=by simpa using c2
     rw [if_neg c2]
     simp only [go_sem,w2,le1,le2,le3,n1,n2,n3,hy,c2']
     exact fin_z
 · have c1':((parF (bl x)).2 != 0)=true:=by simpa using c1
   rw [if_neg c1]
   simp only [go_sem,w1,le1,le2,le3,n1,n2,n3,hx,c1']
   exact fin_z
noncomputable def pParsS:List AV→Option (Prop × AV)
 | [.agg [.str x,.str y,.str z,.str w]]=>some ((bl x).length≤140737488355328∧(bl y).length≤140737488355328∧(bl z).length≤140737488355328∧(bl w).length≤140737488355328,.tup [(.agg [.opq (.frac (((parC (bl x) (bl y) (bl z) (bl w)).1).1)),.pad,.pad,.pad,.pad,.opq (.frac (((parC (bl x) (bl y) (bl z) (bl w)).1).2.1)),.pad,.pad,.pad,.pad,.opq (.frac (((parC (bl x) (bl y) (bl z) (bl w)).1).2.2.1)),.pad,.pad,.pad,.pad,.opq (.frac (((parC (bl x) (bl y) (bl z) (bl w)).1).2.2.2)),.pad,.pad,.pad,.pad]),.int .i64 (parC (bl x) (bl y) (bl z) (bl w)).2])
 | _=>none
theorem pParsS_ok (hP:PrgOk P) (args p r) (h:pParsS args=some (p,r)) (hp:p):CSpec P 68 args r:=by
 unfold pParsS at h
 split at h
 · simp only [Option.some.injEq,Prod.mk.injEq] at h
   obtain ⟨rfl,rfl⟩:=h
   exact pPars_spec hP _ _ _ _ hp.1 hp.2.1 hp.2.2.1 hp.2.2.2
 · simp at h
attribute [go_sem] pParsS
theorem r5Pars_spec (hP:PrgOk P) (x y z w:ByteArray) (hx:(bl x).length≤140737488355328) (hy:(bl y).length≤140737488355328) (hz:(bl z).length≤140737488355328) (hw:(bl w).length≤140737488355328):CSpec P 69 [.agg [.str x,.str y,.str z,.str w]] (if (parC (bl x) (bl y) (bl z) (bl w)).2=0 then .tup [(.agg [.opq (.rfrac (((parC (bl x) (bl y) (bl z) (bl w)).1).1)),.pad,.pad,.opq (.rfrac (((parC (bl x) (bl y) (bl z) (bl w)).1).2.1)),.pad,.pad,.opq (.rfrac (((parC (bl x) (bl y) (bl z) (bl w)).1).2.2.1)),.pad,.pad,.opq (.rfrac (((parC (bl x) (bl y) (bl z) (bl w)).1).2.2.2)),.pad,.pad]),.int .i64 0] else .tup [(.agg [.bool false,.nils,.nils,.bool false,.nils,.nils,.bool false,.nils,.nils,.bool false,.nils,.nils]),.int .i64 (parC (bl x) (bl y) (bl z) (bl w)).2]):=by
 have HE:=Mt3_all hP TF hP.tF
 have w1:IntKind.i64.wrap (0+1)=1:=rfl
 have w2:IntKind.i64.wrap (1+1)=2:=rfl
 have w3:IntKind.i64.wrap (2+1)=3:=rfl
 have w4:IntKind.i64.wrap (3+1)=4:=rfl
 have n1:(1:Int).toNat=1:=rfl
 have le1:((0:Int)≤1)=True:=eq_true (by decide)
 have n2:(2:Int).toNat=2:=rfl
 have le2:((0:Int)≤2)=True:=eq_true (by decide)
 have n3:(3:Int).toNat=3:=rfl
 have le3:((0:Int)≤3)=True:=eq_true (by decide)
 have f1:=Nat.le_trans (parF_fl (bl x)) (show _≤4194304 by decide)
 have f2:=Nat.le_trans (parF_fl (bl y)) (show _≤4194304 by decide)
 have f3:=Nat.le_trans (parF_fl (bl z)) (show _≤4194304 by decide)
 have f4:=Nat.le_trans (parF_fl (bl w)) (show _≤4194304 by decide)
 unfold parC
 refine CSpec_go (E:=⟨TF,Mt3⟩) (fn69 hP) HE hP.mix ?_
 simp only [go_sem,le1,le2,le3,n1,n2,n3]
 refine trX_once HE hP.mix 48 150 (by kernel_rfl) ?_
 by_cases c1:(parF (bl x)).2=0
 · have c1':((parF (bl x)).2 != 0)=false:=by rw [c1]; rfl
   rw [if_pos c1]
   simp only [go_sem,w1,le1,le2,le3,n1,n2,n3,hx,c1']
   refine goX_once HE hP.mix 48 200 (by kernel_rfl) ?_
   by_cases c2:(parF (bl y)).2=0
   · have c2':((parF (bl y)).2 != 0)=false:=by rw [c2]; rfl
     rw [if_pos c2]
     simp only [go_sem,w2,le1,le2,le3,n1,n2,n3,hy,c2']
     refine goX_once HE hP.mix 48 250 (by kernel_rfl) ?_
     by_cases c3:(parF (bl z)).2=0
     · have c3':((parF (bl z)).2 != 0)=false:=by rw [c3]; rfl
       rw [if_pos c3]
       simp only [go_sem,w3,le1,le2,le3,n1,n2,n3,hz,c3']
       refine goX_once HE hP.mix 48 300 (by kernel_rfl) ?_
       by_cases c4:(parF (bl w)).2=0
       · have c4':((parF (bl w)).2 != 0)=false:=by rw [c4]; rfl
         rw [if_pos c4]
         simp only [go_sem,w4,le1,le2,le3,n1,n2,n3,hw,c4']
         refine goX_once HE hP.mix 48 350 (by kernel_rfl) ?_
         by_cases hv:nP ((parF (bl x)).1,(parF (bl y)).1,(parF (bl z)).1,(parF (bl w)).1)=v0
         · have hv':decide ((((parF (bl x)).1,(parF (bl y)).1,(parF (bl z)).1):V3)=v0)=true:=decide_eq_true hv
           have e1:plE ((parF (bl x)).1,(parF (bl y)).1,(parF (bl z)).1,(parF (bl w)).1)=2:=if_pos hv
           rw [e1,if_neg (by decide:¬ (2:Int)=0)]
           simp only [go_sem,le1,le2,le3,n1,n2,n3,hv']
           exact fin_z
         · have hv':decide ((((parF (bl x)).1,(parF (bl y)).1,(parF (bl z)).1):V3)=v0)=false:=decide_eq_false hv
           have e1:plE ((parF (bl x)).1,(parF (bl y)).1,(parF (bl z)).1,(parF (bl w)).1)=0:=if_neg hv
           have e2:plV ((parF (bl x)).1,(parF (bl y)).1,(parF (bl z)).1,(parF (bl w)).1)=plN ((parF (bl x)).1,(parF (bl y)).1,(parF (bl z)).1,(parF (bl w)).1):=if_neg hv
           rw [e1,e2,if_pos rfl]
           simp only [go_sem,le1,le2,le3,n1,n2,n3,hv',hv,ne_eq,not_false_eq_true,f1,f2,f3,f4]
           exact fin_z
       · have c4':((parF (bl w)).2 != 0)=true:=by simpa using c4
         rw [if_neg c4,if_neg c4]
         simp only [go_sem,w4,le1,le2,le3,n1,n2,n3,hw,c4']
         exact fin_z
     · have c3':((parF (bl z)).2 != 0)=true:=by simpa using c3
       rw [if_neg c3,if_neg c3]
       simp only [go_sem,w3,le1,le2,le3,n1,n2,n3,hz,c3']
       exact fin_z
   · have c2':((parF (bl y)).2 != 0)=true:=by simpa using c2
     rw [if_neg c2,if_neg c2]
     simp only [go_sem,w2,le1,le2,le3,n1,n2,n3,hy,c2']
     exact fin_z
 · have c1':((parF (bl x)).2 != 0)=true:=by simpa using c1
   rw [if_neg c1,if_neg c1]
   simp only [go_sem,w1,le1,le2,le3,n1,n2,n3,hx,c1']
   exact fin_z
noncomputable def r5ParsS:List AV→Option (Prop × AV)
 | [.agg [.str x,.str y,.str z,.str w]]=>some ((bl x).length≤140737488355328∧(bl y).length≤140737488355328∧(bl z).length≤140737488355328∧(bl w).length≤140737488355328,if (parC (bl x) (bl y) (bl z) (bl w)).2=0 then .tup [(.agg [.opq (.rfrac (((parC (bl x) (bl y) (bl z) (bl w)).1).1)),.pad,.pad,.opq (.rfrac (((parC (bl x) (bl y) (bl z) (bl w)).1).2.1)),.pad,.pad,.opq (.rfrac (((parC (bl x) (bl y) (bl z) (bl w)).1).2.2.1)),.pad,.pad,.opq (.rfrac (((parC (bl x) (bl y) (bl z) (bl w)).1).2.2.2)),.pad,.pad]),.int .i64 0] else .tup [(.agg [.bool false,.nils,.nils,.bool false,.nils,.nils,.bool false,.nils,.nils,.bool false,.nils,.nils]),.int .i64 (parC (bl x) (bl y) (bl z) (bl w)).2])
 | _=>none
theorem r5ParsS_ok (hP:PrgOk P) (args p r) (h:r5ParsS args=some (p,r)) (hp:p):CSpec P 69 args r:=by
 unfold r5ParsS at h
 split at h
 · simp only [Option.some.injEq,Prod.mk.injEq] at h
   obtain ⟨rfl,rfl⟩:=h
   exact r5Pars_spec hP _ _ _ _ hp.1 hp.2.1 hp.2.2.1 hp.2.2.2
 · simp at h
attribute [go_sem] r5ParsS
noncomputable def Mt4:Nat→List AV→Option (Prop × AV):=addS (addS Mt3 68 pParsS) 69 r5ParsS
theorem Mt4_all (hP:PrgOk P) (T) (hT:TyOk P T):EnvOk P ⟨T,Mt4⟩:=(((Mt3_all hP T hT).add (pParsS_ok hP)).add (r5ParsS_ok hP))
theorem Mt4_at (f a):Mt4 f a=(addS (addS Mt3 68 pParsS) 69 r5ParsS) f a:=rfl
attribute [go_sem] Mt4_at
def cellsY:List AV→Option LN
 | [.opq (.rfrac (x)),.pad,.pad,.opq (.rfrac (y)),.pad,.pad,.opq (.rfrac (z)),.pad,.pad,.opq (.rfrac (u)),.pad,.pad,.opq (.rfrac (v)),.pad,.pad,.opq (.rfrac (w)),.pad,.pad]=>some ((x,y,z),(u,v,w))
 | _=>none
theorem cellsY_eq (x y z u v w):cellsY [.opq (.rfrac (x)),.pad,.pad,.opq (.rfrac (y)),.pad,.pad,.opq (.rfrac (z)),.pad,.pad,.opq (.rfrac (u)),.pad,.pad,.opq (.rfrac (v)),.pad,.pad,.opq (.rfrac (w)),.pad,.pad]=some ((x,y,z),(u,v,w)):=rfl
theorem cellsY_inv {A:List AV} {l:LN} (h:cellsY A=some l):A=[.opq (.rfrac (l.1.1)),.pad,.pad,.opq (.rfrac (l.1.2.1)),.pad,.pad,.opq (.rfrac (l.1.2.2)),.pad,.pad,.opq (.rfrac (l.2.1)),.pad,.pad,.opq (.rfrac (l.2.2.1)),.pad,.pad,.opq (.rfrac (l.2.2.2)),.pad,.pad]:=by
 unfold cellsY at h
 split at h
 · simp only [Option.some.injEq] at h; subst h; rfl
 · simp at h
def rawY:AV→Option LN
 | .agg A=>cellsY A
 | _=>none
theorem rawY_eq (A):rawY (.agg A)=cellsY A:=rfl
theorem rawY_inv {v:AV} {l:LN} (h:rawY v=some l):v=(.agg [.opq (.rfrac (l.1.1)),.pad,.pad,.opq (.rfrac (l.1.2.1)),.pad,.pad,.opq (.rfrac (l.1.2.2)),.pad,.pad,.opq (.rfrac (l.2.1)),.pad,.pad,.opq (.rfrac (l.2.2.1)),.pad,.pad,.opq (.rfrac (l.2.2.2)),.pad,.pad]):=by
 unfold rawY at h
 split at h
 · rw [cellsY_inv h]
 · simp at h
attribute [go_sem] cellsY_eq rawY_eq
noncomputable def ax1:V3:=(((1:Int):Rat),((0:Int):Rat),((0:Int):Rat))
noncomputable def rlM (p d:V3):LN:=if d=v0 then ((((0:Int):Rat),((0:Int):Rat),((0:Int):Rat)),ax1) else (lnP p (nrm d),nrm d)
theorem rlMake_spec (hP:PrgOk P) (p d:V3) (hp:fV p 1048576) (hd:fV d 1048576):CSpec P 12 [(.agg [.opq (.rfrac (p.1)),.pad,.pad,.opq (.rfrac (p.2.1)),.pad,.pad,.opq (.rfrac (p.2.2)),.pad,.pad]),(.agg [.opq (.rfrac (d.1)),.pad,.pad,.opq (.rfrac (d.2.1)),.pad,.pad,.opq (.rfrac (d.2.2)),.pad,.pad])] (.tup [(.agg [.opq (.rfrac ((rlM p d).1.1)),.pad,.pad,.opq (.rfrac ((rlM p d).1.2.1)),.pad,.pad,.opq (.rfrac ((rlM p d).1.2.2)),.pad,.pad,.opq (.rfrac ((rlM p d).2.1)),.pad,.pad,.opq (.rfrac ((rlM p d).2.2.1)),.pad,.pad,.opq (.rfrac ((rlM p d).2.2.2)),.pad,.pad]),.int .i64 (lnE d)]):=by
 have HE:=Pt3_all hP TF hP.tF
 unfold rlM lnE
 have bi:((-9223372036854775808:Int)≤0∧(0:Int)≤9223372036854775807)=True:=eq_true (by decide)
 have bj:((-9223372036854775808:Int)≤1∧(1:Int)≤9223372036854775807)=True:=eq_true (by decide)
 refine CSpec_go (E:=⟨TF,Pt3⟩) (fn12 hP) HE hP.mix ?_
 by_cases hz:d=v0
 · have hz':decide (((d.1,d.2.1,d.2.2):V3)=v0)=true:=decide_eq_true hz
   rw [if_pos hz,if_pos hz]
   unfold ax1
   simp only [go_sem,hz',bi,bj]
   refine icX_vc (E:=⟨TF,Pt3⟩) (fn37 hP) HE hP.mix rfl rfl (Nat.le_of_ble_eq_true rfl) 100 ?_
   simp only [go_sem,bi,bj]
   unfold finX
   simp only [go_sem]
   exact fin_z
 have hz':decide (((d.1,d.2.1,d.2.2):V3)=v0)=false:=decide_eq_false hz
 rw [if_neg hz,if_neg hz]
 have hen:=nrm_nz hz
 have fe:=nrm_fV hd
 obtain ⟨x1,x2,x3⟩:=fV_mono hd (show _≤268435456 by decide)
 have fa:=dir_fV hd
 obtain ⟨a,ha⟩:∃ a,dirA (d.1,d.2.1,d.2.2)=a:=⟨_,rfl⟩
 have hda:dirA d=a:=ha
 rw [hda] at fa
 obtain ⟨A1,A2,A3⟩:=fV_mono fa (show _≤FB by decide)
 have f0:fl ((0:Int):Rat)≤FB:=Nat.le_trans (fl_i64 (by decide) (by decide)) (by decide)
 obtain ⟨P1,P2,P3⟩:=fV_mono hp (show _≤FB by decide)
 obtain ⟨Q1,Q2,Q3⟩:=fV_mono hp (show _≤67108864 by decide)
 by_cases hc:cmpV a v0<0
 · have hc':decide (cmpV (a.1,a.2.1,a.2.2) (((0:Int):Rat),((0:Int):Rat),((0:Int):Rat))<0)=true:=decide_eq_true hc
   have hn:nrm d=(qneg a.1,qneg a.2.1,qneg a.2.2):=by unfold nrm; rw [hda,if_pos hc]; rfl
   obtain ⟨e,he⟩:∃ e:V3,(qneg a.1,qneg a.2.1,qneg a.2.2)=e:=⟨_,rfl⟩
   have e1:qneg a.1=e.1:=congrArg (·.1) he
   have e2:qneg a.2.1=e.2.1:=congrArg (·.2.1) he
   have e3:qneg a.2.2=e.2.2:=congrArg (·.2.2) he
   rw [hn,he] at fe hen ⊢
   obtain ⟨E1,E2,E3⟩:=fV_mono fe (show _≤FB by decide)
   obtain ⟨F1,F2,F3⟩:=fV_mono fe (show _≤67108864 by decide)
   have g1:=qdt_fl (a:=p) (b:=e) hp fe
   have g2:=qdt_fl (a:=e) (b:=e) fe fe
   have hq:qdt e e ≠ 0:=by rw [qdt_vdt]; exact dt_self hen
   have hq':(qdt ((e).1,(e).2.1,(e).2.2) ((e).1,(e).2.1,(e).2.2)=0)=False:=eq_false hq
   have g1':fl (qdt (p.1,p.2.1,p.2.2) ((e).1,(e).2.1,(e).2.2))≤FB:=Nat.le_trans g1 (by decide)
   have g2':fl (qdt ((e).1,(e).2.1,(e).2.2) ((e).1,(e).2.1,(e).2.2))≤FB:=Nat.le_trans g2 (by decide)
   obtain ⟨t,ht⟩:∃ t,qdiv (qdt (p.1,p.2.1,p.2.2) ((e).1,(e).2.1,(e).2.2)) (qdt ((e).1,(e).2.1,(e).2.2) ((e).1,(e).2.1,(e).2.2))=t:=⟨_,rfl⟩
   have ft:=fl_qdiv g1 g2
   have ht':lnT p e=t:=ht
   rw [show qdiv (qdt p e) (qdt e e)=t from ht] at ft
   have ft':fl t≤FB:=Nat.le_trans ft (by decide)
   have m1:=Nat.le_trans (fl_qmul ft fe.1) (show _≤FB by decide)
   have m2:=Nat.le_trans (fl_qmul ft fe.2.1) (show _≤FB by decide)
   have m3:=Nat.le_trans (fl_qmul ft fe.2.2) (show _≤FB by decide)
   unfold lnP
   rw [ht']
   simp only [go_sem,hz',bi,x1,x2,x3,ha,A1,A2,A3,f0,E1,E2,E3,F1,F2,F3,P1,P2,P3,Q1,Q2,Q3,hq',g1',g2',ht,ft',m1,m2,m3,ne_eq,not_false_eq_true,hc',e1,e2,e3]
   exact fin_z
 · have hc':decide (cmpV (a.1,a.2.1,a.2.2) (((0:Int):Rat),((0:Int):Rat),((0:Int):Rat))<0)=false:=decide_eq_false hc
   have hn:nrm d=a:=by unfold nrm; rw [hda,if_neg hc]
   rw [hn] at fe hen ⊢
   obtain ⟨E1,E2,E3⟩:=fV_mono fe (show _≤FB by decide)
   obtain ⟨F1,F2,F3⟩:=fV_mono fe (show _≤67108864 by decide)
   have g1:=qdt_fl (a:=p) (b:=a) hp fe
   have g2:=qdt_fl (a:=a) (b:=a) fe fe
   have hq:qdt a a ≠ 0:=by rw [qdt_vdt]; exact dt_self hen
   have hq':(qdt ((a).1,(a).2.1,(a).2.2) ((a).1,(a).2.1,(a).2.2)=0)=False:=eq_false hq
   have g1':fl (qdt (p.1,p.2.1,p.2.2) ((a).1,(a).2.1,(a).2.2))≤FB:=Nat.le_trans g1 (by decide)
   have g2':fl (qdt ((a).1,(a).2.1,(a).2.2) ((a).1,(a).2.1,(a).2.2))≤FB:=Nat.le_trans g2 (by decide)
   obtain ⟨t,ht⟩:∃ t,qdiv (qdt (p.1,p.2.1,p.2.2) ((a).1,(a).2.1,(a).2.2)) (qdt ((a).1,(a).2.1,(a).2.2) ((a).1,(a).2.1,(a).2.2))=t:=⟨_,rfl⟩
   have ft:=fl_qdiv g1 g2
   have ht':lnT p a=t:=ht
   rw [show qdiv (qdt p a) (qdt a a)=t from ht] at ft
   have ft':fl t≤FB:=Nat.le_trans ft (by decide)
   have m1:=Nat.le_trans (fl_qmul ft fe.1) (show _≤FB by decide)
   have m2:=Nat.le_trans (fl_qmul ft fe.2.1) (show _≤FB by decide)
   have m3:=Nat.le_trans (fl_qmul ft fe.2.2) (show _≤FB by decide)
   unfold lnP
   rw [ht']
   simp only [go_sem,hz',bi,x1,x2,x3,ha,A1,A2,A3,f0,E1,E2,E3,F1,F2,F3,P1,P2,P3,Q1,Q2,Q3,hq',g1',g2',ht,ft',m1,m2,m3,ne_eq,not_false_eq_true,hc']
   exact fin_z
theorem bw {x:V3} {n:Nat} (h:fV x n) (hn:n≤8388608):(fl x.1≤8388608∧fl x.2.1≤8388608∧fl x.2.2≤8388608)∧(fl x.1≤16777216∧fl x.2.1≤16777216∧fl x.2.2≤16777216)∧(fl x.1≤67108864∧fl x.2.1≤67108864∧fl x.2.2≤67108864)∧(fl x.1≤268435456∧fl x.2.1≤268435456∧fl x.2.2≤268435456)∧(fl x.1≤FB∧fl x.2.1≤FB∧fl x.2.2≤FB) :=
 ⟨fV_mono h hn,fV_mono h (by omega),fV_mono h (by omega),fV_mono h (by omega),fV_mono h (Nat.le_trans hn (by decide))⟩
theorem bt {x:V3} {n:Nat} (h:fV x n) (hn:n≤67108864):(fl x.1≤67108864∧fl x.2.1≤67108864∧fl x.2.2≤67108864)∧(fl x.1≤268435456∧fl x.2.1≤268435456∧fl x.2.2≤268435456)∧(fl x.1≤FB∧fl x.2.1≤FB∧fl x.2.2≤FB) :=
 ⟨fV_mono h hn,fV_mono h (by omega),fV_mono h (Nat.le_trans hn (by decide))⟩
theorem bf {x:V3} {n:Nat} (h:fV x n) (hn:n≤FB):fl x.1≤FB∧fl x.2.1≤FB∧fl x.2.2≤FB:=fV_mono h hn
theorem bm {x:V3} {n:Nat} (h:fV x n) (hn:n≤1048576):fl x.1≤1048576∧fl x.2.1≤1048576∧fl x.2.2≤1048576:=fV_mono h hn
theorem b18 {x:V3} {n:Nat} (h:fV x n) (hn:n≤262144):fl x.1≤262144∧fl x.2.1≤262144∧fl x.2.2≤262144:=fV_mono h hn
theorem b16 {x:V3} {n:Nat} (h:fV x n) (hn:n≤65536):fl x.1≤65536∧fl x.2.1≤65536∧fl x.2.2≤65536:=fV_mono h hn
theorem b22 {x:V3} {n:Nat} (h:fV x n) (hn:n≤4194304):fl x.1≤4194304∧fl x.2.1≤4194304∧fl x.2.2≤4194304:=fV_mono h hn
theorem fk {x:Rat} {n:Nat} (h:fl x≤n) (hn:n≤FB):fl x≤FB∧wl x.num≤68719476736 :=
 ⟨Nat.le_trans h hn,Nat.le_trans (fl_num h) (Nat.le_trans hn (by decide))⟩
noncomputable def vadq (a b:V3):V3:=(qadd a.1 b.1,qadd a.2.1 b.2.1,qadd a.2.2 b.2.2)
noncomputable def vscq (k:Rat) (a:V3):V3:=(qmul k a.1,qmul k a.2.1,qmul k a.2.2)
theorem vsbq_c {a b v:V3} (h:vsbq a b=v):qsub a.1 b.1=v.1∧qsub a.2.1 b.2.1=v.2.1∧qsub a.2.2 b.2.2=v.2.2:=by subst h; exact ⟨rfl,rfl,rfl⟩
theorem vadq_c {a b v:V3} (h:vadq a b=v):qadd a.1 b.1=v.1∧qadd a.2.1 b.2.1=v.2.1∧qadd a.2.2 b.2.2=v.2.2:=by subst h; exact ⟨rfl,rfl,rfl⟩
theorem vscq_c {k:Rat} {a v:V3} (h:vscq k a=v):qmul k a.1=v.1∧qmul k a.2.1=v.2.1∧qmul k a.2.2=v.2.2:=by subst h; exact ⟨rfl,rfl,rfl⟩
theorem vcq_c {a b v:V3} (h:vcq a b=v):(vcq (a.1,a.2.1,a.2.2) (b.1,b.2.1,b.2.2)=v)∧qsub (qmul a.2.1 b.2.2) (qmul a.2.2 b.2.1)=v.1∧qsub (qmul a.2.2 b.1) (qmul a.1 b.2.2)=v.2.1∧qsub (qmul a.1 b.2.1) (qmul a.2.1 b.1)=v.2.2:=by subst h; exact ⟨rfl,rfl,rfl,rfl⟩
theorem qdt_c {a b:V3} {k:Rat} (h:qdt a b=k):qdt (a.1,a.2.1,a.2.2) (b.1,b.2.1,b.2.2)=k:=h
theorem ldr_c {a v:V3} (h:ldr a=v):ldr (a.1,a.2.1,a.2.2)=v:=h
theorem nz_c {a:V3} {b:Bool} (h:decide (a=v0)=b):decide (((a.1,a.2.1,a.2.2):V3)=v0)=b:=h
theorem vsbq_fV {a b:V3} {n m:Nat} (ha:fV a n) (hb:fV b m):fV (vsbq a b) (n+m+1):=⟨fl_qsub ha.1 hb.1,fl_qsub ha.2.1 hb.2.1,fl_qsub ha.2.2 hb.2.2⟩
theorem vadq_fV {a b:V3} {n m:Nat} (ha:fV a n) (hb:fV b m):fV (vadq a b) (n+m+1):=⟨fl_qadd ha.1 hb.1,fl_qadd ha.2.1 hb.2.1,fl_qadd ha.2.2 hb.2.2⟩
theorem vscq_fV {k:Rat} {a:V3} {n m:Nat} (hk:fl k≤n) (ha:fV a m):fV (vscq k a) (n+m):=⟨fl_qmul hk ha.1,fl_qmul hk ha.2.1,fl_qmul hk ha.2.2⟩
theorem vsbq_vsb (a b:V3):vsbq a b=vsb a b:=by unfold vsbq vsb; simp only [qsub_eq]
theorem vadq_vad (a b:V3):vadq a b=vad a b:=by unfold vadq vad; simp only [qadd_eq]
theorem vscq_vsc (k:Rat) (a:V3):vscq k a=vsc k a:=by unfold vscq vsc; simp only [qmul_eq]
noncomputable def atQ (p d:V3) (t:Rat):V3:=vadq p (vscq t d)
theorem atQ_eq (p d:V3) (t:Rat):atQ p d t=vad p (vsc t d):=by unfold atQ; rw [vadq_vad,vscq_vsc]
theorem atQ_fV {p d:V3} {t:Rat} {n m k:Nat} (hp:fV p n) (hd:fV d m) (ht:fl t≤k):fV (atQ p d t) (n+(k+m)+1):=vadq_fV hp (vscq_fV ht hd)
noncomputable def plcQ (p d q:V3):Rat × Bool:=if vcq (vsbq q p) d=v0 then (qdiv (qdt (vsbq q p) d) (qdt d d),true) else (0,false)
noncomputable def plnQ (p d n:V3) (o:Rat):Rat × Bool × Int :=
 if qdt n d=0 then (if qsub (qdt n p) o=0 then (0,true,0) else (0,false,60)) else (qdiv (qneg (qsub (qdt n p) o)) (qdt n d),false,0)
noncomputable def linQ (p d q c:V3):V3 × Int :=
 if vcq d c=v0 then (v0,60) else if qdt (vsbq q p) (vcq d c)=0 then (atQ p d (qdiv (qdt (vcq (vsbq q p) c) (vcq d c)) (qdt (vcq d c) (vcq d c))),0) else (v0,60)
noncomputable def cmpL (l m:LN):Int:=if cmpV l.2 m.2=0 then cmpV l.1 m.1 else cmpV l.2 m.2
theorem ldr_ne (a:V3):ldr a ≠ v0:=by
 unfold ldr; split
 · intro h; exact absurd (Rat.intCast_inj.1 (congrArg (·.1) h:((1:Int):Rat)=((0:Int):Rat))) (by decide)
 · assumption
theorem qdt_ne {a:V3} (h:a ≠ v0):qdt a a ≠ 0:=by rw [qdt_vdt]; exact dt_self h
theorem lThg_spec (hP:PrgOk P) (p:V3) (q:V3) (hpre:fV p 262144∧fV q 262144):CSpec P 13 [(.agg [.opq (.frac (p.1)),.pad,.pad,.pad,.pad,.opq (.frac (p.2.1)),.pad,.pad,.pad,.pad,.opq (.frac (p.2.2)),.pad,.pad,.pad,.pad]),(.agg [.opq (.frac (q.1)),.pad,.pad,.pad,.pad,.opq (.frac (q.2.1)),.pad,.pad,.pad,.pad,.opq (.frac (q.2.2)),.pad,.pad,.pad,.pad])] (.tup [(.agg [.opq (.frac ((lnM p (vsbq q p)).1.1)),.pad,.pad,.pad,.pad,.opq (.frac ((lnM p (vsbq q p)).1.2.1)),.pad,.pad,.pad,.pad,.opq (.frac ((lnM p (vsbq q p)).1.2.2)),.pad,.pad,.pad,.pad,.opq (.frac ((lnM p (vsbq q p)).2.1)),.pad,.pad,.pad,.pad,.opq (.frac ((lnM p (vsbq q p)).2.2.1)),.pad,.pad,.pad,.pad,.opq (.frac ((lnM p (vsbq q p)).2.2.2)),.pad,.pad,.pad,.pad]),.int .i64 (lnE (vsbq q p))]):=by
 exact lThr_spec hP p q hpre.1 hpre.2
noncomputable def lThgS:List AV→Option (Prop × AV)
 | [x0,x1]=>(rawV x0).bind fun p=>(rawV x1).bind fun q=>some ((fV p 262144∧fV q 262144),.tup [(.agg [.opq (.frac ((lnM p (vsbq q p)).1.1)),.pad,.pad,.pad,.pad,.opq (.frac ((lnM p (vsbq q p)).1.2.1)),.pad,.pad,.pad,.pad,.opq (.frac ((lnM p (vsbq q p)).1.2.2)),.pad,.pad,.pad,.pad,.opq (.frac ((lnM p (vsbq q p)).2.1)),.pad,.pad,.pad,.pad,.opq (.frac ((lnM p (vsbq q p)).2.2.1)),.pad,.pad,.pad,.pad,.opq (.frac ((lnM p (vsbq q p)).2.2.2)),.pad,.pad,.pad,.pad]),.int .i64 (lnE (vsbq q p))])
 | _=>none
theorem lThgS_eq (x0 x1):lThgS [x0,x1]=(rawV x0).bind fun p=>(rawV x1).bind fun q=>some ((fV p 262144∧fV q 262144),.tup [(.agg [.opq (.frac ((lnM p (vsbq q p)).1.1)),.pad,.pad,.pad,.pad,.opq (.frac ((lnM p (vsbq q p)).1.2.1)),.pad,.pad,.pad,.pad,.opq (.frac ((lnM p (vsbq q p)).1.2.2)),.pad,.pad,.pad,.pad,.opq (.frac ((lnM p (vsbq q p)).2.1)),.pad,.pad,.pad,.pad,.opq (.frac ((lnM p (vsbq q p)).2.2.1)),.pad,.pad,.pad,.pad,.opq (.frac ((lnM p (vsbq q p)).2.2.2)),.pad,.pad,.pad,.pad]),.int .i64 (lnE (vsbq q p))]):=rfl
theorem lThgS_ok (hP:PrgOk P) (args p r) (he:lThgS args=some (p,r)) (hp:p):CSpec P 13 args r:=by
 unfold lThgS at he
 split at he
 · simp only [Option.bind_eq_some_iff,Option.some.injEq,Prod.mk.injEq] at he
   obtain ⟨p,hhp,q,hhq,rfl,rfl⟩:=he
   rw [rawV_inv hhp,rawV_inv hhq]
   exact lThg_spec hP p q hp
 · simp at he
attribute [go_sem] lThgS_eq
theorem rlMak_spec (hP:PrgOk P) (p:V3) (d:V3) (hpre:fV p 1048576∧fV d 1048576):CSpec P 12 [(.agg [.opq (.rfrac (p.1)),.pad,.pad,.opq (.rfrac (p.2.1)),.pad,.pad,.opq (.rfrac (p.2.2)),.pad,.pad]),(.agg [.opq (.rfrac (d.1)),.pad,.pad,.opq (.rfrac (d.2.1)),.pad,.pad,.opq (.rfrac (d.2.2)),.pad,.pad])] (.tup [(.agg [.opq (.rfrac ((rlM p d).1.1)),.pad,.pad,.opq (.rfrac ((rlM p d).1.2.1)),.pad,.pad,.opq (.rfrac ((rlM p d).1.2.2)),.pad,.pad,.opq (.rfrac ((rlM p d).2.1)),.pad,.pad,.opq (.rfrac ((rlM p d).2.2.1)),.pad,.pad,.opq (.rfrac ((rlM p d).2.2.2)),.pad,.pad]),.int .i64 (lnE d)]):=by
 exact rlMake_spec hP p d hpre.1 hpre.2
noncomputable def rlMakS:List AV→Option (Prop × AV)
 | [x0,x1]=>(rawX x0).bind fun p=>(rawX x1).bind fun d=>some ((fV p 1048576∧fV d 1048576),.tup [(.agg [.opq (.rfrac ((rlM p d).1.1)),.pad,.pad,.opq (.rfrac ((rlM p d).1.2.1)),.pad,.pad,.opq (.rfrac ((rlM p d).1.2.2)),.pad,.pad,.opq (.rfrac ((rlM p d).2.1)),.pad,.pad,.opq (.rfrac ((rlM p d).2.2.1)),.pad,.pad,.opq (.rfrac ((rlM p d).2.2.2)),.pad,.pad]),.int .i64 (lnE d)])
 | _=>none
theorem rlMakS_eq (x0 x1):rlMakS [x0,x1]=(rawX x0).bind fun p=>(rawX x1).bind fun d=>some ((fV p 1048576∧fV d 1048576),.tup [(.agg [.opq (.rfrac ((rlM p d).1.1)),.pad,.pad,.opq (.rfrac ((rlM p d).1.2.1)),.pad,.pad,.opq (.rfrac ((rlM p d).1.2.2)),.pad,.pad,.opq (.rfrac ((rlM p d).2.1)),.pad,.pad,.opq (.rfrac ((rlM p d).2.2.1)),.pad,.pad,.opq (.rfrac ((rlM p d).2.2.2)),.pad,.pad]),.int .i64 (lnE d)]):=rfl
theorem rlMakS_ok (hP:PrgOk P) (args p r) (he:rlMakS args=some (p,r)) (hp:p):CSpec P 12 args r:=by
 unfold rlMakS at he
 split at he
 · simp only [Option.bind_eq_some_iff,Option.some.injEq,Prod.mk.injEq] at he
   obtain ⟨p,hhp,d,hhd,rfl,rfl⟩:=he
   rw [rawX_inv hhp,rawX_inv hhd]
   exact rlMak_spec hP p d hp
 · simp at he
attribute [go_sem] rlMakS_eq
noncomputable def Lx0:Nat→List AV→Option (Prop × AV):=addS (addS Mt4 13 lThgS) 12 rlMakS
theorem Lx0_all (hP:PrgOk P) (T) (hT:TyOk P T):EnvOk P ⟨T,Lx0⟩:=(((Mt4_all hP T hT).add (lThgS_ok hP)).add (rlMakS_ok hP))
theorem Lx0_at (f a):Lx0 f a=(addS (addS Mt4 13 lThgS) 12 rlMakS) f a:=rfl
attribute [go_sem] Lx0_at
theorem rlThr_spec (hP:PrgOk P) (p:V3) (q:V3) (hpre:fV p 262144∧fV q 262144):CSpec P 14 [(.agg [.opq (.rfrac (p.1)),.pad,.pad,.opq (.rfrac (p.2.1)),.pad,.pad,.opq (.rfrac (p.2.2)),.pad,.pad]),(.agg [.opq (.rfrac (q.1)),.pad,.pad,.opq (.rfrac (q.2.1)),.pad,.pad,.opq (.rfrac (q.2.2)),.pad,.pad])] (.tup [(.agg [.opq (.rfrac ((rlM p (vsbq q p)).1.1)),.pad,.pad,.opq (.rfrac ((rlM p (vsbq q p)).1.2.1)),.pad,.pad,.opq (.rfrac ((rlM p (vsbq q p)).1.2.2)),.pad,.pad,.opq (.rfrac ((rlM p (vsbq q p)).2.1)),.pad,.pad,.opq (.rfrac ((rlM p (vsbq q p)).2.2.1)),.pad,.pad,.opq (.rfrac ((rlM p (vsbq q p)).2.2.2)),.pad,.pad]),.int .i64 (lnE (vsbq q p))]):=by
 have HE:=Lx0_all hP TF hP.tF
 obtain ⟨hp,hq⟩:=hpre
 obtain ⟨v,hv⟩:∃ zz,vsbq q p=zz:=⟨_,rfl⟩
 have fv:=vsbq_fV hq hp
 rw [hv] at fv
 rw [hv]
 refine CSpec_go (E:=⟨TF,Lx0⟩) (fn14 hP) HE hP.mix ?_
 simp only [go_sem,bw hp (by decide),bw hq (by decide),bm hp (by decide),vsbq_c hv,bm fv (by decide)]
 exact fin_z
noncomputable def rlThrS:List AV→Option (Prop × AV)
 | [x0,x1]=>(rawX x0).bind fun p=>(rawX x1).bind fun q=>some ((fV p 262144∧fV q 262144),.tup [(.agg [.opq (.rfrac ((rlM p (vsbq q p)).1.1)),.pad,.pad,.opq (.rfrac ((rlM p (vsbq q p)).1.2.1)),.pad,.pad,.opq (.rfrac ((rlM p (vsbq q p)).1.2.2)),.pad,.pad,.opq (.rfrac ((rlM p (vsbq q p)).2.1)),.pad,.pad,.opq (.rfrac ((rlM p (vsbq q p)).2.2.1)),.pad,.pad,.opq (.rfrac ((rlM p (vsbq q p)).2.2.2)),.pad,.pad]),.int .i64 (lnE (vsbq q p))])
 | _=>none
theorem rlThrS_eq (x0 x1):rlThrS [x0,x1]=(rawX x0).bind fun p=>(rawX x1).bind fun q=>some ((fV p 262144∧fV q 262144),.tup [(.agg [.opq (.rfrac ((rlM p (vsbq q p)).1.1)),.pad,.pad,.opq (.rfrac ((rlM p (vsbq q p)).1.2.1)),.pad,.pad,.opq (.rfrac ((rlM p (vsbq q p)).1.2.2)),.pad,.pad,.opq (.rfrac ((rlM p (vsbq q p)).2.1)),.pad,.pad,.opq (.rfrac ((rlM p (vsbq q p)).2.2.1)),.pad,.pad,.opq (.rfrac ((rlM p (vsbq q p)).2.2.2)),.pad,.pad]),.int .i64 (lnE (vsbq q p))]):=rfl
theorem rlThrS_ok (hP:PrgOk P) (args p r) (he:rlThrS args=some (p,r)) (hp:p):CSpec P 14 args r:=by
 unfold rlThrS at he
 split at he
 · simp only [Option.bind_eq_some_iff,Option.some.injEq,Prod.mk.injEq] at he
   obtain ⟨p,hhp,q,hhq,rfl,rfl⟩:=he
   rw [rawX_inv hhp,rawX_inv hhq]
   exact rlThr_spec hP p q hp
 · simp at he
attribute [go_sem] rlThrS_eq
theorem lAt_spec (hP:PrgOk P) (l:LN) (t:Rat) (hpre:fV l.1 16777216∧fV l.2 16777216∧fl t≤268435456):CSpec P 20 [(.agg [.opq (.frac (l.1.1)),.pad,.pad,.pad,.pad,.opq (.frac (l.1.2.1)),.pad,.pad,.pad,.pad,.opq (.frac (l.1.2.2)),.pad,.pad,.pad,.pad,.opq (.frac (l.2.1)),.pad,.pad,.pad,.pad,.opq (.frac (l.2.2.1)),.pad,.pad,.pad,.pad,.opq (.frac (l.2.2.2)),.pad,.pad,.pad,.pad]),(.agg [.opq (.frac (t)),.pad,.pad,.pad,.pad])] ((.agg [.opq (.frac ((atQ l.1 (ldr l.2) t).1)),.pad,.pad,.pad,.pad,.opq (.frac ((atQ l.1 (ldr l.2) t).2.1)),.pad,.pad,.pad,.pad,.opq (.frac ((atQ l.1 (ldr l.2) t).2.2)),.pad,.pad,.pad,.pad])):=by
 have HE:=Lx0_all hP TF hP.tF
 obtain ⟨hp,hl,ht⟩:=hpre
 obtain ⟨d,hd⟩:∃ zz,ldr l.2=zz:=⟨_,rfl⟩
 have fd:=ldr_fV hl (by decide)
 rw [hd] at fd
 obtain ⟨s,hs⟩:∃ zz,vscq t d=zz:=⟨_,rfl⟩
 have fs:=vscq_fV ht fd
 rw [hs] at fs
 unfold atQ
 rw [hd,hs]
 unfold vadq
 refine CSpec_go (E:=⟨TF,Lx0⟩) (fn20 hP) HE hP.mix ?_
 simp only [go_sem,bf hp (by decide),bf hl (by decide),bf fd (by decide),bf fs (by decide),fk ht (by decide),ldr_c hd,vscq_c hs]
 exact fin_z
noncomputable def lAtS:List AV→Option (Prop × AV)
 | [x0,x1]=>(rawLn x0).bind fun l=>(rawF x1).bind fun t=>some (t.1∧(fV l.1 16777216∧fV l.2 16777216∧fl t.2≤268435456),(.agg [.opq (.frac ((atQ l.1 (ldr l.2) t.2).1)),.pad,.pad,.pad,.pad,.opq (.frac ((atQ l.1 (ldr l.2) t.2).2.1)),.pad,.pad,.pad,.pad,.opq (.frac ((atQ l.1 (ldr l.2) t.2).2.2)),.pad,.pad,.pad,.pad]))
 | _=>none
theorem lAtS_eq (x0 x1):lAtS [x0,x1]=(rawLn x0).bind fun l=>(rawF x1).bind fun t=>some (t.1∧(fV l.1 16777216∧fV l.2 16777216∧fl t.2≤268435456),(.agg [.opq (.frac ((atQ l.1 (ldr l.2) t.2).1)),.pad,.pad,.pad,.pad,.opq (.frac ((atQ l.1 (ldr l.2) t.2).2.1)),.pad,.pad,.pad,.pad,.opq (.frac ((atQ l.1 (ldr l.2) t.2).2.2)),.pad,.pad,.pad,.pad])):=rfl
theorem lAtS_ok (hP:PrgOk P) (args p r) (he:lAtS args=some (p,r)) (hp:p):CSpec P 20 args r:=by
 unfold lAtS at he
 split at he
 · simp only [Option.bind_eq_some_iff,Option.some.injEq,Prod.mk.injEq] at he
   obtain ⟨l,hhl,⟨ut,t⟩,hht,rfl,rfl⟩:=he
   rw [rawLn_inv hhl]
   exact (lAt_spec hP l t hp.2).cv (.agg (.refl _) (rawF_cv hht hp.1 (.refl _)))
 · simp at he
attribute [go_sem] lAtS_eq
theorem rlAt_spec (hP:PrgOk P) (l:LN) (t:Rat) (hpre:fV l.1 16777216∧fV l.2 16777216∧fl t≤268435456):CSpec P 43 [(.agg [.opq (.rfrac (l.1.1)),.pad,.pad,.opq (.rfrac (l.1.2.1)),.pad,.pad,.opq (.rfrac (l.1.2.2)),.pad,.pad,.opq (.rfrac (l.2.1)),.pad,.pad,.opq (.rfrac (l.2.2.1)),.pad,.pad,.opq (.rfrac (l.2.2.2)),.pad,.pad]),(.agg [.opq (.rfrac (t)),.pad,.pad])] ((.agg [.opq (.rfrac ((atQ l.1 l.2 t).1)),.pad,.pad,.opq (.rfrac ((atQ l.1 l.2 t).2.1)),.pad,.pad,.opq (.rfrac ((atQ l.1 l.2 t).2.2)),.pad,.pad])):=by
 have HE:=Lx0_all hP TF hP.tF
 obtain ⟨hp,hd,ht⟩:=hpre
 obtain ⟨s,hs⟩:∃ zz,vscq t l.2=zz:=⟨_,rfl⟩
 have fs:=vscq_fV ht hd
 rw [hs] at fs
 unfold atQ
 rw [hs]
 unfold vadq
 refine CSpec_go (E:=⟨TF,Lx0⟩) (fn43 hP) HE hP.mix ?_
 simp only [go_sem,bf hp (by decide),bf hd (by decide),bf fs (by decide),fk ht (by decide),vscq_c hs]
 exact fin_z
noncomputable def rlAtS:List AV→Option (Prop × AV)
 | [x0,x1]=>(rawY x0).bind fun l=>(rawRF x1).bind fun t=>some (t.1∧(fV l.1 16777216∧fV l.2 16777216∧fl t.2≤268435456),(.agg [.opq (.rfrac ((atQ l.1 l.2 t.2).1)),.pad,.pad,.opq (.rfrac ((atQ l.1 l.2 t.2).2.1)),.pad,.pad,.opq (.rfrac ((atQ l.1 l.2 t.2).2.2)),.pad,.pad]))
 | _=>none
theorem rlAtS_eq (x0 x1):rlAtS [x0,x1]=(rawY x0).bind fun l=>(rawRF x1).bind fun t=>some (t.1∧(fV l.1 16777216∧fV l.2 16777216∧fl t.2≤268435456),(.agg [.opq (.rfrac ((atQ l.1 l.2 t.2).1)),.pad,.pad,.opq (.rfrac ((atQ l.1 l.2 t.2).2.1)),.pad,.pad,.opq (.rfrac ((atQ l.1 l.2 t.2).2.2)),.pad,.pad])):=rfl
theorem rlAtS_ok (hP:PrgOk P) (args p r) (he:rlAtS args=some (p,r)) (hp:p):CSpec P 43 args r:=by
 unfold rlAtS at he
 split at he
 · simp only [Option.bind_eq_some_iff,Option.some.injEq,Prod.mk.injEq] at he
   obtain ⟨l,hhl,⟨ut,t⟩,hht,rfl,rfl⟩:=he
   rw [rawY_inv hhl]
   exact (rlAt_spec hP l t hp.2).cv (.agg (.refl _) (rawRF_cv hht hp.1 (.refl _)))
 · simp at he
attribute [go_sem] rlAtS_eq
theorem lPlc_spec (hP:PrgOk P) (l:LN) (q:V3) (hpre:fV l.1 4194304∧fV l.2 4194304∧fV q 16777216):CSpec P 28 [(.agg [.opq (.frac (l.1.1)),.pad,.pad,.pad,.pad,.opq (.frac (l.1.2.1)),.pad,.pad,.pad,.pad,.opq (.frac (l.1.2.2)),.pad,.pad,.pad,.pad,.opq (.frac (l.2.1)),.pad,.pad,.pad,.pad,.opq (.frac (l.2.2.1)),.pad,.pad,.pad,.pad,.opq (.frac (l.2.2.2)),.pad,.pad,.pad,.pad]),(.agg [.opq (.frac (q.1)),.pad,.pad,.pad,.pad,.opq (.frac (q.2.1)),.pad,.pad,.pad,.pad,.opq (.frac (q.2.2)),.pad,.pad,.pad,.pad])] (.tup [(.agg [.opq (.frac ((plcQ l.1 (ldr l.2) q).1)),.pad,.pad,.pad,.pad]),.bool (plcQ l.1 (ldr l.2) q).2]):=by
 have HE:=Lx0_all hP TF hP.tF
 obtain ⟨hp,hl,hq⟩:=hpre
 have hn:=ldr_ne l.2
 obtain ⟨d,hd⟩:∃ zz,ldr l.2=zz:=⟨_,rfl⟩
 have fd:=ldr_fV hl (by decide)
 rw [hd] at fd
 obtain ⟨v,hv⟩:∃ zz,vsbq q l.1=zz:=⟨_,rfl⟩
 have fv:=vsbq_fV hq hp
 rw [hv] at fv
 obtain ⟨c,hc⟩:∃ zz,vcq v d=zz:=⟨_,rfl⟩
 have fc:=vcq_fV fv fd
 rw [hc] at fc
 obtain ⟨x,hx⟩:∃ zz,qdt v d=zz:=⟨_,rfl⟩
 have fx:=qdt_fl fv fd
 rw [hx] at fx
 obtain ⟨y,hy⟩:∃ zz,qdt d d=zz:=⟨_,rfl⟩
 have fy:=qdt_fl fd fd
 rw [hy] at fy
 unfold plcQ
 rw [hd] at hn ⊢
 rw [hv,hc,hx,hy]
 have hy0:(y=0)=False:=eq_false (by rw [← hy]; exact qdt_ne hn)
 refine CSpec_go (E:=⟨TF,Lx0⟩) (fn28 hP) HE hP.mix ?_
 by_cases hz:c=v0
 · rw [if_pos hz]
   simp only [go_sem,bf hp (by decide),bf hl (by decide),bf hq (by decide),bt fd (by decide),bt fv (by decide),bf fc (by decide),ldr_c hd,vsbq_c hv,vcq_c hc,nz_c (decide_eq_true hz),qdt_c hx,qdt_c hy,fk fx (by decide),fk fy (by decide),hy0]
   exact fin_z
 · rw [if_neg hz]
   simp only [go_sem,bf hp (by decide),bf hl (by decide),bf hq (by decide),bt fd (by decide),bt fv (by decide),bf fc (by decide),ldr_c hd,vsbq_c hv,vcq_c hc,nz_c (decide_eq_false hz)]
   exact fin_z
noncomputable def lPlcS:List AV→Option (Prop × AV)
 | [x0,x1]=>(rawLn x0).bind fun l=>(rawV x1).bind fun q=>some ((fV l.1 4194304∧fV l.2 4194304∧fV q 16777216),.tup [(.agg [.opq (.frac ((plcQ l.1 (ldr l.2) q).1)),.pad,.pad,.pad,.pad]),.bool (plcQ l.1 (ldr l.2) q).2])
 | _=>none
theorem lPlcS_eq (x0 x1):lPlcS [x0,x1]=(rawLn x0).bind fun l=>(rawV x1).bind fun q=>some ((fV l.1 4194304∧fV l.2 4194304∧fV q 16777216),.tup [(.agg [.opq (.frac ((plcQ l.1 (ldr l.2) q).1)),.pad,.pad,.pad,.pad]),.bool (plcQ l.1 (ldr l.2) q).2]):=rfl
theorem lPlcS_ok (hP:PrgOk P) (args p r) (he:lPlcS args=some (p,r)) (hp:p):CSpec P 28 args r:=by
 unfold lPlcS at he
 split at he
 · simp only [Option.bind_eq_some_iff,Option.some.injEq,Prod.mk.injEq] at he
   obtain ⟨l,hhl,q,hhq,rfl,rfl⟩:=he
   rw [rawLn_inv hhl,rawV_inv hhq]
   exact lPlc_spec hP l q hp
 · simp at he
attribute [go_sem] lPlcS_eq
theorem rlPlc_spec (hP:PrgOk P) (l:LN) (q:V3) (hpre:l.2 ≠ v0∧fV l.1 4194304∧fV l.2 4194304∧fV q 16777216):CSpec P 40 [(.agg [.opq (.rfrac (l.1.1)),.pad,.pad,.opq (.rfrac (l.1.2.1)),.pad,.pad,.opq (.rfrac (l.1.2.2)),.pad,.pad,.opq (.rfrac (l.2.1)),.pad,.pad,.opq (.rfrac (l.2.2.1)),.pad,.pad,.opq (.rfrac (l.2.2.2)),.pad,.pad]),(.agg [.opq (.rfrac (q.1)),.pad,.pad,.opq (.rfrac (q.2.1)),.pad,.pad,.opq (.rfrac (q.2.2)),.pad,.pad])] (.tup [(.agg [.opq (.rfrac ((plcQ l.1 l.2 q).1)),.pad,.pad]),.bool (plcQ l.1 l.2 q).2]):=by
 have HE:=Lx0_all hP TF hP.tF
 obtain ⟨hn,hp,fd,hq⟩:=hpre
 obtain ⟨v,hv⟩:∃ zz,vsbq q l.1=zz:=⟨_,rfl⟩
 have fv:=vsbq_fV hq hp
 rw [hv] at fv
 obtain ⟨c,hc⟩:∃ zz,vcq v l.2=zz:=⟨_,rfl⟩
 have fc:=vcq_fV fv fd
 rw [hc] at fc
 obtain ⟨x,hx⟩:∃ zz,qdt v l.2=zz:=⟨_,rfl⟩
 have fx:=qdt_fl fv fd
 rw [hx] at fx
 obtain ⟨y,hy⟩:∃ zz,qdt l.2 l.2=zz:=⟨_,rfl⟩
 have fy:=qdt_fl fd fd
 rw [hy] at fy
 unfold plcQ
 rw [hv,hc,hx,hy]
 have hy0:y ≠ 0:=by rw [← hy]; exact qdt_ne hn
 have b0:((-9223372036854775808:Int)≤0∧(0:Int)≤9223372036854775807)=True:=eq_true (by decide)
 refine CSpec_go (E:=⟨TF,Lx0⟩) (fn40 hP) HE hP.mix ?_
 by_cases hz:c=v0
 · rw [if_pos hz]
   simp only [go_sem,bf hp (by decide),bf hq (by decide),bt fd (by decide),bt fv (by decide),bf fc (by decide),vsbq_c hv,vcq_c hc,nz_c (decide_eq_true hz),qdt_c hx,qdt_c hy,fk fx (by decide),fk fy (by decide),hy0,ne_eq,not_false_eq_true]
   exact fin_z
 · rw [if_neg hz]
   simp only [go_sem,bf hp (by decide),bf hq (by decide),bt fd (by decide),bt fv (by decide),bf fc (by decide),vsbq_c hv,vcq_c hc,nz_c (decide_eq_false hz),b0]
   exact fin_z
noncomputable def rlPlcS:List AV→Option (Prop × AV)
 | [x0,x1]=>(rawY x0).bind fun l=>(rawX x1).bind fun q=>some ((l.2 ≠ v0∧fV l.1 4194304∧fV l.2 4194304∧fV q 16777216),.tup [(.agg [.opq (.rfrac ((plcQ l.1 l.2 q).1)),.pad,.pad]),.bool (plcQ l.1 l.2 q).2])
 | _=>none
theorem rlPlcS_eq (x0 x1):rlPlcS [x0,x1]=(rawY x0).bind fun l=>(rawX x1).bind fun q=>some ((l.2 ≠ v0∧fV l.1 4194304∧fV l.2 4194304∧fV q 16777216),.tup [(.agg [.opq (.rfrac ((plcQ l.1 l.2 q).1)),.pad,.pad]),.bool (plcQ l.1 l.2 q).2]):=rfl
theorem rlPlcS_ok (hP:PrgOk P) (args p r) (he:rlPlcS args=some (p,r)) (hp:p):CSpec P 40 args r:=by
 unfold rlPlcS at he
 split at he
 · simp only [Option.bind_eq_some_iff,Option.some.injEq,Prod.mk.injEq] at he
   obtain ⟨l,hhl,q,hhq,rfl,rfl⟩:=he
   rw [rawY_inv hhl,rawX_inv hhq]
   exact rlPlc_spec hP l q hp
 · simp at he
attribute [go_sem] rlPlcS_eq
noncomputable def Lx1:Nat→List AV→Option (Prop × AV):=addS (addS (addS (addS (addS Lx0 14 rlThrS) 20 lAtS) 43 rlAtS) 28 lPlcS) 40 rlPlcS
theorem Lx1_all (hP:PrgOk P) (T) (hT:TyOk P T):EnvOk P ⟨T,Lx1⟩:=((((((Lx0_all hP T hT).add (rlThrS_ok hP)).add (lAtS_ok hP)).add (rlAtS_ok hP)).add (lPlcS_ok hP)).add (rlPlcS_ok hP))
theorem Lx1_at (f a):Lx1 f a=(addS (addS (addS (addS (addS Lx0 14 rlThrS) 20 lAtS) 43 rlAtS) 28 lPlcS) 40 rlPlcS) f a:=rfl
attribute [go_sem] Lx1_at
theorem cz_t {x:Rat} (h:x=0):(cmpQ x 0 != 0)=false:=by rw [bne,cmpQ_z,decide_eq_true h]; rfl
theorem cz_f {x:Rat} (h:x ≠ 0):(cmpQ x 0 != 0)=true:=by rw [bne,cmpQ_z,decide_eq_false h]; rfl
theorem lLin_spec (hP:PrgOk P) (l:LN) (m:LN) (hpre:fV l.1 65536∧fV l.2 65536∧fV m.1 65536∧fV m.2 65536):CSpec P 33 [(.agg [.opq (.frac (l.1.1)),.pad,.pad,.pad,.pad,.opq (.frac (l.1.2.1)),.pad,.pad,.pad,.pad,.opq (.frac (l.1.2.2)),.pad,.pad,.pad,.pad,.opq (.frac (l.2.1)),.pad,.pad,.pad,.pad,.opq (.frac (l.2.2.1)),.pad,.pad,.pad,.pad,.opq (.frac (l.2.2.2)),.pad,.pad,.pad,.pad]),(.agg [.opq (.frac (m.1.1)),.pad,.pad,.pad,.pad,.opq (.frac (m.1.2.1)),.pad,.pad,.pad,.pad,.opq (.frac (m.1.2.2)),.pad,.pad,.pad,.pad,.opq (.frac (m.2.1)),.pad,.pad,.pad,.pad,.opq (.frac (m.2.2.1)),.pad,.pad,.pad,.pad,.opq (.frac (m.2.2.2)),.pad,.pad,.pad,.pad])] (.tup [(.agg [.opq (.frac (((linQ l.1 (ldr l.2) m.1 (ldr m.2)).1).1)),.pad,.pad,.pad,.pad,.opq (.frac (((linQ l.1 (ldr l.2) m.1 (ldr m.2)).1).2.1)),.pad,.pad,.pad,.pad,.opq (.frac (((linQ l.1 (ldr l.2) m.1 (ldr m.2)).1).2.2)),.pad,.pad,.pad,.pad]),.int .i64 (linQ l.1 (ldr l.2) m.1 (ldr m.2)).2]):=by
 have HE:=Lx1_all hP TF hP.tF
 obtain ⟨hp,hl,hq,hm⟩:=hpre
 obtain ⟨d,hd⟩:∃ zz,ldr l.2=zz:=⟨_,rfl⟩
 have fd:=ldr_fV hl (by decide)
 rw [hd] at fd
 obtain ⟨c,hc⟩:∃ zz,ldr m.2=zz:=⟨_,rfl⟩
 have fc:=ldr_fV hm (by decide)
 rw [hc] at fc
 rw [hd,hc]
 refine CSpec_go (E:=⟨TF,Lx1⟩) (fn33 hP) HE hP.mix ?_
 obtain ⟨n,hn⟩:∃ zz,vcq d c=zz:=⟨_,rfl⟩
 have fn:=vcq_fV fd fc
 rw [hn] at fn
 obtain ⟨v,hv⟩:∃ zz,vsbq m.1 l.1=zz:=⟨_,rfl⟩
 have fv:=vsbq_fV hq hp
 rw [hv] at fv
 obtain ⟨x,hx⟩:∃ zz,qdt v n=zz:=⟨_,rfl⟩
 have fx:=qdt_fl fv fn
 rw [hx] at fx
 obtain ⟨w,hw⟩:∃ zz,vcq v c=zz:=⟨_,rfl⟩
 have fw:=vcq_fV fv fc
 rw [hw] at fw
 obtain ⟨y,hy⟩:∃ zz,qdt w n=zz:=⟨_,rfl⟩
 have fy:=qdt_fl fw fn
 rw [hy] at fy
 obtain ⟨z,hz⟩:∃ zz,qdt n n=zz:=⟨_,rfl⟩
 have fz:=qdt_fl fn fn
 rw [hz] at fz
 obtain ⟨t,ht⟩:∃ zz,qdiv y z=zz:=⟨_,rfl⟩
 have ft:=fl_qdiv fy fz
 rw [ht] at ft
 unfold linQ
 rw [hn,hv,hx,hw,hy,hz,ht]
 by_cases h0:n=v0
 · rw [if_pos h0]
   simp only [go_sem,bw hl (by decide),bw hm (by decide),ldr_c hd,ldr_c hc,vcq_c hn,vsbq_c hv,bf hp (by decide),bf hq (by decide),bt fd (by decide),bt fc (by decide),bt fn (by decide),bt fv (by decide),nz_c (decide_eq_true h0)]
   exact fin_z
 rw [if_neg h0]
 have hz0:z ≠ 0:=by rw [← hz]; exact qdt_ne h0
 have hz1:(z=0)=False:=eq_false hz0
 by_cases h1:x=0
 · rw [if_pos h1]
   simp only [go_sem,bw hl (by decide),bw hm (by decide),ldr_c hd,ldr_c hc,vcq_c hn,vsbq_c hv,bw hp (by decide),bw hq (by decide),bw fd (by decide),bw fc (by decide),bt fn (by decide),bt fv (by decide),nz_c (decide_eq_false h0),qdt_c hx,fk fx (by decide),cz_t h1,vcq_c hw,bt fw (by decide),qdt_c hy,qdt_c hz,fk fy (by decide),fk fz (by decide),hz1,ht,Nat.le_trans ft (show _≤268435456 by decide)]
   exact fin_z
 · rw [if_neg h1]
   simp only [go_sem,bw hl (by decide),bw hm (by decide),ldr_c hd,ldr_c hc,vcq_c hn,vsbq_c hv,bf hp (by decide),bf hq (by decide),bt fd (by decide),bt fc (by decide),bt fn (by decide),bt fv (by decide),nz_c (decide_eq_false h0),qdt_c hx,fk fx (by decide),cz_f h1]
   exact fin_z
noncomputable def lLinS:List AV→Option (Prop × AV)
 | [x0,x1]=>(rawLn x0).bind fun l=>(rawLn x1).bind fun m=>some ((fV l.1 65536∧fV l.2 65536∧fV m.1 65536∧fV m.2 65536),.tup [(.agg [.opq (.frac (((linQ l.1 (ldr l.2) m.1 (ldr m.2)).1).1)),.pad,.pad,.pad,.pad,.opq (.frac (((linQ l.1 (ldr l.2) m.1 (ldr m.2)).1).2.1)),.pad,.pad,.pad,.pad,.opq (.frac (((linQ l.1 (ldr l.2) m.1 (ldr m.2)).1).2.2)),.pad,.pad,.pad,.pad]),.int .i64 (linQ l.1 (ldr l.2) m.1 (ldr m.2)).2])
 | _=>none
theorem lLinS_eq (x0 x1):lLinS [x0,x1]=(rawLn x0).bind fun l=>(rawLn x1).bind fun m=>some ((fV l.1 65536∧fV l.2 65536∧fV m.1 65536∧fV m.2 65536),.tup [(.agg [.opq (.frac (((linQ l.1 (ldr l.2) m.1 (ldr m.2)).1).1)),.pad,.pad,.pad,.pad,.opq (.frac (((linQ l.1 (ldr l.2) m.1 (ldr m.2)).1).2.1)),.pad,.pad,.pad,.pad,.opq (.frac (((linQ l.1 (ldr l.2) m.1 (ldr m.2)).1).2.2)),.pad,.pad,.pad,.pad]),.int .i64 (linQ l.1 (ldr l.2) m.1 (ldr m.2)).2]):=rfl
theorem lLinS_ok (hP:PrgOk P) (args p r) (he:lLinS args=some (p,r)) (hp:p):CSpec P 33 args r:=by
 unfold lLinS at he
 split at he
 · simp only [Option.bind_eq_some_iff,Option.some.injEq,Prod.mk.injEq] at he
   obtain ⟨l,hhl,m,hhm,rfl,rfl⟩:=he
   rw [rawLn_inv hhl,rawLn_inv hhm]
   exact lLin_spec hP l m hp
 · simp at he
attribute [go_sem] lLinS_eq
theorem rlLin_spec (hP:PrgOk P) (l:LN) (m:LN) (hpre:fV l.1 65536∧fV l.2 65536∧fV m.1 65536∧fV m.2 65536):CSpec P 34 [(.agg [.opq (.rfrac (l.1.1)),.pad,.pad,.opq (.rfrac (l.1.2.1)),.pad,.pad,.opq (.rfrac (l.1.2.2)),.pad,.pad,.opq (.rfrac (l.2.1)),.pad,.pad,.opq (.rfrac (l.2.2.1)),.pad,.pad,.opq (.rfrac (l.2.2.2)),.pad,.pad]),(.agg [.opq (.rfrac (m.1.1)),.pad,.pad,.opq (.rfrac (m.1.2.1)),.pad,.pad,.opq (.rfrac (m.1.2.2)),.pad,.pad,.opq (.rfrac (m.2.1)),.pad,.pad,.opq (.rfrac (m.2.2.1)),.pad,.pad,.opq (.rfrac (m.2.2.2)),.pad,.pad])] (.tup [(.agg [.opq (.rfrac (((linQ l.1 l.2 m.1 m.2).1).1)),.pad,.pad,.opq (.rfrac (((linQ l.1 l.2 m.1 m.2).1).2.1)),.pad,.pad,.opq (.rfrac (((linQ l.1 l.2 m.1 m.2).1).2.2)),.pad,.pad]),.int .i64 (linQ l.1 l.2 m.1 m.2).2]):=by
 have HE:=Lx1_all hP TF hP.tF
 have b0:((-9223372036854775808:Int)≤0∧(0:Int)≤9223372036854775807)=True:=eq_true (by decide)
 obtain ⟨hp,fd,hq,fc⟩:=hpre
 refine CSpec_go (E:=⟨TF,Lx1⟩) (fn34 hP) HE hP.mix ?_
 obtain ⟨n,hn⟩:∃ zz,vcq l.2 m.2=zz:=⟨_,rfl⟩
 have fn:=vcq_fV fd fc
 rw [hn] at fn
 obtain ⟨v,hv⟩:∃ zz,vsbq m.1 l.1=zz:=⟨_,rfl⟩
 have fv:=vsbq_fV hq hp
 rw [hv] at fv
 obtain ⟨x,hx⟩:∃ zz,qdt v n=zz:=⟨_,rfl⟩
 have fx:=qdt_fl fv fn
 rw [hx] at fx
 obtain ⟨w,hw⟩:∃ zz,vcq v m.2=zz:=⟨_,rfl⟩
 have fw:=vcq_fV fv fc
 rw [hw] at fw
 obtain ⟨y,hy⟩:∃ zz,qdt w n=zz:=⟨_,rfl⟩
 have fy:=qdt_fl fw fn
 rw [hy] at fy
 obtain ⟨z,hz⟩:∃ zz,qdt n n=zz:=⟨_,rfl⟩
 have fz:=qdt_fl fn fn
 rw [hz] at fz
 obtain ⟨t,ht⟩:∃ zz,qdiv y z=zz:=⟨_,rfl⟩
 have ft:=fl_qdiv fy fz
 rw [ht] at ft
 unfold linQ
 rw [hn,hv,hx,hw,hy,hz,ht]
 by_cases h0:n=v0
 · rw [if_pos h0]
   simp only [go_sem,b0,vcq_c hn,vsbq_c hv,bf hp (by decide),bf hq (by decide),bt fd (by decide),bt fc (by decide),bt fn (by decide),bt fv (by decide),nz_c (decide_eq_true h0)]
   exact fin_z
 rw [if_neg h0]
 have hz0:z ≠ 0:=by rw [← hz]; exact qdt_ne h0
 have hz1:(z=0)=False:=eq_false hz0
 by_cases h1:x=0
 · rw [if_pos h1]
   simp only [go_sem,b0,vcq_c hn,vsbq_c hv,bw hp (by decide),bw hq (by decide),bw fd (by decide),bw fc (by decide),bt fn (by decide),bt fv (by decide),nz_c (decide_eq_false h0),qdt_c hx,fk fx (by decide),cz_t h1,vcq_c hw,bt fw (by decide),qdt_c hy,qdt_c hz,fk fy (by decide),fk fz (by decide),hz0,ne_eq,not_false_eq_true,ht,Nat.le_trans ft (show _≤268435456 by decide)]
   exact fin_z
 · rw [if_neg h1]
   simp only [go_sem,b0,vcq_c hn,vsbq_c hv,bf hp (by decide),bf hq (by decide),bt fd (by decide),bt fc (by decide),bt fn (by decide),bt fv (by decide),nz_c (decide_eq_false h0),qdt_c hx,fk fx (by decide),cz_f h1]
   exact fin_z
noncomputable def rlLinS:List AV→Option (Prop × AV)
 | [x0,x1]=>(rawY x0).bind fun l=>(rawY x1).bind fun m=>some ((fV l.1 65536∧fV l.2 65536∧fV m.1 65536∧fV m.2 65536),.tup [(.agg [.opq (.rfrac (((linQ l.1 l.2 m.1 m.2).1).1)),.pad,.pad,.opq (.rfrac (((linQ l.1 l.2 m.1 m.2).1).2.1)),.pad,.pad,.opq (.rfrac (((linQ l.1 l.2 m.1 m.2).1).2.2)),.pad,.pad]),.int .i64 (linQ l.1 l.2 m.1 m.2).2])
 | _=>none
theorem rlLinS_eq (x0 x1):rlLinS [x0,x1]=(rawY x0).bind fun l=>(rawY x1).bind fun m=>some ((fV l.1 65536∧fV l.2 65536∧fV m.1 65536∧fV m.2 65536),.tup [(.agg [.opq (.rfrac (((linQ l.1 l.2 m.1 m.2).1).1)),.pad,.pad,.opq (.rfrac (((linQ l.1 l.2 m.1 m.2).1).2.1)),.pad,.pad,.opq (.rfrac (((linQ l.1 l.2 m.1 m.2).1).2.2)),.pad,.pad]),.int .i64 (linQ l.1 l.2 m.1 m.2).2]):=rfl
theorem rlLinS_ok (hP:PrgOk P) (args p r) (he:rlLinS args=some (p,r)) (hp:p):CSpec P 34 args r:=by
 unfold rlLinS at he
 split at he
 · simp only [Option.bind_eq_some_iff,Option.some.injEq,Prod.mk.injEq] at he
   obtain ⟨l,hhl,m,hhm,rfl,rfl⟩:=he
   rw [rawY_inv hhl,rawY_inv hhm]
   exact rlLin_spec hP l m hp
 · simp at he
attribute [go_sem] rlLinS_eq
theorem lCmp_spec (hP:PrgOk P) (l:LN) (m:LN) (hpre:fV l.1 FB∧fV l.2 FB∧fV m.1 FB∧fV m.2 FB):CSpec P 29 [(.agg [.opq (.frac (l.1.1)),.pad,.pad,.pad,.pad,.opq (.frac (l.1.2.1)),.pad,.pad,.pad,.pad,.opq (.frac (l.1.2.2)),.pad,.pad,.pad,.pad,.opq (.frac (l.2.1)),.pad,.pad,.pad,.pad,.opq (.frac (l.2.2.1)),.pad,.pad,.pad,.pad,.opq (.frac (l.2.2.2)),.pad,.pad,.pad,.pad]),(.agg [.opq (.frac (m.1.1)),.pad,.pad,.pad,.pad,.opq (.frac (m.1.2.1)),.pad,.pad,.pad,.pad,.opq (.frac (m.1.2.2)),.pad,.pad,.pad,.pad,.opq (.frac (m.2.1)),.pad,.pad,.pad,.pad,.opq (.frac (m.2.2.1)),.pad,.pad,.pad,.pad,.opq (.frac (m.2.2.2)),.pad,.pad,.pad,.pad])] (.int .i64 (cmpL (l.1,ldr l.2) (m.1,ldr m.2))):=by
 have HE:=Lx1_all hP TF hP.tF
 obtain ⟨hp,hl,hq,hm⟩:=hpre
 obtain ⟨d,hd⟩:∃ zz,ldr l.2=zz:=⟨_,rfl⟩
 have fd:=ldr_fV hl (by decide)
 rw [hd] at fd
 obtain ⟨c,hc⟩:∃ zz,ldr m.2=zz:=⟨_,rfl⟩
 have fc:=ldr_fV hm (by decide)
 rw [hc] at fc
 unfold cmpL
 rw [hd,hc]
 refine CSpec_go (E:=⟨TF,Lx1⟩) (fn29 hP) HE hP.mix ?_
 by_cases c0:cmpV d c=0
 · have c1:(cmpV ((d).1,(d).2.1,(d).2.2) ((c).1,(c).2.1,(c).2.2) != 0)=false:=by rw [show cmpV ((d).1,(d).2.1,(d).2.2) ((c).1,(c).2.1,(c).2.2)=0 from c0]; rfl
   rw [if_pos c0]
   simp only [go_sem,bf hp (by decide),bf hq (by decide),bf hl (by decide),bf hm (by decide),bf fd (by decide),bf fc (by decide),ldr_c hd,ldr_c hc,c1]
   exact fin_z
 · have c1:(cmpV ((d).1,(d).2.1,(d).2.2) ((c).1,(c).2.1,(c).2.2) != 0)=true:=by simpa using c0
   rw [if_neg c0]
   simp only [go_sem,bf hp (by decide),bf hq (by decide),bf hl (by decide),bf hm (by decide),bf fd (by decide),bf fc (by decide),ldr_c hd,ldr_c hc,c1]
   exact fin_z
noncomputable def lCmpS:List AV→Option (Prop × AV)
 | [x0,x1]=>(rawLn x0).bind fun l=>(rawLn x1).bind fun m=>some ((fV l.1 FB∧fV l.2 FB∧fV m.1 FB∧fV m.2 FB),.int .i64 (cmpL (l.1,ldr l.2) (m.1,ldr m.2)))
 | _=>none
theorem lCmpS_eq (x0 x1):lCmpS [x0,x1]=(rawLn x0).bind fun l=>(rawLn x1).bind fun m=>some ((fV l.1 FB∧fV l.2 FB∧fV m.1 FB∧fV m.2 FB),.int .i64 (cmpL (l.1,ldr l.2) (m.1,ldr m.2))):=rfl
theorem lCmpS_ok (hP:PrgOk P) (args p r) (he:lCmpS args=some (p,r)) (hp:p):CSpec P 29 args r:=by
 unfold lCmpS at he
 split at he
 · simp only [Option.bind_eq_some_iff,Option.some.injEq,Prod.mk.injEq] at he
   obtain ⟨l,hhl,m,hhm,rfl,rfl⟩:=he
   rw [rawLn_inv hhl,rawLn_inv hhm]
   exact lCmp_spec hP l m hp
 · simp at he
attribute [go_sem] lCmpS_eq
theorem rlCmp_spec (hP:PrgOk P) (l:LN) (m:LN) (hpre:fV l.1 FB∧fV l.2 FB∧fV m.1 FB∧fV m.2 FB):CSpec P 36 [(.agg [.opq (.rfrac (l.1.1)),.pad,.pad,.opq (.rfrac (l.1.2.1)),.pad,.pad,.opq (.rfrac (l.1.2.2)),.pad,.pad,.opq (.rfrac (l.2.1)),.pad,.pad,.opq (.rfrac (l.2.2.1)),.pad,.pad,.opq (.rfrac (l.2.2.2)),.pad,.pad]),(.agg [.opq (.rfrac (m.1.1)),.pad,.pad,.opq (.rfrac (m.1.2.1)),.pad,.pad,.opq (.rfrac (m.1.2.2)),.pad,.pad,.opq (.rfrac (m.2.1)),.pad,.pad,.opq (.rfrac (m.2.2.1)),.pad,.pad,.opq (.rfrac (m.2.2.2)),.pad,.pad])] (.int .i64 (cmpL l m)):=by
 have HE:=Lx1_all hP TF hP.tF
 obtain ⟨hp,hl,hq,hm⟩:=hpre
 unfold cmpL
 refine CSpec_go (E:=⟨TF,Lx1⟩) (fn36 hP) HE hP.mix ?_
 by_cases c0:cmpV l.2 m.2=0
 · have c1:(cmpV ((l.2).1,(l.2).2.1,(l.2).2.2) ((m.2).1,(m.2).2.1,(m.2).2.2) != 0)=false:=by rw [show cmpV ((l.2).1,(l.2).2.1,(l.2).2.2) ((m.2).1,(m.2).2.1,(m.2).2.2)=0 from c0]; rfl
   rw [if_pos c0]
   simp only [go_sem,bf hp (by decide),bf hq (by decide),bf hl (by decide),bf hm (by decide),c1]
   exact fin_z
 · have c1:(cmpV ((l.2).1,(l.2).2.1,(l.2).2.2) ((m.2).1,(m.2).2.1,(m.2).2.2) != 0)=true:=by simpa using c0
   rw [if_neg c0]
   simp only [go_sem,bf hp (by decide),bf hq (by decide),bf hl (by decide),bf hm (by decide),c1]
   exact fin_z
noncomputable def rlCmpS:List AV→Option (Prop × AV)
 | [x0,x1]=>(rawY x0).bind fun l=>(rawY x1).bind fun m=>some ((fV l.1 FB∧fV l.2 FB∧fV m.1 FB∧fV m.2 FB),.int .i64 (cmpL l m))
 | _=>none
theorem rlCmpS_eq (x0 x1):rlCmpS [x0,x1]=(rawY x0).bind fun l=>(rawY x1).bind fun m=>some ((fV l.1 FB∧fV l.2 FB∧fV m.1 FB∧fV m.2 FB),.int .i64 (cmpL l m)):=rfl
theorem rlCmpS_ok (hP:PrgOk P) (args p r) (he:rlCmpS args=some (p,r)) (hp:p):CSpec P 36 args r:=by
 unfold rlCmpS at he
 split at he
 · simp only [Option.bind_eq_some_iff,Option.some.injEq,Prod.mk.injEq] at he
   obtain ⟨l,hhl,m,hhm,rfl,rfl⟩:=he
   rw [rawY_inv hhl,rawY_inv hhm]
   exact rlCmp_spec hP l m hp
 · simp at he
attribute [go_sem] rlCmpS_eq
theorem lPln_spec (hP:PrgOk P) (l:LN) (h:V4) (hpre:fV l.1 16777216∧fV l.2 16777216∧fP h 16777216):CSpec P 41 [(.agg [.opq (.frac (l.1.1)),.pad,.pad,.pad,.pad,.opq (.frac (l.1.2.1)),.pad,.pad,.pad,.pad,.opq (.frac (l.1.2.2)),.pad,.pad,.pad,.pad,.opq (.frac (l.2.1)),.pad,.pad,.pad,.pad,.opq (.frac (l.2.2.1)),.pad,.pad,.pad,.pad,.opq (.frac (l.2.2.2)),.pad,.pad,.pad,.pad]),(.agg [.opq (.frac (h.1)),.pad,.pad,.pad,.pad,.opq (.frac (h.2.1)),.pad,.pad,.pad,.pad,.opq (.frac (h.2.2.1)),.pad,.pad,.pad,.pad,.opq (.frac (h.2.2.2)),.pad,.pad,.pad,.pad])] (.tup [(.agg [.opq (.frac ((plnQ l.1 (ldr l.2) (pnr (nP h)) h.2.2.2).1)),.pad,.pad,.pad,.pad]),.bool (plnQ l.1 (ldr l.2) (pnr (nP h)) h.2.2.2).2.1,.int .i64 (plnQ l.1 (ldr l.2) (pnr (nP h)) h.2.2.2).2.2]):=by
 have HE:=Lx1_all hP TF hP.tF
 obtain ⟨hp,hl,h1,h2,h3,h4⟩:=hpre
 have i1:=Nat.le_trans h1 (show _≤FB by decide)
 have i2:=Nat.le_trans h2 (show _≤FB by decide)
 have i3:=Nat.le_trans h3 (show _≤FB by decide)
 have i4:=Nat.le_trans h4 (show _≤FB by decide)
 obtain ⟨d,hd⟩:∃ zz,ldr l.2=zz:=⟨_,rfl⟩
 have fd:=ldr_fV hl (by decide)
 rw [hd] at fd
 obtain ⟨n,hn⟩:∃ zz,pnr (nP h)=zz:=⟨_,rfl⟩
 have fn:=pnr_fV (n:=nP h) ⟨h1,h2,h3⟩ (by decide)
 rw [hn] at fn
 have hn':pnr (nP (h.1,h.2.1,h.2.2.1,h.2.2.2))=n:=hn
 have hat:patV (h.1,h.2.1,h.2.2.1,h.2.2.2) (l.1.1,l.1.2.1,l.1.2.2)=qsub (qdt n l.1) h.2.2.2:=by rw [← hn]; rfl
 obtain ⟨a,ha⟩:∃ zz,qsub (qdt n l.1) h.2.2.2=zz:=⟨_,rfl⟩
 have fa:=fl_qsub (qdt_fl fn hp) h4
 rw [ha] at fa
 obtain ⟨k,hk⟩:∃ zz,qdt n d=zz:=⟨_,rfl⟩
 have fk:=qdt_fl fn fd
 rw [hk] at fk
 obtain ⟨b,hb⟩:∃ zz,qneg a=zz:=⟨_,rfl⟩
 have fb:=fl_qneg fa
 rw [hb] at fb
 rw [ha] at hat
 unfold plnQ
 rw [hd,hn,hk,ha,hb]
 refine CSpec_go (E:=⟨TF,Lx1⟩) (fn41 hP) HE hP.mix ?_
 by_cases h0:k=0
 · rw [if_pos h0]
   by_cases h5:a=0
   · rw [if_pos h5]
     have h5':=decide_eq_true h5
     simp only [go_sem,h1,h2,h3,h4,i1,i2,i3,i4,bt hp (by decide),bt hl (by decide),bt fd (by decide),bt fn (by decide),bf hp (by decide),bf fd (by decide),ldr_c hd,hn',hat,qdt_c hk,AM.fk fk (by decide),AM.fk fa (by decide),cz_t h0,cmpQ_z,h5']
     exact fin_z
   · rw [if_neg h5]
     have h5':=decide_eq_false h5
     simp only [go_sem,h1,h2,h3,h4,i1,i2,i3,i4,bt hp (by decide),bt hl (by decide),bt fd (by decide),bt fn (by decide),bf hp (by decide),bf fd (by decide),ldr_c hd,hn',hat,qdt_c hk,AM.fk fk (by decide),AM.fk fa (by decide),cz_t h0,cmpQ_z,h5']
     exact fin_z
 · rw [if_neg h0]
   have h0':(k=0)=False:=eq_false h0
   simp only [go_sem,h1,h2,h3,h4,i1,i2,i3,i4,bt hp (by decide),bt hl (by decide),bt fd (by decide),bt fn (by decide),bf hp (by decide),bf fd (by decide),ldr_c hd,hn',hat,qdt_c hk,AM.fk fk (by decide),AM.fk fa (by decide),cz_f h0,hb,AM.fk fb (by decide),h0']
   exact fin_z
noncomputable def lPlnS:List AV→Option (Prop × AV)
 | [x0,x1]=>(rawLn x0).bind fun l=>(rawP x1).bind fun h=>some ((fV l.1 16777216∧fV l.2 16777216∧fP h 16777216),.tup [(.agg [.opq (.frac ((plnQ l.1 (ldr l.2) (pnr (nP h)) h.2.2.2).1)),.pad,.pad,.pad,.pad]),.bool (plnQ l.1 (ldr l.2) (pnr (nP h)) h.2.2.2).2.1,.int .i64 (plnQ l.1 (ldr l.2) (pnr (nP h)) h.2.2.2).2.2])
 | _=>none
theorem lPlnS_eq (x0 x1):lPlnS [x0,x1]=(rawLn x0).bind fun l=>(rawP x1).bind fun h=>some ((fV l.1 16777216∧fV l.2 16777216∧fP h 16777216),.tup [(.agg [.opq (.frac ((plnQ l.1 (ldr l.2) (pnr (nP h)) h.2.2.2).1)),.pad,.pad,.pad,.pad]),.bool (plnQ l.1 (ldr l.2) (pnr (nP h)) h.2.2.2).2.1,.int .i64 (plnQ l.1 (ldr l.2) (pnr (nP h)) h.2.2.2).2.2]):=rfl
theorem lPlnS_ok (hP:PrgOk P) (args p r) (he:lPlnS args=some (p,r)) (hp:p):CSpec P 41 args r:=by
 unfold lPlnS at he
 split at he
 · simp only [Option.bind_eq_some_iff,Option.some.injEq,Prod.mk.injEq] at he
   obtain ⟨l,hhl,h,hhh,rfl,rfl⟩:=he
   rw [rawLn_inv hhl,rawP_inv hhh]
   exact lPln_spec hP l h hp
 · simp at he
attribute [go_sem] lPlnS_eq
noncomputable def plnR (p d n:V3) (o:Rat):Rat × Bool × Int :=
 if qdt n d=0 then (if qsub (qdt n p) o=0 then (((0:Int):Rat),true,0) else (((0:Int):Rat),false,60)) else (qneg (qdiv (qsub (qdt n p) o) (qdt n d)),false,0)
theorem plnR_eq (p d n:V3) (o:Rat):plnR p d n o=plnQ p d n o:=by
 unfold plnR plnQ
 split
 · split<;>rfl
 · rw [qdiv_eq,qdiv_eq,qneg_eq,qneg_eq,Rat.div_def,Rat.div_def,Rat.neg_mul]
theorem rlPln_spec (hP:PrgOk P) (l:LN) (h:V4) (hpre:fV l.1 16777216∧fV l.2 16777216∧fP h 16777216):CSpec P 42 [(.agg [.opq (.rfrac (l.1.1)),.pad,.pad,.opq (.rfrac (l.1.2.1)),.pad,.pad,.opq (.rfrac (l.1.2.2)),.pad,.pad,.opq (.rfrac (l.2.1)),.pad,.pad,.opq (.rfrac (l.2.2.1)),.pad,.pad,.opq (.rfrac (l.2.2.2)),.pad,.pad]),(.agg [.opq (.rfrac (h.1)),.pad,.pad,.opq (.rfrac (h.2.1)),.pad,.pad,.opq (.rfrac (h.2.2.1)),.pad,.pad,.opq (.rfrac (h.2.2.2)),.pad,.pad])] (.tup [(.agg [.opq (.rfrac ((plnR l.1 l.2 (nP h) h.2.2.2).1)),.pad,.pad]),.bool (plnR l.1 l.2 (nP h) h.2.2.2).2.1,.int .i64 (plnR l.1 l.2 (nP h) h.2.2.2).2.2]):=by
 have HE:=Lx1_all hP TF hP.tF
 have b0:((-9223372036854775808:Int)≤0∧(0:Int)≤9223372036854775807)=True:=eq_true (by decide)
 obtain ⟨hp,fd,h1,h2,h3,h4⟩:=hpre
 have i1:=Nat.le_trans h1 (show _≤FB by decide)
 have i2:=Nat.le_trans h2 (show _≤FB by decide)
 have i3:=Nat.le_trans h3 (show _≤FB by decide)
 have i4:=Nat.le_trans h4 (show _≤FB by decide)
 have fn:fV (nP h) 16777216:=⟨h1,h2,h3⟩
 obtain ⟨j1,j2,j3⟩:fl h.1≤67108864∧fl h.2.1≤67108864∧fl h.2.2.1≤67108864:=fV_mono fn (by decide)
 have hat:patR (h.1,h.2.1,h.2.2.1,h.2.2.2) (l.1.1,l.1.2.1,l.1.2.2)=qsub (qdt (nP h) l.1) h.2.2.2:=rfl
 obtain ⟨a,ha⟩:∃ zz,qsub (qdt (nP h) l.1) h.2.2.2=zz:=⟨_,rfl⟩
 have fa:=fl_qsub (qdt_fl fn hp) h4
 rw [ha] at fa
 obtain ⟨k,hk⟩:∃ zz,qdt (nP h) l.2=zz:=⟨_,rfl⟩
 have fk:=qdt_fl fn fd
 rw [hk] at fk
 obtain ⟨b,hb⟩:∃ zz,qdiv a k=zz:=⟨_,rfl⟩
 have fb:=fl_qdiv fa fk
 rw [hb] at fb
 have hk':qdt (h.1,h.2.1,h.2.2.1) (l.2.1,l.2.2.1,l.2.2.2)=k:=hk
 rw [ha] at hat
 unfold plnR
 rw [hk,ha,hb]
 refine CSpec_go (E:=⟨TF,Lx1⟩) (fn42 hP) HE hP.mix ?_
 by_cases h0:k=0
 · rw [if_pos h0]
   by_cases h5:a=0
   · rw [if_pos h5]
     have h5':=decide_eq_true h5
     simp only [go_sem,h1,h2,h3,h4,j1,j2,j3,bt hp (by decide),bt fd (by decide),hat,hk',cz_t h0,cmpQ_z,h5',b0]
     exact fin_z
   · rw [if_neg h5]
     have h5':=decide_eq_false h5
     simp only [go_sem,h1,h2,h3,h4,j1,j2,j3,bt hp (by decide),bt fd (by decide),hat,hk',cz_t h0,cmpQ_z,h5',b0]
     exact fin_z
 · rw [if_neg h0]
   simp only [go_sem,h1,h2,h3,h4,j1,j2,j3,bt hp (by decide),bt fd (by decide),hat,hk',cz_f h0,hb,AM.fk fa (by decide),AM.fk fk (by decide),h0,ne_eq,not_false_eq_true]
   exact fin_z
noncomputable def rlPlnS:List AV→Option (Prop × AV)
 | [x0,x1]=>(rawY x0).bind fun l=>(rawZ x1).bind fun h=>some ((fV l.1 16777216∧fV l.2 16777216∧fP h 16777216),.tup [(.agg [.opq (.rfrac ((plnR l.1 l.2 (nP h) h.2.2.2).1)),.pad,.pad]),.bool (plnR l.1 l.2 (nP h) h.2.2.2).2.1,.int .i64 (plnR l.1 l.2 (nP h) h.2.2.2).2.2])
 | _=>none
theorem rlPlnS_eq (x0 x1):rlPlnS [x0,x1]=(rawY x0).bind fun l=>(rawZ x1).bind fun h=>some ((fV l.1 16777216∧fV l.2 16777216∧fP h 16777216),.tup [(.agg [.opq (.rfrac ((plnR l.1 l.2 (nP h) h.2.2.2).1)),.pad,.pad]),.bool (plnR l.1 l.2 (nP h) h.2.2.2).2.1,.int .i64 (plnR l.1 l.2 (nP h) h.2.2.2).2.2]):=rfl
theorem rlPlnS_ok (hP:PrgOk P) (args p r) (he:rlPlnS args=some (p,r)) (hp:p):CSpec P 42 args r:=by
 unfold rlPlnS at he
 split at he
 · simp only [Option.bind_eq_some_iff,Option.some.injEq,Prod.mk.injEq] at he
   obtain ⟨l,hhl,h,hhh,rfl,rfl⟩:=he
   rw [rawY_inv hhl,rawZ_inv hhh]
   exact rlPln_spec hP l h hp
 · simp at he
attribute [go_sem] rlPlnS_eq
noncomputable def Lx2:Nat→List AV→Option (Prop × AV):=addS (addS (addS (addS (addS (addS Lx1 33 lLinS) 34 rlLinS) 29 lCmpS) 36 rlCmpS) 41 lPlnS) 42 rlPlnS
theorem Lx2_all (hP:PrgOk P) (T) (hT:TyOk P T):EnvOk P ⟨T,Lx2⟩:=(((((((Lx1_all hP T hT).add (lLinS_ok hP)).add (rlLinS_ok hP)).add (lCmpS_ok hP)).add (rlCmpS_ok hP)).add (lPlnS_ok hP)).add (rlPlnS_ok hP))
theorem Lx2_at (f a):Lx2 f a=(addS (addS (addS (addS (addS (addS Lx1 33 lLinS) 34 rlLinS) 29 lCmpS) 36 rlCmpS) 41 lPlnS) 42 rlPlnS) f a:=rfl
attribute [go_sem] Lx2_at
noncomputable def mtP (n m:V3) (h k:Rat):V3:=vscq (qdiv ((1:Int):Rat) (qdt (vcq n m) (vcq n m))) (vadq (vscq h (vcq m (vcq n m))) (vscq k (vcq (vcq n m) n)))
noncomputable def mtQ (n m:V3) (h k:Rat):LN × Int:=if vcq n m=v0 then ((v0,v0),60) else (lnM (mtP n m h k) (vcq n m),0)
theorem lMeet_spec (hP:PrgOk P) (h:V4) (k:V4) (hpre:fP h 8192∧fP k 8192):CSpec P 17 [(.agg [.opq (.frac (h.1)),.pad,.pad,.pad,.pad,.opq (.frac (h.2.1)),.pad,.pad,.pad,.pad,.opq (.frac (h.2.2.1)),.pad,.pad,.pad,.pad,.opq (.frac (h.2.2.2)),.pad,.pad,.pad,.pad]),(.agg [.opq (.frac (k.1)),.pad,.pad,.pad,.pad,.opq (.frac (k.2.1)),.pad,.pad,.pad,.pad,.opq (.frac (k.2.2.1)),.pad,.pad,.pad,.pad,.opq (.frac (k.2.2.2)),.pad,.pad,.pad,.pad])] (.tup [(.agg [.opq (.frac (((mtQ (pnr (nP h)) (pnr (nP k)) h.2.2.2 k.2.2.2).1).1.1)),.pad,.pad,.pad,.pad,.opq (.frac (((mtQ (pnr (nP h)) (pnr (nP k)) h.2.2.2 k.2.2.2).1).1.2.1)),.pad,.pad,.pad,.pad,.opq (.frac (((mtQ (pnr (nP h)) (pnr (nP k)) h.2.2.2 k.2.2.2).1).1.2.2)),.pad,.pad,.pad,.pad,.opq (.frac (((mtQ (pnr (nP h)) (pnr (nP k)) h.2.2.2 k.2.2.2).1).2.1)),.pad,.pad,.pad,.pad,.opq (.frac (((mtQ (pnr (nP h)) (pnr (nP k)) h.2.2.2 k.2.2.2).1).2.2.1)),.pad,.pad,.pad,.pad,.opq (.frac (((mtQ (pnr (nP h)) (pnr (nP k)) h.2.2.2 k.2.2.2).1).2.2.2)),.pad,.pad,.pad,.pad]),.int .i64 (mtQ (pnr (nP h)) (pnr (nP k)) h.2.2.2 k.2.2.2).2]):=by
 have HE:=Lx2_all hP TF hP.tF
 obtain ⟨⟨h1,h2,h3,h4⟩,k1,k2,k3,k4⟩:=hpre
 have i1:=Nat.le_trans h1 (show _≤FB by decide)
 have i2:=Nat.le_trans h2 (show _≤FB by decide)
 have i3:=Nat.le_trans h3 (show _≤FB by decide)
 have i4:=Nat.le_trans h4 (show _≤FB by decide)
 have j1:=Nat.le_trans k1 (show _≤FB by decide)
 have j2:=Nat.le_trans k2 (show _≤FB by decide)
 have j3:=Nat.le_trans k3 (show _≤FB by decide)
 have j4:=Nat.le_trans k4 (show _≤FB by decide)
 obtain ⟨n,hn⟩:∃ zz,pnr (nP h)=zz:=⟨_,rfl⟩
 have fn:=pnr_fV (n:=nP h) ⟨h1,h2,h3⟩ (by decide)
 rw [hn] at fn
 obtain ⟨m,hm⟩:∃ zz,pnr (nP k)=zz:=⟨_,rfl⟩
 have fm:=pnr_fV (n:=nP k) ⟨k1,k2,k3⟩ (by decide)
 rw [hm] at fm
 obtain ⟨d,hd⟩:∃ zz,vcq n m=zz:=⟨_,rfl⟩
 have fd:=vcq_fV fn fm
 rw [hd] at fd
 obtain ⟨a,ha⟩:∃ zz,vcq m d=zz:=⟨_,rfl⟩
 have fa:=vcq_fV fm fd
 rw [ha] at fa
 obtain ⟨b,hb⟩:∃ zz,vcq d n=zz:=⟨_,rfl⟩
 have fb:=vcq_fV fd fn
 rw [hb] at fb
 obtain ⟨u,hu⟩:∃ zz,vscq h.2.2.2 a=zz:=⟨_,rfl⟩
 have fu:=vscq_fV h4 fa
 rw [hu] at fu
 obtain ⟨v,hv⟩:∃ zz,vscq k.2.2.2 b=zz:=⟨_,rfl⟩
 have fv:=vscq_fV k4 fb
 rw [hv] at fv
 obtain ⟨s,hs⟩:∃ zz,vadq u v=zz:=⟨_,rfl⟩
 have fs:=vadq_fV fu fv
 rw [hs] at fs
 obtain ⟨y,hy⟩:∃ zz,qdt d d=zz:=⟨_,rfl⟩
 have fy:=qdt_fl fd fd
 rw [hy] at fy
 have f1:fl ((1:Int):Rat)≤64:=fl_i64 (by decide) (by decide)
 have b1:((-9223372036854775808:Int)≤1∧(1:Int)≤9223372036854775807)=True:=eq_true (by decide)
 obtain ⟨q,hq⟩:∃ zz,qdiv ((1:Int):Rat) y=zz:=⟨_,rfl⟩
 have fq:=fl_qdiv f1 fy
 rw [hq] at fq
 obtain ⟨p,hp⟩:∃ zz,vscq q s=zz:=⟨_,rfl⟩
 have fp:=vscq_fV fq fs
 rw [hp] at fp
 unfold mtQ mtP
 rw [hn,hm,hd,ha,hb,hu,hv,hs,hy,hq,hp]
 have hn':pnr (nP (h.1,h.2.1,h.2.2.1,h.2.2.2))=n:=hn
 have hm':pnr (nP (k.1,k.2.1,k.2.2.1,k.2.2.2))=m:=hm
 refine CSpec_go (E:=⟨TF,Lx2⟩) (fn17 hP) HE hP.mix ?_
 by_cases h0:d=v0
 · rw [if_pos h0]
   simp only [go_sem,i1,i2,i3,i4,j1,j2,j3,j4,hn',hm',bt fn (by decide),bt fm (by decide),bt fd (by decide),vcq_c hd,nz_c (decide_eq_true h0)]
   exact fin_z
 · have hy0:(y=0)=False:=eq_false (by rw [← hy]; exact qdt_ne h0)
   have e0:lnE (d.1,d.2.1,d.2.2)=0:=if_neg h0
   rw [if_neg h0]
   simp only [go_sem,i1,i2,i3,i4,j1,j2,j3,j4,hn',hm',bt fn (by decide),bt fm (by decide),bt fd (by decide),vcq_c hd,nz_c (decide_eq_false h0),vcq_c ha,vcq_c hb,bf fa (by decide),bf fb (by decide),vscq_c hu,vscq_c hv,bf fu (by decide),bf fv (by decide),vadq_c hs,bf fs (by decide),qdt_c hy,fk fy (by decide),fk f1 (by decide),b1,hy0,hq,fk fq (by decide),vscq_c hp,bm fp (by decide),bm fd (by decide),e0]
   exact fin_z
noncomputable def lMeetS:List AV→Option (Prop × AV)
 | [x0,x1]=>(rawP x0).bind fun h=>(rawP x1).bind fun k=>some ((fP h 8192∧fP k 8192),.tup [(.agg [.opq (.frac (((mtQ (pnr (nP h)) (pnr (nP k)) h.2.2.2 k.2.2.2).1).1.1)),.pad,.pad,.pad,.pad,.opq (.frac (((mtQ (pnr (nP h)) (pnr (nP k)) h.2.2.2 k.2.2.2).1).1.2.1)),.pad,.pad,.pad,.pad,.opq (.frac (((mtQ (pnr (nP h)) (pnr (nP k)) h.2.2.2 k.2.2.2).1).1.2.2)),.pad,.pad,.pad,.pad,.opq (.frac (((mtQ (pnr (nP h)) (pnr (nP k)) h.2.2.2 k.2.2.2).1).2.1)),.pad,.pad,.pad,.pad,.opq (.frac (((mtQ (pnr (nP h)) (pnr (nP k)) h.2.2.2 k.2.2.2).1).2.2.1)),.pad,.pad,.pad,.pad,.opq (.frac (((mtQ (pnr (nP h)) (pnr (nP k)) h.2.2.2 k.2.2.2).1).2.2.2)),.pad,.pad,.pad,.pad]),.int .i64 (mtQ (pnr (nP h)) (pnr (nP k)) h.2.2.2 k.2.2.2).2])
 | _=>none
theorem lMeetS_eq (x0 x1):lMeetS [x0,x1]=(rawP x0).bind fun h=>(rawP x1).bind fun k=>some ((fP h 8192∧fP k 8192),.tup [(.agg [.opq (.frac (((mtQ (pnr (nP h)) (pnr (nP k)) h.2.2.2 k.2.2.2).1).1.1)),.pad,.pad,.pad,.pad,.opq (.frac (((mtQ (pnr (nP h)) (pnr (nP k)) h.2.2.2 k.2.2.2).1).1.2.1)),.pad,.pad,.pad,.pad,.opq (.frac (((mtQ (pnr (nP h)) (pnr (nP k)) h.2.2.2 k.2.2.2).1).1.2.2)),.pad,.pad,.pad,.pad,.opq (.frac (((mtQ (pnr (nP h)) (pnr (nP k)) h.2.2.2 k.2.2.2).1).2.1)),.pad,.pad,.pad,.pad,.opq (.frac (((mtQ (pnr (nP h)) (pnr (nP k)) h.2.2.2 k.2.2.2).1).2.2.1)),.pad,.pad,.pad,.pad,.opq (.frac (((mtQ (pnr (nP h)) (pnr (nP k)) h.2.2.2 k.2.2.2).1).2.2.2)),.pad,.pad,.pad,.pad]),.int .i64 (mtQ (pnr (nP h)) (pnr (nP k)) h.2.2.2 k.2.2.2).2]):=rfl
theorem lMeetS_ok (hP:PrgOk P) (args p r) (he:lMeetS args=some (p,r)) (hp:p):CSpec P 17 args r:=by
 unfold lMeetS at he
 split at he
 · simp only [Option.bind_eq_some_iff,Option.some.injEq,Prod.mk.injEq] at he
   obtain ⟨h,hhh,k,hhk,rfl,rfl⟩:=he
   rw [rawP_inv hhh,rawP_inv hhk]
   exact lMeet_spec hP h k hp
 · simp at he
attribute [go_sem] lMeetS_eq
noncomputable def rmX (n m:V3) (h k:Rat):Rat:=qdiv (qsub (qmul h (qdt m m)) (qmul k (qdt n m))) (qsub (qmul (qdt n n) (qdt m m)) (qmul (qdt n m) (qdt n m)))
noncomputable def rmY (n m:V3) (h k:Rat):Rat:=qdiv (qsub (qmul k (qdt n n)) (qmul h (qdt n m))) (qsub (qmul (qdt n n) (qdt m m)) (qmul (qdt n m) (qdt n m)))
noncomputable def rmQ (n m:V3) (h k:Rat):LN × Int:=if vcq n m=v0 then (((((0:Int):Rat),((0:Int):Rat),((0:Int):Rat)),ax1),60) else (rlM (vadq (vscq (rmX n m h k) n) (vscq (rmY n m h k) m)) (vcq n m),0)
theorem det_eq (n m:V3):vdt (vcr n m) (vcr n m)=vdt n n*vdt m m-vdt n m*vdt n m:=by unfold vdt vcr; simp only []; grind
theorem rdet_eq (n m:V3):qsub (qmul (qdt n n) (qdt m m)) (qmul (qdt n m) (qdt n m))=qdt (vcq n m) (vcq n m):=by
 simp only [vcq_vcr,qdt_vdt,qsub_eq,qmul_eq]; exact (det_eq n m).symm
theorem rlMeet_spec (hP:PrgOk P) (h:V4) (k:V4) (hpre:fP h 8192∧fP k 8192):CSpec P 18 [(.agg [.opq (.rfrac (h.1)),.pad,.pad,.opq (.rfrac (h.2.1)),.pad,.pad,.opq (.rfrac (h.2.2.1)),.pad,.pad,.opq (.rfrac (h.2.2.2)),.pad,.pad]),(.agg [.opq (.rfrac (k.1)),.pad,.pad,.opq (.rfrac (k.2.1)),.pad,.pad,.opq (.rfrac (k.2.2.1)),.pad,.pad,.opq (.rfrac (k.2.2.2)),.pad,.pad])] (.tup [(.agg [.opq (.rfrac (((rmQ (nP h) (nP k) h.2.2.2 k.2.2.2).1).1.1)),.pad,.pad,.opq (.rfrac (((rmQ (nP h) (nP k) h.2.2.2 k.2.2.2).1).1.2.1)),.pad,.pad,.opq (.rfrac (((rmQ (nP h) (nP k) h.2.2.2 k.2.2.2).1).1.2.2)),.pad,.pad,.opq (.rfrac (((rmQ (nP h) (nP k) h.2.2.2 k.2.2.2).1).2.1)),.pad,.pad,.opq (.rfrac (((rmQ (nP h) (nP k) h.2.2.2 k.2.2.2).1).2.2.1)),.pad,.pad,.opq (.rfrac (((rmQ (nP h) (nP k) h.2.2.2 k.2.2.2).1).2.2.2)),.pad,.pad]),.int .i64 (rmQ (nP h) (nP k) h.2.2.2 k.2.2.2).2]):=by
 have HE:=Lx2_all hP TF hP.tF
 obtain ⟨⟨h1,h2,h3,h4⟩,k1,k2,k3,k4⟩:=hpre
 have i4:=Nat.le_trans h4 (show _≤FB by decide)
 have j4:=Nat.le_trans k4 (show _≤FB by decide)
 have b0:((-9223372036854775808:Int)≤0∧(0:Int)≤9223372036854775807)=True:=eq_true (by decide)
 have b1:((-9223372036854775808:Int)≤1∧(1:Int)≤9223372036854775807)=True:=eq_true (by decide)
 obtain ⟨n,hn⟩:∃ zz,nP h=zz:=⟨_,rfl⟩
 have fn:=show fV (nP h) 8192 from ⟨h1,h2,h3⟩
 rw [hn] at fn
 obtain ⟨m,hm⟩:∃ zz,nP k=zz:=⟨_,rfl⟩
 have fm:=show fV (nP k) 8192 from ⟨k1,k2,k3⟩
 rw [hm] at fm
 have en:h.1=n.1∧h.2.1=n.2.1∧h.2.2.1=n.2.2:=by rw [← hn]; exact ⟨rfl,rfl,rfl⟩
 have em:k.1=m.1∧k.2.1=m.2.1∧k.2.2.1=m.2.2:=by rw [← hm]; exact ⟨rfl,rfl,rfl⟩
 obtain ⟨d,hd⟩:∃ zz,vcq n m=zz:=⟨_,rfl⟩
 have fd:=vcq_fV fn fm
 rw [hd] at fd
 obtain ⟨a,ha⟩:∃ zz,qdt n n=zz:=⟨_,rfl⟩
 have fa:=qdt_fl fn fn
 rw [ha] at fa
 obtain ⟨b,hb⟩:∃ zz,qdt n m=zz:=⟨_,rfl⟩
 have fb:=qdt_fl fn fm
 rw [hb] at fb
 obtain ⟨c,hc⟩:∃ zz,qdt m m=zz:=⟨_,rfl⟩
 have fc:=qdt_fl fm fm
 rw [hc] at fc
 have hdt:=rdet_eq n m
 unfold rmQ rmX rmY
 rw [hn,hm]
 rw [ha,hb,hc] at hdt ⊢
 rw [hd] at hdt ⊢
 obtain ⟨ac,hac⟩:∃ zz,qmul a c=zz:=⟨_,rfl⟩
 have fac:=fl_qmul fa fc
 rw [hac] at fac
 obtain ⟨bb,hbb⟩:∃ zz,qmul b b=zz:=⟨_,rfl⟩
 have fbb:=fl_qmul fb fb
 rw [hbb] at fbb
 rw [hac,hbb] at hdt ⊢
 obtain ⟨t,ht⟩:∃ zz,qsub ac bb=zz:=⟨_,rfl⟩
 have ft:=fl_qsub fac fbb
 rw [ht] at ft
 rw [ht] at hdt
 obtain ⟨hc1,hhc1⟩:∃ zz,qmul h.2.2.2 c=zz:=⟨_,rfl⟩
 have fhc1:=fl_qmul h4 fc
 rw [hhc1] at fhc1
 obtain ⟨kb,hkb⟩:∃ zz,qmul k.2.2.2 b=zz:=⟨_,rfl⟩
 have fkb:=fl_qmul k4 fb
 rw [hkb] at fkb
 obtain ⟨ka,hka⟩:∃ zz,qmul k.2.2.2 a=zz:=⟨_,rfl⟩
 have fka:=fl_qmul k4 fa
 rw [hka] at fka
 obtain ⟨hb1,hhb1⟩:∃ zz,qmul h.2.2.2 b=zz:=⟨_,rfl⟩
 have fhb1:=fl_qmul h4 fb
 rw [hhb1] at fhb1
 obtain ⟨e,he⟩:∃ zz,qsub hc1 kb=zz:=⟨_,rfl⟩
 have fe:=fl_qsub fhc1 fkb
 rw [he] at fe
 obtain ⟨g,hg⟩:∃ zz,qsub ka hb1=zz:=⟨_,rfl⟩
 have fg:=fl_qsub fka fhb1
 rw [hg] at fg
 obtain ⟨x,hx⟩:∃ zz,qdiv e t=zz:=⟨_,rfl⟩
 have fx:=fl_qdiv fe ft
 rw [hx] at fx
 obtain ⟨y,hy⟩:∃ zz,qdiv g t=zz:=⟨_,rfl⟩
 have fy:=fl_qdiv fg ft
 rw [hy] at fy
 obtain ⟨u,hu⟩:∃ zz,vscq x n=zz:=⟨_,rfl⟩
 have fu:=vscq_fV fx fn
 rw [hu] at fu
 obtain ⟨v,hv⟩:∃ zz,vscq y m=zz:=⟨_,rfl⟩
 have fv:=vscq_fV fy fm
 rw [hv] at fv
 obtain ⟨s,hs⟩:∃ zz,vadq u v=zz:=⟨_,rfl⟩
 have fs:=vadq_fV fu fv
 rw [hs] at fs
 rw [ht,hhc1,hkb,hka,hhb1,he,hg,hx,hy,hu,hv,hs]
 refine CSpec_go (E:=⟨TF,Lx2⟩) (fn18 hP) HE hP.mix ?_
 by_cases h0:d=v0
 · rw [if_pos h0]
   unfold ax1
   simp only [go_sem,en,em,bt fn (by decide),bt fm (by decide),bt fd (by decide),vcq_c hd,nz_c (decide_eq_true h0),b0,b1]
   refine icX_vc (E:=⟨TF,Lx2⟩) (fn37 hP) HE hP.mix rfl rfl (Nat.le_of_ble_eq_true rfl) 100 ?_
   simp only [go_sem,b0,b1]
   unfold finX
   simp only [go_sem]
   exact fin_z
 · have ht0:t ≠ 0:=by rw [hdt]; exact qdt_ne h0
   have e0:lnE (d.1,d.2.1,d.2.2)=0:=if_neg h0
   rw [if_neg h0]
   simp only [go_sem,en,em,i4,j4,bt fn (by decide),bt fm (by decide),bt fd (by decide),vcq_c hd,nz_c (decide_eq_false h0),qdt_c ha,qdt_c hb,qdt_c hc,fk fa (by decide),fk fb (by decide),fk fc (by decide),hac,hbb,fk fac (by decide),fk fbb (by decide),ht,fk ft (by decide),ht0,ne_eq,not_false_eq_true,hhc1,hkb,hka,hhb1,fk fhc1 (by decide),fk fkb (by decide),fk fka (by decide),fk fhb1 (by decide),he,hg,fk fe (by decide),fk fg (by decide),hx,hy,fk fx (by decide),fk fy (by decide),vscq_c hu,vscq_c hv,bf fu (by decide),bf fv (by decide),vadq_c hs,bm fs (by decide),bm fd (by decide),e0]
   exact fin_z
noncomputable def rlMeetS:List AV→Option (Prop × AV)
 | [x0,x1]=>(rawZ x0).bind fun h=>(rawZ x1).bind fun k=>some ((fP h 8192∧fP k 8192),.tup [(.agg [.opq (.rfrac (((rmQ (nP h) (nP k) h.2.2.2 k.2.2.2).1).1.1)),.pad,.pad,.opq (.rfrac (((rmQ (nP h) (nP k) h.2.2.2 k.2.2.2).1).1.2.1)),.pad,.pad,.opq (.rfrac (((rmQ (nP h) (nP k) h.2.2.2 k.2.2.2).1).1.2.2)),.pad,.pad,.opq (.rfrac (((rmQ (nP h) (nP k) h.2.2.2 k.2.2.2).1).2.1)),.pad,.pad,.opq (.rfrac (((rmQ (nP h) (nP k) h.2.2.2 k.2.2.2).1).2.2.1)),.pad,.pad,.opq (.rfrac (((rmQ (nP h) (nP k) h.2.2.2 k.2.2.2).1).2.2.2)),.pad,.pad]),.int .i64 (rmQ (nP h) (nP k) h.2.2.2 k.2.2.2).2])
 | _=>none
theorem rlMeetS_eq (x0 x1):rlMeetS [x0,x1]=(rawZ x0).bind fun h=>(rawZ x1).bind fun k=>some ((fP h 8192∧fP k 8192),.tup [(.agg [.opq (.rfrac (((rmQ (nP h) (nP k) h.2.2.2 k.2.2.2).1).1.1)),.pad,.pad,.opq (.rfrac (((rmQ (nP h) (nP k) h.2.2.2 k.2.2.2).1).1.2.1)),.pad,.pad,.opq (.rfrac (((rmQ (nP h) (nP k) h.2.2.2 k.2.2.2).1).1.2.2)),.pad,.pad,.opq (.rfrac (((rmQ (nP h) (nP k) h.2.2.2 k.2.2.2).1).2.1)),.pad,.pad,.opq (.rfrac (((rmQ (nP h) (nP k) h.2.2.2 k.2.2.2).1).2.2.1)),.pad,.pad,.opq (.rfrac (((rmQ (nP h) (nP k) h.2.2.2 k.2.2.2).1).2.2.2)),.pad,.pad]),.int .i64 (rmQ (nP h) (nP k) h.2.2.2 k.2.2.2).2]):=rfl
theorem rlMeetS_ok (hP:PrgOk P) (args p r) (he:rlMeetS args=some (p,r)) (hp:p):CSpec P 18 args r:=by
 unfold rlMeetS at he
 split at he
 · simp only [Option.bind_eq_some_iff,Option.some.injEq,Prod.mk.injEq] at he
   obtain ⟨h,hhh,k,hhk,rfl,rfl⟩:=he
   rw [rawZ_inv hhh,rawZ_inv hhk]
   exact rlMeet_spec hP h k hp
 · simp at he
attribute [go_sem] rlMeetS_eq
noncomputable def Lx3:Nat→List AV→Option (Prop × AV):=addS (addS Lx2 17 lMeetS) 18 rlMeetS
theorem Lx3_all (hP:PrgOk P) (T) (hT:TyOk P T):EnvOk P ⟨T,Lx3⟩:=(((Lx2_all hP T hT).add (lMeetS_ok hP)).add (rlMeetS_ok hP))
theorem Lx3_at (f a):Lx3 f a=(addS (addS Lx2 17 lMeetS) 18 rlMeetS) f a:=rfl
attribute [go_sem] Lx3_at
theorem cmpV_self (a:V3):cmpV a a=0:=by simp [cmpV,cmpQ_self]
theorem len_s {s:ByteArray} (h:s.size≤maxS):(bl s).length≤140737488355328:=by
 have:=size_bl s
 unfold maxS at h
 omega
end Go.Proofs.YtmahhmdeocnlgaaGreatDoor.AM
