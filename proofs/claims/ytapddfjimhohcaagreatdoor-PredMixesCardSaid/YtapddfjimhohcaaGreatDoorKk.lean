/- The laws of sides: moved and stretched; mixes. -/
import Derived.Test.YtapddfjimhohcaaGreatDoorKj
import Derived.Test.YtapddfjimhohcaaGreatDoorB3
namespace Go.Proofs.YtapddfjimhohcaaGreatDoor.AM
set_option linter.all false
set_option autoImplicit true
set_option relaxedAutoImplicit true
open Go Go.Proofs
set_option maxRecDepth 100000
set_option maxHeartbeats 16000000
set_option linter.unusedSimpArgs false
variable {P:Program}
theorem st3 (v a:V3):vadq (vscq ((3:Int):Rat) a) v=vad (vsc 3 a) v:=by rw [vadq_vad,vscq_vsc]; rfl
theorem mixQ (s k0 k1 k2 k3:Rat) (a b c d:V3):vsc (1 / s) (vad (vad (vad (vad v0 (vsc k0 a)) (vsc k1 b)) (vsc k2 c)) (vsc k3 d))=mx (k0 / s) (k1 / s) (k2 / s) (k3 / s) a b c d:=by
 unfold mx vsc vad v0
 simp only [Rat.div_def]
 refine v3_ext ?_ ?_ ?_<;>(simp only []; grind)
theorem mixI {k0 k1 k2 k3 s:Int} (h0:0≤k0) (h1:0≤k1) (h2:0≤k2) (h3:0≤k3) (hs:k0+k1+k2+k3=s) (hp:0<s) (a b c d:V3) :
 wIn (vsc (1 / (s:Rat)) (vad (vad (vad (vad v0 (vsc (k0:Rat) a)) (vsc (k1:Rat) b)) (vsc (k2:Rat) c)) (vsc (k3:Rat) d))) [a,b,c,d] ≠ -1∧(0<k0→0<k1→0<k2→0<k3→wIn (vsc (1 / (s:Rat)) (vad (vad (vad (vad v0 (vsc (k0:Rat) a)) (vsc (k1:Rat) b)) (vsc (k2:Rat) c)) (vsc (k3:Rat) d))) [a,b,c,d]=1):=by
 have sp:(0:Rat)<(s:Rat):=Rat.intCast_pos.2 hp
 have si:(0:Rat)<(s:Rat)⁻¹:=Rat.inv_pos.2 sp
 have nn:∀ {k:Int},0≤k→(0:Rat)≤(k:Rat) / (s:Rat):=fun h=>by rw [Rat.div_def]; exact Rat.mul_nonneg (Rat.intCast_nonneg.2 h) (Rat.le_of_lt si)
 have pp:∀ {k:Int},0<k→(0:Rat)<(k:Rat) / (s:Rat):=fun h=>by rw [Rat.div_def]; exact Rat.mul_pos (Rat.intCast_pos.2 h) si
 have sum:(k0:Rat) / s+(k1:Rat) / s+(k2:Rat) / s+(k3:Rat) / s=1:=by
  have e:(k0:Rat)+k1+k2+k3=s:=by rw [← hs,Rat.intCast_add,Rat.intCast_add,Rat.intCast_add]
  have i:=Rat.mul_inv_cancel (s:Rat) (by grind)
  simp only [Rat.div_def]
  rw [← e] at i ⊢; grind
 have key:=wIn_mx sum (nn h0) (nn h1) (nn h2) (nn h3) (a:=a) (b:=b) (c:=c) (d:=d)
 rw [mixQ]
 exact ⟨key.1,fun p0 p1 p2 p3=>key.2 (pp p0) (pp p1) (pp p2) (pp p3)⟩
theorem mod4 {n:Int} (h:0≤n∧n≤255):∃ k:Int,Int.tmod n 4=k∧0≤k∧k≤3:=⟨_,rfl,by have:=h.1; rw [Int.tmod_eq_emod_of_nonneg h.1]; omega,by rw [Int.tmod_eq_emod_of_nonneg h.1]; omega⟩
theorem rlit:((1:Int):Rat)=1:=by decide +kernel
theorem rat0 {s:Int} (h:((s:Int):Rat)=0):s=0:=Rat.intCast_inj.1 (h.trans (show (0:Rat)=((0:Int):Rat) from rfl))
theorem wrap_id {z:Int} (h1 : -100000≤z) (h2:z≤100000):IntKind.i64.wrap z=z:=by rw [IntKind.wrap_i64]; omega
theorem tet_b {a b c d p:V3} (h:D2 a b c d ≠ 0):(wIn p [a,b,c,d] == 1)=((cmpQ (D2 p b c d) 0 == cmpQ (D2 a b c d) 0) && ((cmpQ (D2 a p c d) 0 == cmpQ (D2 a b c d) 0) && ((cmpQ (D2 a b p d) 0 == cmpQ (D2 a b c d) 0) && (cmpQ (D2 a b c p) 0 == cmpQ (D2 a b c d) 0)))):=by
 rw [Bool.eq_iff_iff]; simp only [Bool.and_eq_true,beq_iff_eq]; exact wIn_tet h
theorem PredMixes_core (hP:PrgOk P) (L:List ByteArray) (hL:L.length=15) (hs:∀ s ∈ L,s.size≤maxS) (w0 w1 w2 w3:Int) (hw0:0≤w0∧w0≤255) (hw1:0≤w1∧w1≤255) (hw2:0≤w2∧w2≤255) (hw3:0≤w3∧w3≤255):CSpec P 5 [.agg (L.map .str),.agg [.int .u8 w0,.int .u8 w1,.int .u8 w2,.int .u8 w3]] (.bool true):=by
 obtain ⟨s0,s1,s2,s3,s4,s5,s6,s7,s8,s9,s10,s11,s12,s13,s14,rfl,hl⟩:=fifteen hL hs
 have HE:=Ku1_all hP TF hP.tF
 simp only [List.map_cons,List.map_nil]
 have fa:=pt0_fV s0 s1 s2
 obtain ⟨a,ha⟩:∃ x,pt0 s0 s1 s2=x:=⟨_,rfl⟩
 rw [ha] at fa
 have fb:=pt1_fV s0 s1 s2 s3 s4 s5
 obtain ⟨b,hb⟩:∃ x,pt1 s0 s1 s2 s3 s4 s5=x:=⟨_,rfl⟩
 rw [hb] at fb
 have fc:=pt2_fV s0 s1 s2 s3 s4 s5 s6 s7 s8
 obtain ⟨c,hc⟩:∃ x,pt2 s0 s1 s2 s3 s4 s5 s6 s7 s8=x:=⟨_,rfl⟩
 rw [hc] at fc
 have fd:=pt3_fV s0 s1 s2 s3 s4 s5 s6 s7 s8 s9 s10 s11
 obtain ⟨d,hd⟩:∃ x,pt3 s0 s1 s2 s3 s4 s5 s6 s7 s8 s9 s10 s11=x:=⟨_,rfl⟩
 rw [hd] at fd
 have fe:=pt4_fV s0 s1 s2 s3 s4 s5 s6 s7 s8 s9 s10 s11 s12 s13 s14
 obtain ⟨e,he⟩:∃ x,pt4 s0 s1 s2 s3 s4 s5 s6 s7 s8 s9 s10 s11 s12 s13 s14=x:=⟨_,rfl⟩
 rw [he] at fe
 obtain ⟨ok,hok⟩:∃ x,ok5 s0 s1 s2 s3 s4 s5 s6 s7 s8 s9 s10 s11 s12 s13 s14=x:=⟨_,rfl⟩
 have hn:=(⟨ha,hb,hc,hd,he,hok⟩:_∧_∧_∧_∧_∧_)
 have B:=(⟨i40 fa (by decide),i40 fb (by decide),i40 fc (by decide),i40 fd (by decide),i40 fe (by decide),i16 fa (by decide),i16 fb (by decide),i16 fc (by decide),i16 fd (by decide),i16 fe (by decide),i52 fa (by decide),i52 fb (by decide),i52 fc (by decide),i52 fd (by decide),i52 fe (by decide),bf fa (by decide),bf fb (by decide),bf fc (by decide),bf fd (by decide),bf fe (by decide)⟩:_∧_∧_∧_∧_∧_∧_∧_∧_∧_∧_∧_∧_∧_∧_∧_∧_∧_∧_∧_)
 obtain ⟨k0,hk0,n0,m0⟩:=mod4 hw0
 obtain ⟨k1,hk1,n1,m1⟩:=mod4 hw1
 obtain ⟨k2,hk2,n2,m2⟩:=mod4 hw2
 obtain ⟨k3,hk3,n3,m3⟩:=mod4 hw3
 refine CSpec_go (E:=⟨TF,Ku1⟩) (fn5 hP) HE hP.mix ?_
 cases ok
 case false =>
  simp only [go_sem,hl,hn]
  exact .refl _
 obtain ⟨s,hs⟩:∃ s,k0+k1+k2+k3=s:=⟨_,rfl⟩
 have K:=(⟨hk0,hk1,hk2,hk3,wrap_id (z:=k0) (by omega) (by omega),wrap_id (z:=k1) (by omega) (by omega),wrap_id (z:=k2) (by omega) (by omega),wrap_id (z:=k3) (by omega) (by omega),(wrap_id (z:=0+k0) (by omega) (by omega)).trans (by omega),(wrap_id (z:=k0+k1) (by omega) (by omega)).trans (by omega),(wrap_id (z:=k0+k1+k2) (by omega) (by omega)).trans (by omega),(wrap_id (z:=k0+k1+k2+k3) (by omega) (by omega)).trans (by omega),(by omega),(by omega),(by omega),(by omega),(by omega),(by omega),(by omega),(by omega),(by decide)⟩:Int.tmod w0 4=k0∧Int.tmod w1 4=k1∧Int.tmod w2 4=k2∧Int.tmod w3 4=k3∧IntKind.i64.wrap k0=k0∧IntKind.i64.wrap k1=k1∧IntKind.i64.wrap k2=k2∧IntKind.i64.wrap k3=k3∧IntKind.i64.wrap (0+k0)=k0∧IntKind.i64.wrap (k0+k1)=k0+k1∧IntKind.i64.wrap (k0+k1+k2)=k0+k1+k2∧IntKind.i64.wrap (k0+k1+k2+k3)=s∧-9223372036854775808≤k0∧-9223372036854775808≤k1∧-9223372036854775808≤k2∧-9223372036854775808≤k3∧k0≤9223372036854775807∧k1≤9223372036854775807∧k2≤9223372036854775807∧k3≤9223372036854775807∧(4:Int) ≠ 0)
 obtain ⟨g0,hg0⟩:∃ zz,vscq ((k0:Int):Rat) b=zz:=⟨_,rfl⟩
 have fg0:=vscq_fV (fl_i64 (n:=k0) (by omega) (by omega)) fb
 rw [hg0] at fg0
 obtain ⟨p0,hp0⟩:∃ zz,vadq ((0,0,0):V3) g0=zz:=⟨_,rfl⟩
 have fp0:=vadq_fV (show fV ((0,0,0):V3) 1 from fV_v0 0) fg0
 rw [hp0] at fp0
 obtain ⟨g1,hg1⟩:∃ zz,vscq ((k1:Int):Rat) c=zz:=⟨_,rfl⟩
 have fg1:=vscq_fV (fl_i64 (n:=k1) (by omega) (by omega)) fc
 rw [hg1] at fg1
 obtain ⟨p1,hp1⟩:∃ zz,vadq (p0:V3) g1=zz:=⟨_,rfl⟩
 have fp1:=vadq_fV fp0 fg1
 rw [hp1] at fp1
 obtain ⟨g2,hg2⟩:∃ zz,vscq ((k2:Int):Rat) d=zz:=⟨_,rfl⟩
 have fg2:=vscq_fV (fl_i64 (n:=k2) (by omega) (by omega)) fd
 rw [hg2] at fg2
 obtain ⟨p2,hp2⟩:∃ zz,vadq (p1:V3) g2=zz:=⟨_,rfl⟩
 have fp2:=vadq_fV fp1 fg2
 rw [hp2] at fp2
 obtain ⟨g3,hg3⟩:∃ zz,vscq ((k3:Int):Rat) e=zz:=⟨_,rfl⟩
 have fg3:=vscq_fV (fl_i64 (n:=k3) (by omega) (by omega)) fe
 rw [hg3] at fg3
 obtain ⟨p3,hp3⟩:∃ zz,vadq (p2:V3) g3=zz:=⟨_,rfl⟩
 have fp3:=vadq_fV fp2 fg3
 rw [hp3] at fp3
 obtain ⟨r,hr⟩:∃ zz,qdiv ((1:Int):Rat) ((s:Int):Rat)=zz:=⟨_,rfl⟩
 have fr:=fl_qdiv (fl_i64 (n:=1) (by decide) (by decide)) (fl_i64 (n:=s) (by omega) (by omega))
 rw [hr] at fr
 obtain ⟨y,hy⟩:∃ zz,vscq r p3=zz:=⟨_,rfl⟩
 have fy:=vscq_fV fr fp3
 rw [hy] at fy
 have F:=(⟨Nat.le_trans (fl_i64 (n:=k0) (by omega) (by omega)) (show _≤FB by decide),Nat.le_trans (fl_i64 (n:=k1) (by omega) (by omega)) (show _≤FB by decide),Nat.le_trans (fl_i64 (n:=k2) (by omega) (by omega)) (show _≤FB by decide),Nat.le_trans (fl_i64 (n:=k3) (by omega) (by omega)) (show _≤FB by decide),bf fg0 (by decide),bf fg1 (by decide),bf fg2 (by decide),bf fg3 (by decide),bf fp0 (by decide),bf fp1 (by decide),bf fp2 (by decide),bf fp3 (by decide),vscq_c hg0,vscq_c hg1,vscq_c hg2,vscq_c hg3,vadq_c hp0,vadq_c hp1,vadq_c hp2,vadq_c hp3,vscq_c hy,hr,Nat.le_trans fr (show _≤FB by decide),i16 fy (by decide),Nat.le_trans (fl_i64 (n:=s) (by omega) (by omega)) (show _≤FB by decide),(show -9223372036854775808≤s by omega),(show s≤9223372036854775807 by omega),(smi (n:=1) (by decide) (by decide)),(show fl (0:Rat)≤FB from fl_zero 1073741823)⟩:_∧_∧_∧_∧_∧_∧_∧_∧_∧_∧_∧_∧_∧_∧_∧_∧_∧_∧_∧_∧_∧_∧_∧_∧_∧_∧_∧_∧_)
 have ey:y=vsc (1 / ((s:Int):Rat)) (vad (vad (vad (vad v0 (vsc ((k0:Int):Rat) b)) (vsc ((k1:Int):Rat) c)) (vsc ((k2:Int):Rat) d)) (vsc ((k3:Int):Rat) e)):=by rw [← hy,← hr,← hp3,← hg3,← hp2,← hg2,← hp1,← hg1,← hp0,← hg0]; simp only [vscq_vsc,vadq_vad,qdiv_eq,rlit]; rfl
 obtain ⟨n,kn⟩:∃ n,cmpQ (D2 b c d e) 0=n:=⟨_,rfl⟩
 have kn2:cmpQ (D2 (b.1,b.2.1,b.2.2) (c.1,c.2.1,c.2.2) (d.1,d.2.1,d.2.2) (e.1,e.2.1,e.2.2)) 0=n:=kn
 obtain ⟨q0,kq0⟩:∃ q,(cmpQ (D2 a c d e) 0 == n)=q:=⟨_,rfl⟩
 have lq0:(cmpQ (D2 (a.1,a.2.1,a.2.2) (c.1,c.2.1,c.2.2) (d.1,d.2.1,d.2.2) (e.1,e.2.1,e.2.2)) 0 == n)=q0:=kq0
 obtain ⟨q1,kq1⟩:∃ q,(cmpQ (D2 b a d e) 0 == n)=q:=⟨_,rfl⟩
 have lq1:(cmpQ (D2 (b.1,b.2.1,b.2.2) (a.1,a.2.1,a.2.2) (d.1,d.2.1,d.2.2) (e.1,e.2.1,e.2.2)) 0 == n)=q1:=kq1
 obtain ⟨q2,kq2⟩:∃ q,(cmpQ (D2 b c a e) 0 == n)=q:=⟨_,rfl⟩
 have lq2:(cmpQ (D2 (b.1,b.2.1,b.2.2) (c.1,c.2.1,c.2.2) (a.1,a.2.1,a.2.2) (e.1,e.2.1,e.2.2)) 0 == n)=q2:=kq2
 obtain ⟨q3,kq3⟩:∃ q,(cmpQ (D2 b c d a) 0 == n)=q:=⟨_,rfl⟩
 have lq3:(cmpQ (D2 (b.1,b.2.1,b.2.2) (c.1,c.2.1,c.2.2) (d.1,d.2.1,d.2.2) (a.1,a.2.1,a.2.2)) 0 == n)=q3:=kq3
 have hq:n ≠ 0→(wIn (a.1,a.2.1,a.2.2) [(b.1,b.2.1,b.2.2),(c.1,c.2.1,c.2.2),(d.1,d.2.1,d.2.2),(e.1,e.2.1,e.2.2)] == 1)=(q0 && (q1 && (q2 && q3))):=fun h=>by
  have:=tet_b (a:=b) (b:=c) (c:=d) (d:=e) (p:=a) (fun z=>h (by rw [← kn,z]; exact cmpQ_self 0))
  rw [kn,kq0,kq1,kq2,kq3] at this
  exact this
 have Q:=(⟨kn2,lq0,lq1,lq2,lq3⟩:_∧_∧_∧_∧_)
 simp only [go_sem,nw8,hl,hn,B,K,F,Q,rl8]
 refine trN_once HE hP.mix 164 1000 ?_
 by_cases c0:k0 > 0
 case neg =>
  simp only [go_sem,nw8,hl,hn,B,K,F,Q,rl8,c0]
  refine goN_once HE hP.mix 164 ?_
  simp only [go_sem,nw8,hl,hn,B,K,F,Q,rl8,c0]
  refine goN_once HE hP.mix 164 ?_
  simp only [go_sem,nw8,hl,hn,B,K,F,Q,rl8,c0]
  refine goN_once HE hP.mix 164 ?_
  simp only [go_sem,nw8,hl,hn,B,K,F,Q,rl8,c0]
  refine goN_once HE hP.mix 164 ?_
  by_cases S:s > 0
  case neg =>
   by_cases z:n=0
   case pos =>
    have z1:(n == 0)=true:=by simpa using z
    simp only [go_sem,nw8,hl,hn,B,K,F,Q,rl8,z1,c0,S]
    exact .refl _
   have z1:(n == 0)=false:=by simpa using z
   have hq1:=hq z
   cases q0
   case false =>
    simp only [go_sem,nw8,hl,hn,B,K,F,Q,rl8,z1,hq1,Bool.false_and,Bool.true_and,c0,S]
    exact .refl _
   cases q1
   case false =>
    simp only [go_sem,nw8,hl,hn,B,K,F,Q,rl8,z1,hq1,Bool.false_and,Bool.true_and,c0,S]
    exact .refl _
   cases q2
   case false =>
    simp only [go_sem,nw8,hl,hn,B,K,F,Q,rl8,z1,hq1,Bool.false_and,Bool.true_and,c0,S]
    exact .refl _
   cases q3
   case false =>
    simp only [go_sem,nw8,hl,hn,B,K,F,Q,rl8,z1,hq1,Bool.false_and,Bool.true_and,c0,S]
    exact .refl _
   simp only [go_sem,nw8,hl,hn,B,K,F,Q,rl8,z1,hq1,Bool.true_and,c0,S]
   exact .refl _
  have s0:((s:Int):Rat) ≠ 0:=fun h=>absurd (rat0 h) (Int.ne_of_gt S)
  have s1:=eq_false s0
  obtain ⟨x1,x2⟩:=mixI n0 n1 n2 n3 hs S b c d e
  rw [← ey] at x1 x2
  have e1:(wIn (y.1,y.2.1,y.2.2) [(b.1,b.2.1,b.2.2),(c.1,c.2.1,c.2.2),(d.1,d.2.1,d.2.2),(e.1,e.2.1,e.2.2)] == -1)=false:=by simpa using x1
  by_cases z:n=0
  case pos =>
   have z1:(n == 0)=true:=by simpa using z
   simp only [go_sem,nw8,hl,hn,B,K,F,Q,rl8,z1,c0,S,s0,s1,e1]
   exact .refl _
  have z1:(n == 0)=false:=by simpa using z
  have hq1:=hq z
  cases q0
  case false =>
   simp only [go_sem,nw8,hl,hn,B,K,F,Q,rl8,z1,hq1,Bool.false_and,Bool.true_and,c0,S,s0,s1,e1]
   exact .refl _
  cases q1
  case false =>
   simp only [go_sem,nw8,hl,hn,B,K,F,Q,rl8,z1,hq1,Bool.false_and,Bool.true_and,c0,S,s0,s1,e1]
   exact .refl _
  cases q2
  case false =>
   simp only [go_sem,nw8,hl,hn,B,K,F,Q,rl8,z1,hq1,Bool.false_and,Bool.true_and,c0,S,s0,s1,e1]
   exact .refl _
  cases q3
  case false =>
   simp only [go_sem,nw8,hl,hn,B,K,F,Q,rl8,z1,hq1,Bool.false_and,Bool.true_and,c0,S,s0,s1,e1]
   exact .refl _
  simp only [go_sem,nw8,hl,hn,B,K,F,Q,rl8,z1,hq1,Bool.true_and,c0,S,s0,s1,e1]
  exact .refl _
 simp only [go_sem,nw8,hl,hn,B,K,F,Q,rl8,c0]
 refine goN_once HE hP.mix 164 ?_
 by_cases c1:k1 > 0
 case neg =>
  simp only [go_sem,nw8,hl,hn,B,K,F,Q,rl8,c0,c1]
  refine goN_once HE hP.mix 164 ?_
  simp only [go_sem,nw8,hl,hn,B,K,F,Q,rl8,c0,c1]
  refine goN_once HE hP.mix 164 ?_
  simp only [go_sem,nw8,hl,hn,B,K,F,Q,rl8,c0,c1]
  refine goN_once HE hP.mix 164 ?_
  by_cases S:s > 0
  case neg =>
   by_cases z:n=0
   case pos =>
    have z1:(n == 0)=true:=by simpa using z
    simp only [go_sem,nw8,hl,hn,B,K,F,Q,rl8,z1,c0,c1,S]
    exact .refl _
   have z1:(n == 0)=false:=by simpa using z
   have hq1:=hq z
   cases q0
   case false =>
    simp only [go_sem,nw8,hl,hn,B,K,F,Q,rl8,z1,hq1,Bool.false_and,Bool.true_and,c0,c1,S]
    exact .refl _
   cases q1
   case false =>
    simp only [go_sem,nw8,hl,hn,B,K,F,Q,rl8,z1,hq1,Bool.false_and,Bool.true_and,c0,c1,S]
    exact .refl _
   cases q2
   case false =>
    simp only [go_sem,nw8,hl,hn,B,K,F,Q,rl8,z1,hq1,Bool.false_and,Bool.true_and,c0,c1,S]
    exact .refl _
   cases q3
   case false =>
    simp only [go_sem,nw8,hl,hn,B,K,F,Q,rl8,z1,hq1,Bool.false_and,Bool.true_and,c0,c1,S]
    exact .refl _
   simp only [go_sem,nw8,hl,hn,B,K,F,Q,rl8,z1,hq1,Bool.true_and,c0,c1,S]
   exact .refl _
  have s0:((s:Int):Rat) ≠ 0:=fun h=>absurd (rat0 h) (Int.ne_of_gt S)
  have s1:=eq_false s0
  obtain ⟨x1,x2⟩:=mixI n0 n1 n2 n3 hs S b c d e
  rw [← ey] at x1 x2
  have e1:(wIn (y.1,y.2.1,y.2.2) [(b.1,b.2.1,b.2.2),(c.1,c.2.1,c.2.2),(d.1,d.2.1,d.2.2),(e.1,e.2.1,e.2.2)] == -1)=false:=by simpa using x1
  by_cases z:n=0
  case pos =>
   have z1:(n == 0)=true:=by simpa using z
   simp only [go_sem,nw8,hl,hn,B,K,F,Q,rl8,z1,c0,c1,S,s0,s1,e1]
   exact .refl _
  have z1:(n == 0)=false:=by simpa using z
  have hq1:=hq z
  cases q0
  case false =>
   simp only [go_sem,nw8,hl,hn,B,K,F,Q,rl8,z1,hq1,Bool.false_and,Bool.true_and,c0,c1,S,s0,s1,e1]
   exact .refl _
  cases q1
  case false =>
   simp only [go_sem,nw8,hl,hn,B,K,F,Q,rl8,z1,hq1,Bool.false_and,Bool.true_and,c0,c1,S,s0,s1,e1]
   exact .refl _
  cases q2
  case false =>
   simp only [go_sem,nw8,hl,hn,B,K,F,Q,rl8,z1,hq1,Bool.false_and,Bool.true_and,c0,c1,S,s0,s1,e1]
   exact .refl _
  cases q3
  case false =>
   simp only [go_sem,nw8,hl,hn,B,K,F,Q,rl8,z1,hq1,Bool.false_and,Bool.true_and,c0,c1,S,s0,s1,e1]
   exact .refl _
  simp only [go_sem,nw8,hl,hn,B,K,F,Q,rl8,z1,hq1,Bool.true_and,c0,c1,S,s0,s1,e1]
  exact .refl _
 simp only [go_sem,nw8,hl,hn,B,K,F,Q,rl8,c0,c1]
 refine goN_once HE hP.mix 164 ?_
 by_cases c2:k2 > 0
 case neg =>
  simp only [go_sem,nw8,hl,hn,B,K,F,Q,rl8,c0,c1,c2]
  refine goN_once HE hP.mix 164 ?_
  simp only [go_sem,nw8,hl,hn,B,K,F,Q,rl8,c0,c1,c2]
  refine goN_once HE hP.mix 164 ?_
  by_cases S:s > 0
  case neg =>
   by_cases z:n=0
   case pos =>
    have z1:(n == 0)=true:=by simpa using z
    simp only [go_sem,nw8,hl,hn,B,K,F,Q,rl8,z1,c0,c1,c2,S]
    exact .refl _
   have z1:(n == 0)=false:=by simpa using z
   have hq1:=hq z
   cases q0
   case false =>
    simp only [go_sem,nw8,hl,hn,B,K,F,Q,rl8,z1,hq1,Bool.false_and,Bool.true_and,c0,c1,c2,S]
    exact .refl _
   cases q1
   case false =>
    simp only [go_sem,nw8,hl,hn,B,K,F,Q,rl8,z1,hq1,Bool.false_and,Bool.true_and,c0,c1,c2,S]
    exact .refl _
   cases q2
   case false =>
    simp only [go_sem,nw8,hl,hn,B,K,F,Q,rl8,z1,hq1,Bool.false_and,Bool.true_and,c0,c1,c2,S]
    exact .refl _
   cases q3
   case false =>
    simp only [go_sem,nw8,hl,hn,B,K,F,Q,rl8,z1,hq1,Bool.false_and,Bool.true_and,c0,c1,c2,S]
    exact .refl _
   simp only [go_sem,nw8,hl,hn,B,K,F,Q,rl8,z1,hq1,Bool.true_and,c0,c1,c2,S]
   exact .refl _
  have s0:((s:Int):Rat) ≠ 0:=fun h=>absurd (rat0 h) (Int.ne_of_gt S)
  have s1:=eq_false s0
  obtain ⟨x1,x2⟩:=mixI n0 n1 n2 n3 hs S b c d e
  rw [← ey] at x1 x2
  have e1:(wIn (y.1,y.2.1,y.2.2) [(b.1,b.2.1,b.2.2),(c.1,c.2.1,c.2.2),(d.1,d.2.1,d.2.2),(e.1,e.2.1,e.2.2)] == -1)=false:=by simpa using x1
  by_cases z:n=0
  case pos =>
   have z1:(n == 0)=true:=by simpa using z
   simp only [go_sem,nw8,hl,hn,B,K,F,Q,rl8,z1,c0,c1,c2,S,s0,s1,e1]
   exact .refl _
  have z1:(n == 0)=false:=by simpa using z
  have hq1:=hq z
  cases q0
  case false =>
   simp only [go_sem,nw8,hl,hn,B,K,F,Q,rl8,z1,hq1,Bool.false_and,Bool.true_and,c0,c1,c2,S,s0,s1,e1]
   exact .refl _
  cases q1
  case false =>
   simp only [go_sem,nw8,hl,hn,B,K,F,Q,rl8,z1,hq1,Bool.false_and,Bool.true_and,c0,c1,c2,S,s0,s1,e1]
   exact .refl _
  cases q2
  case false =>
   simp only [go_sem,nw8,hl,hn,B,K,F,Q,rl8,z1,hq1,Bool.false_and,Bool.true_and,c0,c1,c2,S,s0,s1,e1]
   exact .refl _
  cases q3
  case false =>
   simp only [go_sem,nw8,hl,hn,B,K,F,Q,rl8,z1,hq1,Bool.false_and,Bool.true_and,c0,c1,c2,S,s0,s1,e1]
   exact .refl _
  simp only [go_sem,nw8,hl,hn,B,K,F,Q,rl8,z1,hq1,Bool.true_and,c0,c1,c2,S,s0,s1,e1]
  exact .refl _
 simp only [go_sem,nw8,hl,hn,B,K,F,Q,rl8,c0,c1,c2]
 refine goN_once HE hP.mix 164 ?_
 by_cases c3:k3 > 0
 case neg =>
  simp only [go_sem,nw8,hl,hn,B,K,F,Q,rl8,c0,c1,c2,c3]
  refine goN_once HE hP.mix 164 ?_
  by_cases S:s > 0
  case neg =>
   by_cases z:n=0
   case pos =>
    have z1:(n == 0)=true:=by simpa using z
    simp only [go_sem,nw8,hl,hn,B,K,F,Q,rl8,z1,c0,c1,c2,c3,S]
    exact .refl _
   have z1:(n == 0)=false:=by simpa using z
   have hq1:=hq z
   cases q0
   case false =>
    simp only [go_sem,nw8,hl,hn,B,K,F,Q,rl8,z1,hq1,Bool.false_and,Bool.true_and,c0,c1,c2,c3,S]
    exact .refl _
   cases q1
   case false =>
    simp only [go_sem,nw8,hl,hn,B,K,F,Q,rl8,z1,hq1,Bool.false_and,Bool.true_and,c0,c1,c2,c3,S]
    exact .refl _
   cases q2
   case false =>
    simp only [go_sem,nw8,hl,hn,B,K,F,Q,rl8,z1,hq1,Bool.false_and,Bool.true_and,c0,c1,c2,c3,S]
    exact .refl _
   cases q3
   case false =>
    simp only [go_sem,nw8,hl,hn,B,K,F,Q,rl8,z1,hq1,Bool.false_and,Bool.true_and,c0,c1,c2,c3,S]
    exact .refl _
   simp only [go_sem,nw8,hl,hn,B,K,F,Q,rl8,z1,hq1,Bool.true_and,c0,c1,c2,c3,S]
   exact .refl _
  have s0:((s:Int):Rat) ≠ 0:=fun h=>absurd (rat0 h) (Int.ne_of_gt S)
  have s1:=eq_false s0
  obtain ⟨x1,x2⟩:=mixI n0 n1 n2 n3 hs S b c d e
  rw [← ey] at x1 x2
  have e1:(wIn (y.1,y.2.1,y.2.2) [(b.1,b.2.1,b.2.2),(c.1,c.2.1,c.2.2),(d.1,d.2.1,d.2.2),(e.1,e.2.1,e.2.2)] == -1)=false:=by simpa using x1
  by_cases z:n=0
  case pos =>
   have z1:(n == 0)=true:=by simpa using z
   simp only [go_sem,nw8,hl,hn,B,K,F,Q,rl8,z1,c0,c1,c2,c3,S,s0,s1,e1]
   exact .refl _
  have z1:(n == 0)=false:=by simpa using z
  have hq1:=hq z
  cases q0
  case false =>
   simp only [go_sem,nw8,hl,hn,B,K,F,Q,rl8,z1,hq1,Bool.false_and,Bool.true_and,c0,c1,c2,c3,S,s0,s1,e1]
   exact .refl _
  cases q1
  case false =>
   simp only [go_sem,nw8,hl,hn,B,K,F,Q,rl8,z1,hq1,Bool.false_and,Bool.true_and,c0,c1,c2,c3,S,s0,s1,e1]
   exact .refl _
  cases q2
  case false =>
   simp only [go_sem,nw8,hl,hn,B,K,F,Q,rl8,z1,hq1,Bool.false_and,Bool.true_and,c0,c1,c2,c3,S,s0,s1,e1]
   exact .refl _
  cases q3
  case false =>
   simp only [go_sem,nw8,hl,hn,B,K,F,Q,rl8,z1,hq1,Bool.false_and,Bool.true_and,c0,c1,c2,c3,S,s0,s1,e1]
   exact .refl _
  simp only [go_sem,nw8,hl,hn,B,K,F,Q,rl8,z1,hq1,Bool.true_and,c0,c1,c2,c3,S,s0,s1,e1]
  exact .refl _
 simp only [go_sem,nw8,hl,hn,B,K,F,Q,rl8,c0,c1,c2,c3]
 refine goN_once HE hP.mix 164 ?_
 by_cases S:s > 0
 case neg =>
  by_cases z:n=0
  case pos =>
   have z1:(n == 0)=true:=by simpa using z
   simp only [go_sem,nw8,hl,hn,B,K,F,Q,rl8,z1,c0,c1,c2,c3,S]
   exact .refl _
  have z1:(n == 0)=false:=by simpa using z
  have hq1:=hq z
  cases q0
  case false =>
   simp only [go_sem,nw8,hl,hn,B,K,F,Q,rl8,z1,hq1,Bool.false_and,Bool.true_and,c0,c1,c2,c3,S]
   exact .refl _
  cases q1
  case false =>
   simp only [go_sem,nw8,hl,hn,B,K,F,Q,rl8,z1,hq1,Bool.false_and,Bool.true_and,c0,c1,c2,c3,S]
   exact .refl _
  cases q2
  case false =>
   simp only [go_sem,nw8,hl,hn,B,K,F,Q,rl8,z1,hq1,Bool.false_and,Bool.true_and,c0,c1,c2,c3,S]
   exact .refl _
  cases q3
  case false =>
   simp only [go_sem,nw8,hl,hn,B,K,F,Q,rl8,z1,hq1,Bool.false_and,Bool.true_and,c0,c1,c2,c3,S]
   exact .refl _
  simp only [go_sem,nw8,hl,hn,B,K,F,Q,rl8,z1,hq1,Bool.true_and,c0,c1,c2,c3,S]
  exact .refl _
 have s0:((s:Int):Rat) ≠ 0:=fun h=>absurd (rat0 h) (Int.ne_of_gt S)
 have s1:=eq_false s0
 obtain ⟨x1,x2⟩:=mixI n0 n1 n2 n3 hs S b c d e
 rw [← ey] at x1 x2
 have e1:(wIn (y.1,y.2.1,y.2.2) [(b.1,b.2.1,b.2.2),(c.1,c.2.1,c.2.2),(d.1,d.2.1,d.2.2),(e.1,e.2.1,e.2.2)] == -1)=false:=by simpa using x1
 have e2:(wIn (y.1,y.2.1,y.2.2) [(b.1,b.2.1,b.2.2),(c.1,c.2.1,c.2.2),(d.1,d.2.1,d.2.2),(e.1,e.2.1,e.2.2)] != 1)=false:=by simpa using x2 c0 c1 c2 c3
 by_cases z:n=0
 case pos =>
  have z1:(n == 0)=true:=by simpa using z
  simp only [go_sem,nw8,hl,hn,B,K,F,Q,rl8,z1,c0,c1,c2,c3,S,s0,s1,e1,e2]
  exact .refl _
 have z1:(n == 0)=false:=by simpa using z
 have hq1:=hq z
 cases q0
 case false =>
  simp only [go_sem,nw8,hl,hn,B,K,F,Q,rl8,z1,hq1,Bool.false_and,Bool.true_and,c0,c1,c2,c3,S,s0,s1,e1,e2]
  exact .refl _
 cases q1
 case false =>
  simp only [go_sem,nw8,hl,hn,B,K,F,Q,rl8,z1,hq1,Bool.false_and,Bool.true_and,c0,c1,c2,c3,S,s0,s1,e1,e2]
  exact .refl _
 cases q2
 case false =>
  simp only [go_sem,nw8,hl,hn,B,K,F,Q,rl8,z1,hq1,Bool.false_and,Bool.true_and,c0,c1,c2,c3,S,s0,s1,e1,e2]
  exact .refl _
 cases q3
 case false =>
  simp only [go_sem,nw8,hl,hn,B,K,F,Q,rl8,z1,hq1,Bool.false_and,Bool.true_and,c0,c1,c2,c3,S,s0,s1,e1,e2]
  exact .refl _
 simp only [go_sem,nw8,hl,hn,B,K,F,Q,rl8,z1,hq1,Bool.true_and,c0,c1,c2,c3,S,s0,s1,e1,e2]
 exact .refl _
theorem u8x4 {xs:List AV} (h:okL [.int .u8,.int .u8,.int .u8,.int .u8] xs):∃ a b c d:Int,(0≤a∧a≤255)∧(0≤b∧b≤255)∧(0≤c∧c≤255)∧(0≤d∧d≤255)∧xs=[.int .u8 a,.int .u8 b,.int .u8 c,.int .u8 d]:=by
 have k:∀ n:Int,(Lit.int .u8 n).wf=true→0≤n∧n≤255:=fun n h=>by simp [Lit.wf,IntKind.min,IntKind.max,IntKind.signed,IntKind.bits] at h; omega
 simp only [okL,Sha.Ok] at h
 obtain ⟨_,_,⟨a,ha,rfl⟩,⟨_,_,⟨b,hb,rfl⟩,⟨_,_,⟨c,hc,rfl⟩,⟨_,_,⟨d,hd,rfl⟩,rfl,rfl⟩,rfl⟩,rfl⟩,rfl⟩:=h
 exact ⟨a,b,c,d,k a ha,k b hb,k c hc,k d hd,rfl⟩
theorem PredMixes_spec (hP:PrgOk P) (L:List ByteArray) (hL:L.length=15) (hs:∀ s ∈ L,s.size≤maxS) (xs:List AV) (o:okL [.int .u8,.int .u8,.int .u8,.int .u8] xs):CSpec P 5 [.agg (L.map .str),.agg xs] (.bool true):=by
 obtain ⟨a,b,c,d,ha,hb,hc,hd,rfl⟩:=u8x4 o
 exact PredMixes_core hP L hL hs a b c d ha hb hc hd
end Go.Proofs.YtapddfjimhohcaaGreatDoor.AM
