/- The document's fractions. -/
import Derived.Test.YtmahhmdeocnlgaaGreatDoorB8
import Derived.Test.YtmahhmdeocnlgaaGreatDoorB5
namespace Go.Proofs.YtmahhmdeocnlgaaGreatDoor.AM
set_option linter.all false
set_option autoImplicit true
set_option relaxedAutoImplicit true
open Go Go.Proofs
set_option maxRecDepth 100000
set_option maxHeartbeats 8000000
set_option linter.unusedSimpArgs false
variable {P:Program}
theorem CvL.rnatOut (n:Nat) {xs bs} (k:CvL xs bs):CvL ((.imm (digs 65536 (n)).length (List.map (fun d:Nat=>AV.int .u32 (d:Int)) (digs 65536 (n))))::xs) ((.opq (.rnat (n)))::bs):=fun W φ w l hl=>by
 obtain ⟨v,vs,rfl,h1,h2⟩:=hl.uncons rfl
 exact (Conv.rnat n _ _ _ _ h1).app (k _ _ _ _ h2)
def rG (q:Rat):List AV:=[.bool (decide (q.num<0)),(.imm (digs 65536 (q.num.natAbs)).length (List.map (fun d:Nat=>AV.int .u32 (d:Int)) (digs 65536 (q.num.natAbs)))),(.imm (digs 65536 (q.den)).length (List.map (fun d:Nat=>AV.int .u32 (d:Int)) (digs 65536 (q.den))))]
theorem CvL.rfIn (q:Rat) {xs bs} (h:CvL xs bs):CvL ((.agg [.opq (.rfrac (q)),.pad,.pad])::xs) (.agg (rG q)::bs):=by
 refine .agg (fun W φ w l hl=>?_) h
 have h1:CvL [.opq (.rfrac q),.pad,.pad] [.bool (decide (q.num<0)),(.opq (.rnat (q.num.natAbs))),(.opq (.rnat (q.den)))]:=by simpa [Pay.open,Pay.width] using CvL.unfold (.rfrac q) []
 have h2:CvL [.bool (decide (q.num<0)),(.opq (.rnat (q.num.natAbs))),(.opq (.rnat (q.den)))] (rG q):=CvL.cons rfl (CvL.rnatIn _ (CvL.rnatIn _ .nil))
 exact h2 _ _ _ _ (h1 _ _ _ _ hl)
theorem CvL.rfOut (q:Rat) {xs bs} (h:CvL xs bs):CvL (.agg (rG q)::xs) ((.agg [.opq (.rfrac (q)),.pad,.pad])::bs):=by
 refine .agg (fun W φ w l hl=>?_) h
 have h1:CvL [.bool (decide (q.num<0)),(.opq (.rnat (q.num.natAbs))),(.opq (.rnat (q.den)))] [.opq (.rfrac q),.pad,.pad]:=by simpa [Pay.open,Pay.width] using CvL.fold (.rfrac q) [] rfl
 have h2:CvL (rG q) [.bool (decide (q.num<0)),(.opq (.rnat (q.num.natAbs))),(.opq (.rnat (q.den)))]:=CvL.cons rfl (CvL.rnatOut _ (CvL.rnatOut _ .nil))
 exact h1 _ _ _ _ (h2 _ _ _ _ hl)
theorem Conv.rf (q:Rat):Conv (.agg (rG q)) (.agg [.opq (.rfrac (q)),.pad,.pad]):=CvL.conv (.rfOut q .nil)
theorem sg_lt {m:Bool} {n:Nat} (h:m=true→0<n):decide (sg m n<0)=m:=by
 rw [sg_neg]; cases m
 · rfl
 · rw [decide_eq_true (h rfl)]; rfl
theorem rG_mk {m:Bool} {n d:Nat} (h:m=true→0<n) (hd:0<d) (hg:Nat.gcd n d=1):rG (mkRat (sg m n) d)=[.bool m,(.imm (digs 65536 (n)).length (List.map (fun d:Nat=>AV.int .u32 (d:Int)) (digs 65536 (n)))),(.imm (digs 65536 (d)).length (List.map (fun d:Nat=>AV.int .u32 (d:Int)) (digs 65536 (d))))]:=by
 unfold rG
 rw [mk_num hd,mk_den hd,sg_abs,hg,Nat.div_one,Nat.div_one,sg_lt h,sg_lt h,sg_abs]
noncomputable def rawRF:AV→Option (Prop × Rat)
 | .agg [.opq (.rfrac q),.pad,.pad]=>some (True,q)
 | .agg [.bool m,x,y]=>(rawR x).bind fun n=>(rawR y).map fun d=>(n.1∧d.1∧(m=true→0<n.2)∧0<d.2∧Nat.gcd n.2 d.2=1,qlow (sg m n.2) d.2)
 | _=>none
theorem rawRF_atom (q:Rat):rawRF (.agg [.opq (.rfrac (q)),.pad,.pad])=some (True,q):=rfl
theorem rawRF_raw (m x y):rawRF (.agg [.bool m,x,y])=(rawR x).bind fun n=>(rawR y).map fun d=>(n.1∧d.1∧(m=true→0<n.2)∧0<d.2∧Nat.gcd n.2 d.2=1,qlow (sg m n.2) d.2):=rfl
theorem rawRF_G (q:Rat):rawRF (.agg [.bool (decide ((q).num<0)),(.imm (digs 65536 ((q).num.natAbs)).length (List.map (fun d:Nat=>AV.int .u32 (d:Int)) (digs 65536 ((q).num.natAbs)))),(.imm (digs 65536 ((q).den)).length (List.map (fun d:Nat=>AV.int .u32 (d:Int)) (digs 65536 ((q).den))))])=some (True,q):=by
 rw [rawRF_raw,rawR_imm,rawR_imm]
 simp only [Option.bind_some,Option.map_some,isR_digs,map_ud32,dOf_digs16,true_and]
 rw [sg_of,qlow_eq,q_self]
 congr 2
 refine eq_true ⟨fun h=>?_,q.den_pos,q_gcd q⟩
 have:=of_decide_eq_true h
 omega
theorem rawRF_cv {v:AV} {p q} (h:rawRF v=some (p,q)) (hp:p) {xs bs} (k:CvL xs bs):CvL (v::xs) ((.agg [.opq (.rfrac (q)),.pad,.pad])::bs):=by
 unfold rawRF at h
 split at h
 · simp only [Option.some.injEq,Prod.mk.injEq] at h
   obtain ⟨rfl,rfl⟩:=h
   exact .agg (.refl _) k
 · rename_i m x y
   simp only [Option.bind_eq_some_iff,Option.map_eq_some_iff,Prod.exists,Prod.mk.injEq] at h
   obtain ⟨p1,n,h1,p2,d,h2,rfl,rfl⟩:=h
   obtain ⟨c1,c2,c3,c4,c5⟩:=hp
   have e:=rG_mk c3 c4 c5
   rw [qlow_eq]
   have h3:CvL (.agg [.bool m,x,y]::xs) (.agg (rG (mkRat (sg m n) d))::xs):=by
    rw [e]
    exact .agg (CvL.cons rfl (rawR_cv h1 c1 (rawR_cv h2 c2 .nil))) (.refl _)
   exact fun W φ w l hl=>CvL.rfOut _ k _ _ _ _ (h3 _ _ _ _ hl)
 · simp at h
noncomputable def onQ1 (f:Rat→Prop × AV):List AV→Option (Prop × AV)
 | [x]=>(rawRF x).map fun a=>(a.1∧(f a.2).1,(f a.2).2)
 | _=>none
noncomputable def onQ2 (f:Rat→Rat→Prop × AV):List AV→Option (Prop × AV)
 | [x,y]=>(rawRF x).bind fun a=>(rawRF y).map fun b=>(a.1∧b.1∧(f a.2 b.2).1,(f a.2 b.2).2)
 | _=>none
theorem onQ1_ok {fi:Nat} {f:Rat→Prop × AV} (h:∀ a,(f a).1→CSpec P fi [(.agg [.opq (.rfrac (a)),.pad,.pad])] (f a).2) (args p r) (he:onQ1 f args=some (p,r)) (hp:p):CSpec P fi args r:=by
 unfold onQ1 at he
 split at he
 · simp only [Option.map_eq_some_iff,Prod.exists,Prod.mk.injEq] at he
   obtain ⟨q,a,h1,rfl,rfl⟩:=he
   exact (h a hp.2).cv (rawRF_cv h1 hp.1 .nil)
 · simp at he
theorem onQ2_ok {fi:Nat} {f:Rat→Rat→Prop × AV} (h:∀ a b,(f a b).1→CSpec P fi [(.agg [.opq (.rfrac (a)),.pad,.pad]),(.agg [.opq (.rfrac (b)),.pad,.pad])] (f a b).2) (args p r) (he:onQ2 f args=some (p,r)) (hp:p):CSpec P fi args r:=by
 unfold onQ2 at he
 split at he
 · simp only [Option.bind_eq_some_iff,Option.map_eq_some_iff,Prod.exists,Prod.mk.injEq] at he
   obtain ⟨q,a,h1,q',b,h2,rfl,rfl⟩:=he
   exact (h a b hp.2.2).cv (rawRF_cv h1 hp.1 (rawRF_cv h2 hp.2.1 .nil))
 · simp at he
theorem onQ1_eq (f x):onQ1 f [x]=(rawRF x).map fun a=>(a.1∧(f a.2).1,(f a.2).2):=rfl
theorem onQ2_eq (f x y):onQ2 f [x,y]=(rawRF x).bind fun a=>(rawRF y).map fun b=>(a.1∧b.1∧(f a.2 b.2).1,(f a.2 b.2).2):=rfl
attribute [go_sem] rawRF_atom rawRF_G onQ1_eq onQ2_eq
theorem digs0 (n:Nat):((digs 65536 n).length == 0)=decide (n=0):=by
 rw [Bool.eq_iff_iff]; simp only [beq_iff_eq,decide_eq_true_eq]
 constructor
 · intro h
   have:=dOf_digs16 n
   rw [List.length_eq_zero_iff.1 h] at this
   exact this.symm
 · intro h; rw [h,digs_zero]; rfl
theorem digs1 (n:Nat):(0<(digs 65536 n).length)=(0<n):=by
 have:=digs0 n
 rw [Bool.eq_iff_iff] at this; simp only [beq_iff_eq,decide_eq_true_eq] at this
 rw [eq_iff_iff]; omega
theorem digs1' {n:Nat} (h:(digs 65536 n).length=1):digs 65536 n=[n]:=by
 have hd:=dOf_digs16 n
 cases hl:digs 65536 n with
 | nil=>rw [hl] at h; simp at h
 | cons c t =>
   rw [hl] at h hd
   have ht:t=[]:=List.length_eq_zero_iff.1 (by simpa using h)
   subst ht
   simp [dOf] at hd
   rw [hd]
theorem rOne_spec (hP:PrgOk P) (n:Nat) (h:blen n≤68719476736):CSpec P 141 [(.imm (digs 65536 (n)).length (List.map (fun d:Nat=>AV.int .u32 (d:Int)) (digs 65536 (n))))] (.bool (decide (n=1))):=by
 have HE:=Sp_ok hP
 by_cases h1:(digs 65536 n).length=1
 · rw [digs1' h1]
   have e:((n:Int) == 1)=decide (n=1):=by
    rw [Bool.eq_iff_iff]; simp only [beq_iff_eq,decide_eq_true_eq]; omega
   refine CSpec_go (E:=⟨T0,Sp⟩) (fn141 hP) HE hP.mix ?_
   simp only [go_sem,h,List.map_cons,List.map_nil,List.length_cons,List.length_nil,e]
   exact fin_z
 · have e1:((digs 65536 n).length == 1)=false:=beq_eq_false_iff_ne.2 h1
   have e2:decide (n=1)=false:=decide_eq_false fun e=>h1 (by rw [e,digs_small 65536 1 (by decide) (by decide) (by decide)]; rfl)
   rw [e2]
   refine CSpec_go (E:=⟨T0,Sp⟩) (fn141 hP) HE hP.mix ?_
   simp only [go_sem,h,e1]
   exact fin_z
def rOneS:List AV→Option (Prop × AV):=onR1 fun a=>(blen a≤68719476736,.bool (decide (a=1)))
theorem rOneS_ok (hP:PrgOk P) (args p r):rOneS args=some (p,r)→p→CSpec P 141 args r:=onR1_ok (fun a h=>by exact rOne_spec hP a h) args p r
attribute [go_sem] rOneS
noncomputable def Fr0:Nat→List AV→Option (Prop × AV):=addS Sp 141 rOneS
theorem Fr0_ok (hP:PrgOk P):EnvOk P ⟨T0,Fr0⟩:=((Sp_ok hP).add (rOneS_ok hP))
theorem Fr0_at (f a):Fr0 f a=(addS Sp 141 rOneS) f a:=rfl
attribute [go_sem] Fr0_at
theorem rLow_spec (hP:PrgOk P) (m:Bool) (n d:Nat) (hn:blen n≤34359738368) (hd:blen d≤34359738368) (h0:0<d):CSpec P 94 [.bool m,(.imm (digs 65536 (n)).length (List.map (fun d:Nat=>AV.int .u32 (d:Int)) (digs 65536 (n)))),(.imm (digs 65536 (d)).length (List.map (fun d:Nat=>AV.int .u32 (d:Int)) (digs 65536 (d))))] (.agg [.opq (.rfrac (qlow (sg m n) d)),.pad,.pad]):=by
 have HE:=Fr0_ok hP
 rw [qlow_eq]
 refine CSpec.conv (r:=.agg (rG (mkRat (sg m n) d))) ?_ (.rf _)
 have hn':=Nat.le_trans hn (show _≤68719476736 by decide)
 have hd':=Nat.le_trans hd (show _≤68719476736 by decide)
 refine CSpec_go (E:=⟨T0,Fr0⟩) (fn94 hP) HE hP.mix ?_
 by_cases h:n=0
 · have e:rG (mkRat (sg m n) d)=[.bool false,(.imm (digs 65536 (0)).length (List.map (fun d:Nat=>AV.int .u32 (d:Int)) (digs 65536 (0)))),(.imm (digs 65536 (1)).length (List.map (fun d:Nat=>AV.int .u32 (d:Int)) (digs 65536 (1))))]:=by
    have:mkRat (sg m n) d=0:=by rw [h,sg_zero]; exact Rat.zero_mkRat _
    rw [this]; rfl
   have hb:decide (n=0)=true:=decide_eq_true h
   have i1:(1:Int).toNat=1:=rfl
   rw [e]
   simp only [go_sem,digs0,hb,i1]
   rw [digs_zero]
   exact ⟨by omega,CvL.conv (.agg (CvL.cons (a:=.bool false) rfl (.nilR (.refl _))) .nil)⟩
 · have hb:decide (n=0)=false:=decide_eq_false h
   have hg:0<Nat.gcd n d:=Nat.gcd_pos_of_pos_right _ h0
   have hgb:=gcd_blen hn hd
   have hp:0<n / Nat.gcd n d:=Nat.div_pos (Nat.le_of_dvd (by omega) (Nat.gcd_dvd_left _ _)) hg
   have e:rG (mkRat (sg m n) d)=[.bool m,(.imm (digs 65536 (n / Nat.gcd n d)).length (List.map (fun d:Nat=>AV.int .u32 (d:Int)) (digs 65536 (n / Nat.gcd n d)))),(.imm (digs 65536 (d / Nat.gcd n d)).length (List.map (fun d:Nat=>AV.int .u32 (d:Int)) (digs 65536 (d / Nat.gcd n d))))]:=by
    unfold rG
    rw [mk_num h0,mk_den h0,sg_abs,sg_lt (m:=m) (n:=n) (fun _=>by omega),sg_lt (m:=m) (n:=n / Nat.gcd n d) (fun _=>hp),sg_abs]
   rw [e]
   simp only [go_sem,digs0,hb,hn,hd,hn',hd',hg,hgb]
   exact fin_z
noncomputable def rLowS:List AV→Option (Prop × AV)
 | [.bool m,x,y]=>(rawR x).bind fun n=>(rawR y).map fun d=>(n.1∧d.1∧blen n.2≤34359738368∧blen d.2≤34359738368∧0<d.2,(.agg [.opq (.rfrac (qlow (sg m n.2) d.2)),.pad,.pad]))
 | _=>none
theorem rLowS_eq (m x y):rLowS [.bool m,x,y]=(rawR x).bind fun n=>(rawR y).map fun d=>(n.1∧d.1∧blen n.2≤34359738368∧blen d.2≤34359738368∧0<d.2,(.agg [.opq (.rfrac (qlow (sg m n.2) d.2)),.pad,.pad])):=rfl
theorem rLowS_ok (hP:PrgOk P) (args p r) (he:rLowS args=some (p,r)) (hp:p):CSpec P 94 args r:=by
 unfold rLowS at he
 split at he
 · simp only [Option.bind_eq_some_iff,Option.map_eq_some_iff,Prod.exists,Prod.mk.injEq] at he
   obtain ⟨q,a,h1,q',b,h2,rfl,rfl⟩:=he
   exact (rLow_spec hP _ a b hp.2.2.1 hp.2.2.2.1 hp.2.2.2.2).cv (.cons rfl (rawR_cv h1 hp.1 (rawR_cv h2 hp.2.1 .nil)))
 · simp at he
attribute [go_sem] rLowS_eq
def smB (m:Bool) (n:Nat) (k:Bool) (l:Nat):Bool:=if m=k then m else if l≤n then m else k
def smN (m:Bool) (n:Nat) (k:Bool) (l:Nat):Nat:=if m=k then n+l else if l≤n then n-l else l-n
theorem sm_sg (m n k l):sg (smB m n k l) (smN m n k l)=sg m n+sg k l:=by
 unfold smB smN
 cases m<;>cases k<;>simp [sg]<;>(repeat' split)<;>omega
theorem smN_blen {m n k l c} (h:blen n≤c) (h':blen l≤c):blen (smN m n k l)≤c+1:=by
 have hs:=wl_add2 (a:=sg m n) (b:=sg k l) (n:=c) (by unfold wl; rw [sg_abs]; exact h) (by unfold wl; rw [sg_abs]; exact h')
 rw [← sm_sg] at hs; unfold wl at hs; rw [sg_abs] at hs; exact hs
theorem cmp_lt' {a b:Nat} (h:¬ b≤a):decide (0≤cmpI a b)=false:=by
 rw [cmpI_lt (by omega)]; rfl
theorem rSum_spec (hP:PrgOk P) (m:Bool) (n:Nat) (k:Bool) (l:Nat) (hn:blen n≤34359738368) (hl:blen l≤34359738368):CSpec P 163 [.bool m,(.imm (digs 65536 (n)).length (List.map (fun d:Nat=>AV.int .u32 (d:Int)) (digs 65536 (n)))),.bool k,(.imm (digs 65536 (l)).length (List.map (fun d:Nat=>AV.int .u32 (d:Int)) (digs 65536 (l))))] (.tup [.bool (smB m n k l),(.imm (digs 65536 (smN m n k l)).length (List.map (fun d:Nat=>AV.int .u32 (d:Int)) (digs 65536 (smN m n k l))))]):=by
 have HE:=Fr0_ok hP
 have hn':=Nat.le_trans hn (show _≤68719476736 by decide)
 have hl':=Nat.le_trans hl (show _≤68719476736 by decide)
 refine CSpec_go (E:=⟨T0,Fr0⟩) (fn163 hP) HE hP.mix ?_
 by_cases h:m=k
 · subst h
   have e1:smB m n m l=m:=if_pos rfl
   have e2:smN m n m l=n+l:=if_pos rfl
   have hb:(m == m)=true:=beq_self_eq_true m
   rw [e1,e2]
   simp only [go_sem,hn',hl',hb]
   exact fin_z
 · have hb:(m == k)=false:=beq_eq_false_iff_ne.2 h
   by_cases h2:l≤n
   · have e1:smB m n k l=m:=by unfold smB; rw [if_neg h,if_pos h2]
     have e2:smN m n k l=n-l:=by unfold smN; rw [if_neg h,if_pos h2]
     rw [e1,e2]
     simp only [go_sem,hn',hl',hb,cmp_ge' h2,h2]
     exact fin_z
   · have e1:smB m n k l=k:=by unfold smB; rw [if_neg h,if_neg h2]
     have e2:smN m n k l=l-n:=by unfold smN; rw [if_neg h,if_neg h2]
     have h3:n≤l:=by omega
     rw [e1,e2]
     simp only [go_sem,hn',hl',hb,cmp_lt' h2,h3]
     exact fin_z
def rSumS:List AV→Option (Prop × AV)
 | [.bool m,x,.bool k,y]=>(rawR x).bind fun n=>(rawR y).map fun l=>(n.1∧l.1∧blen n.2≤34359738368∧blen l.2≤34359738368,.tup [.bool (smB m n.2 k l.2),(.imm (digs 65536 (smN m n.2 k l.2)).length (List.map (fun d:Nat=>AV.int .u32 (d:Int)) (digs 65536 (smN m n.2 k l.2))))])
 | _=>none
theorem rSumS_eq (m x k y):rSumS [.bool m,x,.bool k,y]=(rawR x).bind fun n=>(rawR y).map fun l=>(n.1∧l.1∧blen n.2≤34359738368∧blen l.2≤34359738368,.tup [.bool (smB m n.2 k l.2),(.imm (digs 65536 (smN m n.2 k l.2)).length (List.map (fun d:Nat=>AV.int .u32 (d:Int)) (digs 65536 (smN m n.2 k l.2))))]):=rfl
theorem rSumS_ok (hP:PrgOk P) (args p r) (he:rSumS args=some (p,r)) (hp:p):CSpec P 163 args r:=by
 unfold rSumS at he
 split at he
 · simp only [Option.bind_eq_some_iff,Option.map_eq_some_iff,Prod.exists,Prod.mk.injEq] at he
   obtain ⟨q,a,h1,q',b,h2,rfl,rfl⟩:=he
   exact (rSum_spec hP _ a _ b hp.2.2.1 hp.2.2.2).cv (.cons rfl (rawR_cv h1 hp.1 (.cons rfl (rawR_cv h2 hp.2.1 .nil))))
 · simp at he
attribute [go_sem] rSumS_eq
theorem rNeg_spec (hP:PrgOk P) (q:Rat):CSpec P 101 [(.agg [.opq (.rfrac (q)),.pad,.pad])] (.agg [.opq (.rfrac (qneg q)),.pad,.pad]):=by
 have HE:=Fr0_ok hP
 rw [qneg_eq]
 refine CSpec.cv ?_ (.rfIn q .nil)
 refine CSpec.conv (r:=.agg (rG (-q))) ?_ (.rf _)
 unfold rG
 rw [(neg_nd q).1,(neg_nd q).2,Int.natAbs_neg]
 refine CSpec_go (E:=⟨T0,Fr0⟩) (fn101 hP) HE hP.mix ?_
 by_cases h:q.num<0
 · have e:decide (-q.num<0)=false:=decide_eq_false (by omega)
   rw [e]
   simp only [go_sem,h]
   exact fin_z
 · by_cases h2:q.num=0
   · have e:decide (-q.num<0)=false:=decide_eq_false (by omega)
     have h3:(0<q.num.natAbs)=False:=eq_false (by omega)
     rw [e]
     simp only [go_sem,h,digs1,h3]
     exact fin_z
   · have e:decide (-q.num<0)=true:=decide_eq_true (by omega)
     have h3:(0<q.num.natAbs)=True:=eq_true (by omega)
     rw [e]
     simp only [go_sem,h,digs1,h3]
     exact fin_z
noncomputable def rNegS:List AV→Option (Prop × AV):=onQ1 fun q=>(True,(.agg [.opq (.rfrac (qneg q)),.pad,.pad]))
theorem rNegS_ok (hP:PrgOk P) (args p r):rNegS args=some (p,r)→p→CSpec P 101 args r:=onQ1_ok (fun a _=>by exact rNeg_spec hP a) args p r
theorem rSign_spec (hP:PrgOk P) (q:Rat):CSpec P 89 [(.agg [.opq (.rfrac (q)),.pad,.pad])] (.int .i64 (cmpQ q 0)):=by
 have HE:=Fr0_ok hP
 refine CSpec.cv ?_ (.rfIn q .nil)
 rw [← sgn_cmp]
 unfold rG sgnZ
 refine CSpec_go (E:=⟨T0,Fr0⟩) (fn89 hP) HE hP.mix ?_
 by_cases h:q.num=0
 · have hb:decide (q.num.natAbs=0)=true:=decide_eq_true (by omega)
   rw [if_pos h]
   simp only [go_sem,digs0,hb]
   exact fin_z
 · have hb:decide (q.num.natAbs=0)=false:=decide_eq_false (by omega)
   rw [if_neg h]
   by_cases h2:q.num<0
   · rw [if_pos h2]
     simp only [go_sem,digs0,hb,h2]
     exact fin_z
   · rw [if_neg h2]
     simp only [go_sem,digs0,hb,h2]
     exact fin_z
noncomputable def rSignS:List AV→Option (Prop × AV):=onQ1 fun q=>(True,.int .i64 (cmpQ q 0))
theorem rSignS_ok (hP:PrgOk P) (args p r):rSignS args=some (p,r)→p→CSpec P 89 args r:=onQ1_ok (fun a _=>by exact rSign_spec hP a) args p r
theorem rWhole_spec (hP:PrgOk P) (m:Bool) (n:Nat) (hn:blen n≤34359738368):CSpec P 140 [.bool m,(.imm (digs 65536 (n)).length (List.map (fun d:Nat=>AV.int .u32 (d:Int)) (digs 65536 (n))))] (.str (itS (sg m n))):=by
 have HE:=Fr0_ok hP
 have hn':=Nat.le_trans hn (show _≤68719476736 by decide)
 have hl:=decL_len n
 have hs:(#[45]:Array UInt8).size+(decS n).size≤9223372036854775807:=by
  rw [decS_size]; have:(#[45]:Array UInt8).size=1:=rfl
  omega
 unfold itS
 rw [sg_abs]
 refine CSpec_go (E:=⟨T0,Fr0⟩) (fn140 hP) HE hP.mix ?_
 cases m
 · rw [if_neg (by rw [sg_f]; omega)]
   simp only [go_sem,hn']
   exact fin_z
 · by_cases h:0<n
   · rw [if_pos (by rw [sg_t]; omega)]
     simp only [go_sem,hn',digs1,h,hs]
     exact fin_z
   · rw [if_neg (by rw [sg_t]; omega)]
     simp only [go_sem,hn',digs1,h]
     exact fin_z
def rWholeS:List AV→Option (Prop × AV)
 | [.bool m,x]=>(rawR x).map fun n=>(n.1∧blen n.2≤34359738368,.str (itS (sg m n.2)))
 | _=>none
theorem rWholeS_eq (m x):rWholeS [.bool m,x]=(rawR x).map fun n=>(n.1∧blen n.2≤34359738368,.str (itS (sg m n.2))):=rfl
theorem rWholeS_ok (hP:PrgOk P) (args p r) (he:rWholeS args=some (p,r)) (hp:p):CSpec P 140 args r:=by
 unfold rWholeS at he
 split at he
 · simp only [Option.map_eq_some_iff,Prod.exists,Prod.mk.injEq] at he
   obtain ⟨q,a,h1,rfl,rfl⟩:=he
   exact (rWhole_spec hP _ a hp.2).cv (.cons rfl (rawR_cv h1 hp.1 .nil))
 · simp at he
attribute [go_sem] rNegS rSignS rWholeS_eq
noncomputable def Fr1:Nat→List AV→Option (Prop × AV):=addS (addS (addS (addS (addS Fr0 94 rLowS) 163 rSumS) 101 rNegS) 89 rSignS) 140 rWholeS
theorem Fr1_ok (hP:PrgOk P):EnvOk P ⟨T0,Fr1⟩:=((((((Fr0_ok hP).add (rLowS_ok hP)).add (rSumS_ok hP)).add (rNegS_ok hP)).add (rSignS_ok hP)).add (rWholeS_ok hP))
theorem Fr1_at (f a):Fr1 f a=(addS (addS (addS (addS (addS Fr0 94 rLowS) 163 rSumS) 101 rNegS) 89 rSignS) 140 rWholeS) f a:=rfl
attribute [go_sem] Fr1_at
theorem sgd_mul (z:Int) (d:Nat):sg (decide (z<0)) (z.natAbs*d)=z*d:=by
 have hz:=sg_of z
 by_cases h:z<0
 · rw [decide_eq_true h,sg_t] at *
   rw [Int.natCast_mul,← Int.neg_mul,hz]
 · rw [decide_eq_false h,sg_f] at *
   rw [Int.natCast_mul,hz]
theorem sg_xor (a b:Int):sg (decide (a<0) != decide (b<0)) (a.natAbs*b.natAbs)=a*b:=by
 have ha:=sg_of a
 have hb:=sg_of b
 by_cases h:a<0<;>by_cases h':b<0<;>simp only [h,h',decide_true,decide_false] at ha hb ⊢<;>simp only [sg_t,sg_f] at ha hb<;>rw [← ha,← hb]<;>simp [sg,Int.neg_mul,Int.mul_neg]
theorem sg_xor2 (a b:Int) (d:Nat) (hb:b ≠ 0):sg (decide (a<0) != decide (b<0)) (a.natAbs*d)=a*sgnZ b*d:=by
 have ha:=sg_of a
 by_cases h':b<0
 · have e:sgnZ b = -1:=by unfold sgnZ; rw [if_neg hb,if_pos h']
   rw [e,decide_eq_true h']
   by_cases h:a<0
   · rw [decide_eq_true h,sg_t] at *
     rw [show (true != true)=false from rfl,sg_f,Int.natCast_mul,← ha]; simp
   · rw [decide_eq_false h,sg_f] at *
     rw [show (false != true)=true from rfl,sg_t,Int.natCast_mul,ha]; grind
 · have e:sgnZ b=1:=by unfold sgnZ; rw [if_neg hb,if_neg h']
   rw [e,decide_eq_false h',Int.mul_one,← sgd_mul]
   cases decide (a<0)<;>rfl
theorem rAdd3_spec (hP:PrgOk P) (a b:Rat) (ha:fl a≤FB) (hb:fl b≤FB):CSpec P 128 [(.agg [.opq (.rfrac (a)),.pad,.pad]),(.agg [.opq (.rfrac (b)),.pad,.pad])] (.agg [.opq (.rfrac (qadd a b)),.pad,.pad]):=by
 have HE:=Fr1_ok hP
 refine CSpec.cv ?_ (.rfIn a (.rfIn b .nil))
 have a1:blen a.num.natAbs≤34359738368:=Nat.le_trans (fl_num ha) (by decide)
 have a2:blen a.den≤34359738368:=Nat.le_trans (fl_den ha) (by decide)
 have a3:blen a.num.natAbs≤68719476736:=Nat.le_trans (fl_num ha) (by decide)
 have a4:blen a.den≤68719476736:=Nat.le_trans (fl_den ha) (by decide)
 have a5:0<a.den:=a.den_pos
 have a6:blen a.num.natAbs≤FB:=fl_num ha
 have a7:blen a.den≤FB:=fl_den ha
 have b1:blen b.num.natAbs≤34359738368:=Nat.le_trans (fl_num hb) (by decide)
 have b2:blen b.den≤34359738368:=Nat.le_trans (fl_den hb) (by decide)
 have b3:blen b.num.natAbs≤68719476736:=Nat.le_trans (fl_num hb) (by decide)
 have b4:blen b.den≤68719476736:=Nat.le_trans (fl_den hb) (by decide)
 have b5:0<b.den:=b.den_pos
 have b6:blen b.num.natAbs≤FB:=fl_num hb
 have b7:blen b.den≤FB:=fl_den hb
 have key:a.num*b.den+b.num*a.den=sg (smB (decide (a.num<0)) (a.num.natAbs*b.den) (decide (b.num<0)) (b.num.natAbs*a.den)) (smN (decide (a.num<0)) (a.num.natAbs*b.den) (decide (b.num<0)) (b.num.natAbs*a.den)):=by
  rw [sm_sg,sgd_mul,sgd_mul]
 have m1':blen (a.num.natAbs*b.den)≤FB+FB:=blen_mul_le a6 b7
 have m2':blen (b.num.natAbs*a.den)≤FB+FB:=blen_mul_le b6 a7
 have m1:=Nat.le_trans m1' (show _≤34359738368 by decide)
 have m2:=Nat.le_trans m2' (show _≤34359738368 by decide)
 have m3:blen (a.den*b.den)≤34359738368:=Nat.le_trans (blen_mul_le a7 b7) (by decide)
 have m4:blen (smN (decide (a.num<0)) (a.num.natAbs*b.den) (decide (b.num<0)) (b.num.natAbs*a.den))≤34359738368:=Nat.le_trans (smN_blen m1' m2') (by decide)
 have m5:0<a.den*b.den:=Nat.mul_pos a5 b5
 rw [qadd_eq,add_mk,← qlow_eq,key]
 unfold rG
 refine CSpec_go (E:=⟨T0,Fr1⟩) (fn128 hP) HE hP.mix ?_
 simp only [go_sem,a3,a4,b3,b4,m1,m2,m3,m4,m5]
 exact fin_z
noncomputable def rAdd3S:List AV→Option (Prop × AV):=onQ2 fun a b=>(fl a≤FB∧fl b≤FB,(.agg [.opq (.rfrac (qadd a b)),.pad,.pad]))
theorem rAdd3S_ok (hP:PrgOk P) (args p r):rAdd3S args=some (p,r)→p→CSpec P 128 args r:=onQ2_ok (fun a b h=>by exact rAdd3_spec hP a b h.1 h.2) args p r
theorem rMul3_spec (hP:PrgOk P) (a b:Rat) (ha:fl a≤FB) (hb:fl b≤FB):CSpec P 77 [(.agg [.opq (.rfrac (a)),.pad,.pad]),(.agg [.opq (.rfrac (b)),.pad,.pad])] (.agg [.opq (.rfrac (qmul a b)),.pad,.pad]):=by
 have HE:=Fr1_ok hP
 refine CSpec.cv ?_ (.rfIn a (.rfIn b .nil))
 have a1:blen a.num.natAbs≤34359738368:=Nat.le_trans (fl_num ha) (by decide)
 have a2:blen a.den≤34359738368:=Nat.le_trans (fl_den ha) (by decide)
 have a3:blen a.num.natAbs≤68719476736:=Nat.le_trans (fl_num ha) (by decide)
 have a4:blen a.den≤68719476736:=Nat.le_trans (fl_den ha) (by decide)
 have a5:0<a.den:=a.den_pos
 have a6:blen a.num.natAbs≤FB:=fl_num ha
 have a7:blen a.den≤FB:=fl_den ha
 have b1:blen b.num.natAbs≤34359738368:=Nat.le_trans (fl_num hb) (by decide)
 have b2:blen b.den≤34359738368:=Nat.le_trans (fl_den hb) (by decide)
 have b3:blen b.num.natAbs≤68719476736:=Nat.le_trans (fl_num hb) (by decide)
 have b4:blen b.den≤68719476736:=Nat.le_trans (fl_den hb) (by decide)
 have b5:0<b.den:=b.den_pos
 have b6:blen b.num.natAbs≤FB:=fl_num hb
 have b7:blen b.den≤FB:=fl_den hb
 have m1:blen (a.num.natAbs*b.num.natAbs)≤34359738368:=Nat.le_trans (blen_mul_le a6 b6) (by decide)
 have m3:blen (a.den*b.den)≤34359738368:=Nat.le_trans (blen_mul_le a7 b7) (by decide)
 have m5:0<a.den*b.den:=Nat.mul_pos a5 b5
 rw [qmul_eq,mul_mk,← qlow_eq,← sg_xor]
 unfold rG
 refine CSpec_go (E:=⟨T0,Fr1⟩) (fn77 hP) HE hP.mix ?_
 simp only [go_sem,a3,a4,b3,b4,m1,m3,m5]
 exact fin_z
noncomputable def rMul3S:List AV→Option (Prop × AV):=onQ2 fun a b=>(fl a≤FB∧fl b≤FB,(.agg [.opq (.rfrac (qmul a b)),.pad,.pad]))
theorem rMul3S_ok (hP:PrgOk P) (args p r):rMul3S args=some (p,r)→p→CSpec P 77 args r:=onQ2_ok (fun a b h=>by exact rMul3_spec hP a b h.1 h.2) args p r
theorem rDiv3_spec (hP:PrgOk P) (a b:Rat) (ha:fl a≤FB) (hb:fl b≤FB) (h0:b ≠ 0):CSpec P 64 [(.agg [.opq (.rfrac (a)),.pad,.pad]),(.agg [.opq (.rfrac (b)),.pad,.pad])] (.agg [.opq (.rfrac (qdiv a b)),.pad,.pad]):=by
 have HE:=Fr1_ok hP
 refine CSpec.cv ?_ (.rfIn a (.rfIn b .nil))
 have a1:blen a.num.natAbs≤34359738368:=Nat.le_trans (fl_num ha) (by decide)
 have a2:blen a.den≤34359738368:=Nat.le_trans (fl_den ha) (by decide)
 have a3:blen a.num.natAbs≤68719476736:=Nat.le_trans (fl_num ha) (by decide)
 have a4:blen a.den≤68719476736:=Nat.le_trans (fl_den ha) (by decide)
 have a5:0<a.den:=a.den_pos
 have a6:blen a.num.natAbs≤FB:=fl_num ha
 have a7:blen a.den≤FB:=fl_den ha
 have b1:blen b.num.natAbs≤34359738368:=Nat.le_trans (fl_num hb) (by decide)
 have b2:blen b.den≤34359738368:=Nat.le_trans (fl_den hb) (by decide)
 have b3:blen b.num.natAbs≤68719476736:=Nat.le_trans (fl_num hb) (by decide)
 have b4:blen b.den≤68719476736:=Nat.le_trans (fl_den hb) (by decide)
 have b5:0<b.den:=b.den_pos
 have b6:blen b.num.natAbs≤FB:=fl_num hb
 have b7:blen b.den≤FB:=fl_den hb
 have hn:b.num ≠ 0:=fun e=>h0 (num_zero.1 e)
 have m1:blen (a.num.natAbs*b.den)≤34359738368:=Nat.le_trans (blen_mul_le a6 b7) (by decide)
 have m3:blen (a.den*b.num.natAbs)≤34359738368:=Nat.le_trans (blen_mul_le a7 b6) (by decide)
 have m5:0<a.den*b.num.natAbs:=Nat.mul_pos a5 (by omega)
 rw [qdiv_eq,div_mk hn,← qlow_eq,← sg_xor2 _ _ _ hn]
 unfold rG
 refine CSpec_go (E:=⟨T0,Fr1⟩) (fn64 hP) HE hP.mix ?_
 simp only [go_sem,a3,a4,b3,b4,m1,m3,m5]
 exact fin_z
noncomputable def rDiv3S:List AV→Option (Prop × AV):=onQ2 fun a b=>(fl a≤FB∧fl b≤FB∧b ≠ 0,(.agg [.opq (.rfrac (qdiv a b)),.pad,.pad]))
theorem rDiv3S_ok (hP:PrgOk P) (args p r):rDiv3S args=some (p,r)→p→CSpec P 64 args r:=onQ2_ok (fun a b h=>by exact rDiv3_spec hP a b h.1 h.2.1 h.2.2) args p r
theorem rText3_spec (hP:PrgOk P) (q:Rat) (h:fl q≤FB):CSpec P 96 [(.agg [.opq (.rfrac (q)),.pad,.pad])] (.str (qtS q)):=by
 have HE:=Fr1_ok hP
 refine CSpec.cv ?_ (.rfIn q .nil)
 have a1:blen q.num.natAbs≤34359738368:=Nat.le_trans (fl_num h) (by decide)
 have a2:blen q.den≤34359738368:=Nat.le_trans (fl_den h) (by decide)
 have a3:blen q.num.natAbs≤68719476736:=Nat.le_trans (fl_num h) (by decide)
 have a4:blen q.den≤68719476736:=Nat.le_trans (fl_den h) (by decide)
 have a5:0<q.den:=q.den_pos
 have a6:blen q.num.natAbs≤FB:=fl_num h
 have a7:blen q.den≤FB:=fl_den h
 have hf:FB=1073741824:=rfl
 have s1:(itS q.num).size+(#[47]:Array UInt8).size≤9223372036854775807:=by
  rw [size_bl]; have:=itS_len (fl_num h); have:(#[47]:Array UInt8).size=1:=rfl
  omega
 have s2:(itS q.num).size+(#[47]:Array UInt8).size+(decS q.den).size≤9223372036854775807:=by
  rw [size_bl,decS_size]
  have:=itS_len (fl_num h); have:=decL_len q.den; have:=fl_den h; have:(#[47]:Array UInt8).size=1:=rfl
  omega
 have sgo:=sg_of q.num
 unfold rG
 refine CSpec_go (E:=⟨T0,Fr1⟩) (fn96 hP) HE hP.mix ?_
 by_cases h1:q.den=1
 · have h1':=decide_eq_true h1
   rw [qtS_one h1]
   simp only [go_sem,a1,a2,a3,a4,h1',sgo]
   exact fin_z
 · have h1':=decide_eq_false h1
   rw [qtS_two h1]
   simp only [go_sem,a1,a2,a3,a4,h1',sgo,s1,s2]
   exact fin_z
noncomputable def rText3S:List AV→Option (Prop × AV):=onQ1 fun q=>(fl q≤FB,.str (qtS q))
theorem rText3S_ok (hP:PrgOk P) (args p r):rText3S args=some (p,r)→p→CSpec P 96 args r:=onQ1_ok (fun a h=>by exact rText3_spec hP a h) args p r
theorem rInt3_spec (hP:PrgOk P) (n:Int) (h1 : -9223372036854775808≤n) (h2:n≤9223372036854775807):CSpec P 93 [.int .i64 n] (.agg [.opq (.rfrac ((n:Rat))),.pad,.pad]):=by
 have HE:=Fr1_ok hP
 have b1:blen 1≤34359738368:=by decide
 have i1:(1:Int).toNat=1:=rfl
 have bn:blen n.natAbs≤34359738368:=Nat.le_trans ((blen_le_iff _ _).2 (show n.natAbs<2^64 by omega)) (by decide)
 have key:(n:Rat)=qlow (sg (decide (n<0)) n.natAbs) 1:=by rw [sg_of,qlow_eq,mk_int]
 rw [key]
 refine CSpec_go (E:=⟨T0,Fr1⟩) (fn93 hP) HE hP.mix ?_
 by_cases h:n<0
 · have w1:IntKind.u64.wrap (0-IntKind.u64.wrap n) = -n:=by rw [IntKind.wrap_u64,IntKind.wrap_u64]; omega
   have t1:(-n).toNat=n.natAbs:=by omega
   have p1:((0:Int)≤-n)=True:=eq_true (by omega)
   have p2:(-n<18446744073709551616)=True:=eq_true (by omega)
   simp only [go_sem,h,w1,t1,p1,p2,b1,i1,bn]
   exact fin_z
 · have w1:IntKind.u64.wrap n=n:=by rw [IntKind.wrap_u64]; omega
   have t1:n.toNat=n.natAbs:=by omega
   have p1:((0:Int)≤n)=True:=eq_true (by omega)
   have p2:(n<18446744073709551616)=True:=eq_true (by omega)
   simp only [go_sem,h,w1,t1,p1,p2,b1,i1,bn]
   exact fin_z
def rInt3S:List AV→Option (Prop × AV)
 | [.int .i64 n]=>some (-9223372036854775808≤n∧n≤9223372036854775807,(.agg [.opq (.rfrac ((n:Rat))),.pad,.pad]))
 | _=>none
theorem rInt3S_ok (hP:PrgOk P) (args p r) (h:rInt3S args=some (p,r)) (hp:p):CSpec P 93 args r:=by
 unfold rInt3S at h
 split at h
 · simp only [Option.some.injEq,Prod.mk.injEq] at h
   obtain ⟨rfl,rfl⟩:=h
   exact rInt3_spec hP _ hp.1 hp.2
 · simp at h
attribute [go_sem] rAdd3S rMul3S rDiv3S rText3S rInt3S
noncomputable def Fr2:Nat→List AV→Option (Prop × AV):=addS (addS (addS (addS (addS Fr1 128 rAdd3S) 77 rMul3S) 64 rDiv3S) 96 rText3S) 93 rInt3S
theorem Fr2_ok (hP:PrgOk P):EnvOk P ⟨T0,Fr2⟩:=((((((Fr1_ok hP).add (rAdd3S_ok hP)).add (rMul3S_ok hP)).add (rDiv3S_ok hP)).add (rText3S_ok hP)).add (rInt3S_ok hP))
theorem Fr2_at (f a):Fr2 f a=(addS (addS (addS (addS (addS Fr1 128 rAdd3S) 77 rMul3S) 64 rDiv3S) 96 rText3S) 93 rInt3S) f a:=rfl
attribute [go_sem] Fr2_at
theorem rSub3_spec (hP:PrgOk P) (a b:Rat) (ha:fl a≤FB) (hb:fl b≤FB):CSpec P 76 [(.agg [.opq (.rfrac (a)),.pad,.pad]),(.agg [.opq (.rfrac (b)),.pad,.pad])] (.agg [.opq (.rfrac (qsub a b)),.pad,.pad]):=by
 have HE:=Fr2_ok hP
 have hn:fl (qneg b)≤FB:=fl_qneg hb
 have key:qsub a b=qadd a (qneg b):=by rw [qsub_eq,qadd_eq,qneg_eq,Rat.sub_eq_add_neg]
 rw [key]
 refine CSpec_go (E:=⟨T0,Fr2⟩) (fn76 hP) HE hP.mix ?_
 simp only [go_sem,ha,hb,hn]
 exact fin_z
noncomputable def rSub3S:List AV→Option (Prop × AV):=onQ2 fun a b=>(fl a≤FB∧fl b≤FB,(.agg [.opq (.rfrac (qsub a b)),.pad,.pad]))
theorem rSub3S_ok (hP:PrgOk P) (args p r):rSub3S args=some (p,r)→p→CSpec P 76 args r:=onQ2_ok (fun a b h=>by exact rSub3_spec hP a b h.1 h.2) args p r
attribute [go_sem] rSub3S
noncomputable def Fr3:Nat→List AV→Option (Prop × AV):=addS Fr2 76 rSub3S
theorem Fr3_ok (hP:PrgOk P):EnvOk P ⟨T0,Fr3⟩:=((Fr2_ok hP).add (rSub3S_ok hP))
theorem Fr3_at (f a):Fr3 f a=(addS Fr2 76 rSub3S) f a:=rfl
attribute [go_sem] Fr3_at
theorem rCmp3_spec (hP:PrgOk P) (a b:Rat) (ha:fl a≤FB) (hb:fl b≤FB):CSpec P 127 [(.agg [.opq (.rfrac (a)),.pad,.pad]),(.agg [.opq (.rfrac (b)),.pad,.pad])] (.int .i64 (cmpQ a b)):=by
 have HE:=Fr3_ok hP
 have key:cmpQ a b=cmpQ (qsub a b) 0:=by rw [qsub_eq,← cmpQ_sub,sgn_cmp]
 rw [key]
 refine CSpec_go (E:=⟨T0,Fr3⟩) (fn127 hP) HE hP.mix ?_
 simp only [go_sem,ha,hb]
 exact fin_z
noncomputable def rCmp3S:List AV→Option (Prop × AV):=onQ2 fun a b=>(fl a≤FB∧fl b≤FB,.int .i64 (cmpQ a b))
theorem rCmp3S_ok (hP:PrgOk P) (args p r):rCmp3S args=some (p,r)→p→CSpec P 127 args r:=onQ2_ok (fun a b h=>by exact rCmp3_spec hP a b h.1 h.2) args p r
attribute [go_sem] rCmp3S
noncomputable def Fr4:Nat→List AV→Option (Prop × AV):=addS Fr3 127 rCmp3S
theorem Fr4_ok (hP:PrgOk P):EnvOk P ⟨T0,Fr4⟩:=((Fr3_ok hP).add (rCmp3S_ok hP))
theorem Fr4_at (f a):Fr4 f a=(addS Fr3 127 rCmp3S) f a:=rfl
attribute [go_sem] Fr4_at
theorem parts_neg {l tt:List Nat} (h:l=45::tt):szL l=hdL 47 tt∧denL l=(if 47 ∈ tt then tlL 47 tt else [49])∧(47 ∈ l ↔ 47 ∈ tt)∧mnL l=true:=by
 subst h
 have e1:hdL 47 (45::tt)=45::hdL 47 tt:=rfl
 have e2:tlL 47 (45::tt)=tlL 47 tt:=rfl
 have e3:47 ∈ (45::tt) ↔ 47 ∈ tt:=by simp
 refine ⟨?_,?_,e3,?_⟩
 · unfold szL; rw [e1]; rfl
 · unfold denL; rw [e2]; simp only [e3]
 · unfold mnL; rw [e1]; rfl
theorem parts_pos {l:List Nat} (h:l.getD 0 0 ≠ 45):szL l=hdL 47 l∧mnL l=false:=by
 have e:(hdL 47 l).getD 0 0 ≠ 45:=by
  cases l with
  | nil=>exact h
  | cons c t =>
    unfold hdL
    split
    · decide
    · exact h
 exact ⟨by unfold szL; rw [if_neg e],decide_eq_false e⟩
theorem hd_step {tt:List Nat} {k:Nat} (h:k<tt.length):(tt.getD k 0=47→k+(hdL 47 (tt.drop k)).length=k)∧(tt.getD k 0 ≠ 47→k+(hdL 47 (tt.drop k)).length=k+1+(hdL 47 (tt.drop (k+1))).length):=by
 have e:tt.drop k=tt.getD k 0::tt.drop (k+1):=by
  rw [List.drop_eq_getElem_cons h,List.getD_eq_getElem?_getD,List.getElem?_eq_getElem h]; rfl
 have hc:∀ (x:Nat) (t:List Nat),hdL 47 (x::t)=if x=47 then [] else x::hdL 47 t:=fun _ _=>rfl
 rw [e,hc]
 constructor
 · intro h1; rw [if_pos h1]; rfl
 · intro h1; rw [if_neg h1,List.length_cons]; omega
theorem den_dec {l:List Nat} (h:okD l):(valL l<2)=(l=[48]∨l=[49]):=by
 rw [eq_iff_iff]
 constructor
 · intro h1
   have h2:=decL_val h
   have h4:valL l=0∨valL l=1:=by omega
   rcases h4 with h3|h3
   · rw [h3] at h2; exact .inl (h2.symm.trans rfl)
   · rw [h3] at h2
     have:decL 1=[49]:=by
      have:=decL_val (l:=[49]) ⟨by decide,by decide,by decide⟩
      rw [← this]; rfl
     exact .inr (h2.symm.trans this)
 · rintro (h1|h1)<;>rw [h1]<;>decide
theorem rParse3_spec (hP:PrgOk P) (s:ByteArray) (hs:(bl s).length≤140737488355328):CSpec P 38 [.str s] (.tup [(.agg [.opq (.rfrac ((parF (bl s)).1)),.pad,.pad]),.int .i64 (parF (bl s)).2]):=by
 have HE:=Fr4_ok hP
 have hg:=get_bl s 0
 have b8:bl ⟨#[48]⟩=[48]:=rfl
 have b9:bl ⟨#[49]⟩=[49]:=rfl
 have e0:((0:Int):Rat)=0:=rfl
 refine CSpec_go (E:=⟨T0,Fr4⟩) (fn38 hP) HE hP.mix ?_
 by_cases hm:(bl s).getD 0 0=45
 · have hm':((bl s).getD 0 0 == 45)=true:=by rw [hm]; rfl
   obtain ⟨tt,htt⟩:∃ tt,bl s=45::tt:=by
    cases hb:bl s with
    | nil=>rw [hb] at hm; simp at hm
    | cons c t=>rw [hb] at hm; exact ⟨t,by simp at hm; rw [hm]⟩
   have hl0:(0<(bl s).length)=True:=eq_true (by rw [htt]; simp)
   have hl1:((1:Int)≤((bl s).length:Int))=True:=eq_true (by rw [htt,List.length_cons]; omega)
   have hl1':((1:Nat)≤(bl s).length)=True:=eq_true (by rw [htt,List.length_cons]; omega)
   have ht:bl (s.extract 1 (bl s).length)=tt:=by rw [bl_extract,htt]; exact List.take_of_length_le (by simp)
   have htl:(bl (s.extract 1 (bl s).length)).length=tt.length:=by rw [ht]
   obtain ⟨p1,p2,p3,p4⟩:=parts_neg htt
   have hk:tt.length≤(bl s).length:=by rw [htt,List.length_cons]; omega
   have i1:(1:Int).toNat=1:=rfl
   simp only [go_sem,size_bl,hg,hl0,hm',hl1,hl1',htl,i1]
   refine ⟨by decide,?_⟩
   have hzz:¬ (mnL (bl s)=true∧szL (bl s)=[48])→decide (szL (bl s)=[48])=false:=fun h=>decide_eq_false fun e=>h ⟨p4,e⟩
   have cA:bl ((s.extract 1 (bl s).length).extract 0 (hdL 47 tt).length)=szL (bl s):=by
    have e:=bl_extract (s.extract 1 (bl s).length) 0 (hdL 47 tt).length
    rw [ht,List.drop_zero,Nat.sub_zero,take_hd] at e
    exact e.trans p1.symm
   have tle:=tl_le 47 tt
   have hle:=hd_le 47 tt
   have nle:=sz_le (bl s)
   have dle:=den_le (bl s)
   have cB:47 ∈ tt→bl ((s.extract 1 (bl s).length).extract ((hdL 47 tt).length+1) tt.length)=denL (bl s):=fun h=>by
    have e:=bl_extract (s.extract 1 (bl s).length) ((hdL 47 tt).length+1) tt.length
    rw [ht,drop_hd] at e
    refine (e.trans (List.take_of_length_le ?_)).trans (by rw [p2,if_pos h])
    have h2:=congrArg List.length (drop_hd 47 tt)
    rw [List.length_drop] at h2; omega
   have cN:47 ∉ tt→[49]=denL (bl s):=fun h=>by rw [p2,if_neg h]
   have hlen:tt.length≤140737488355328:=by omega
   have wl0:=wi_pred' tt.length (by omega)
   refine trX_loop HE hP.mix [0] (fun k:Nat=>⟨upd (upd (upd (upd (upd (upd (upd (fun _=>.junk) 0 (.str s)) 2 (.ref 0 0)) 3 (.int .i64 0)) 4 (.bool true)) 5 (.str (s.extract 1 (bl s).length))) 6 (.int .i64 ((k+(hdL 47 (tt.drop k)).length:Nat):Int))) 7 (.int .i64 ((k:Int)-1)),upd (fun _=>.unused) 0 (.live [.bool false,.nils,.nils]),102⟩)
    (fun k=>k≤tt.length) (fun k=>k) tt.length 20 Has.z (Kept.of rfl (by
      have hnil:hdL 47 (tt.drop tt.length)=[]:=by rw [List.drop_length]; rfl
      rw [wl0,hnil,List.length_nil,Nat.add_zero]
      exact KT.z) KM.z) (Nat.le_refl _) 102 (by kernel_rfl) ?_
   intro k hk0
   have hk0:k≤tt.length:=hk0
   rcases k with _|k
   · have h00:((0:Int)≤((0:Nat):Int)-1)=False:=eq_false (by decide)
     have h01:((0:Int)≤0-1)=False:=eq_false (by decide)
     have h02:((0:Int)≤-1)=False:=eq_false (by decide)
     by_cases hst:47 ∈ tt
     · have hlt:((hdL 47 tt).length<tt.length)=True:=by rw [hd_lt]; exact eq_true hst
       have hnl:(hdL 47 tt).length<tt.length:=by rw [hlt]; trivial
       have cD:=cB hst
       have hst':47 ∈ bl s:=p3.2 hst
       have hw3:=wi_add1 (hdL 47 tt).length (by omega)
       have hle2:((hdL 47 tt).length+1≤tt.length)=True:=eq_true hnl
       have hle3:(((hdL 47 tt).length+1:Nat):Int)≤(tt.length:Int):=by omega
       have hle4:((hdL 47 tt).length:Int)≤(tt.length:Int):=by omega
       have b9':=b9
       have l1:(szL (bl s)).length≤281474976710656:=by omega
       have l2:(denL (bl s)).length≤281474976710656:=by omega
       by_cases h1:okD (szL (bl s))
       · have h1':=decide_eq_true h1
         by_cases h2:okD (denL (bl s))
         · have h2':=decide_eq_true h2
           by_cases h3:mnL (bl s)=true∧szL (bl s)=[48]
           · rw [parF_1 (.inr (.inr h3))]
             have h4':=decide_eq_true h3.2
             first
              | exact absurd (p4.symm.trans h3.1) (by decide)
              | (simp only [go_sem,h00,h01,h02,htl,size_bl,hlt,hle,hle2,hle3,hle4,hw3,cA,cD,l1,l2,e0,str_eq,b8,b9',h1',h2',h4']
                 exact fin_z)
           · have hn:¬ (¬ okD (szL (bl s))∨¬ okD (denL (bl s))∨(mnL (bl s)=true∧szL (bl s)=[48])):=by
              rintro (h|h|h)
              · exact h h1
              · exact h h2
              · exact h3 h
             have hz:=hzz h3
             by_cases h5:256<(szL (bl s)).length
             · rw [parF_2 hn (.inl h5)]
               simp only [go_sem,h00,h01,h02,htl,size_bl,hlt,hle,hle2,hle3,hle4,hw3,cA,cD,l1,l2,e0,str_eq,b8,b9',h1',h2',hz,h5]
               exact fin_z
             · by_cases h6:256<(denL (bl s)).length
               · rw [parF_2 hn (.inr h6)]
                 simp only [go_sem,h00,h01,h02,htl,size_bl,hlt,hle,hle2,hle3,hle4,hw3,cA,cD,l1,l2,e0,str_eq,b8,b9',h1',h2',hz,h5,h6]
                 exact fin_z
               · have hl:¬ (256<(szL (bl s)).length∨256<(denL (bl s)).length):=by omega
                 by_cases h7:47 ∈ bl s∧valL (denL (bl s))<2
                 · rw [parF_3 hn hl ⟨h7.1,.inl h7.2⟩]
                   first
                    | exact absurd h7.1 hst'
                    | (have h8:=h7.2
                       rw [den_dec h2] at h8
                       rcases h8 with h8|h8
                       · have k1:=decide_eq_true h8
                         simp only [go_sem,h00,h01,h02,htl,size_bl,hlt,hle,hle2,hle3,hle4,hw3,cA,cD,l1,l2,e0,str_eq,b8,b9',h1',h2',hz,h5,h6,k1]
                         exact fin_z
                       · have k1:decide (denL (bl s)=[48])=false:=decide_eq_false fun e=>absurd (e.symm.trans h8) (by decide)
                         have k2:=decide_eq_true h8
                         simp only [go_sem,h00,h01,h02,htl,size_bl,hlt,hle,hle2,hle3,hle4,hw3,cA,cD,l1,l2,e0,str_eq,b8,b9',h1',h2',hz,h5,h6,k1,k2]
                         exact fin_z)
                 · have k12:47 ∈ bl s→decide (denL (bl s)=[48])=false∧decide (denL (bl s)=[49])=false:=fun hh=>by
                    have:=mt (fun e:denL (bl s)=[48]∨denL (bl s)=[49]=>(by rw [den_dec h2]; exact e:valL (denL (bl s))<2)) (fun e=>h7 ⟨hh,e⟩)
                    exact ⟨decide_eq_false fun e=>this (.inl e),decide_eq_false fun e=>this (.inr e)⟩
                   have h2le:47 ∈ bl s→2≤valL (denL (bl s)):=fun hh=>by have:¬ valL (denL (bl s))<2:=fun e=>h7 ⟨hh,e⟩; omega
                   have hpos:0<valL (denL (bl s)):=den_pos' h2le
                   have dsz:(∀ c ∈ szL (bl s),48≤c∧c≤57)=True:=eq_true h1.2.2
                   have dden:(∀ c ∈ denL (bl s),48≤c∧c≤57)=True:=eq_true h2.2.2
                   have l3:(szL (bl s)).length≤8589934592:=by omega
                   have l4:(denL (bl s)).length≤8589934592:=by omega
                   have v1':=valL_blen h1 (by omega)
                   have v2':=valL_blen h2 (by omega)
                   have v1:=Nat.le_trans v1' (show _≤34359738368 by decide)
                   have v2:=Nat.le_trans v2' (show _≤34359738368 by decide)
                   have flq:fl (qlow (sg true (valL (szL (bl s)))) (valL (denL (bl s))))≤FB:=by
                    rw [qlow_eq]
                    exact fl_mk (by unfold wl; rw [sg_abs]; exact Nat.le_trans v1' (by decide)) (Nat.le_trans v2' (by decide)) hpos
                   by_cases h9:47 ∈ bl s∧Nat.gcd (valL (szL (bl s))) (valL (denL (bl s))) ≠ 1
                   · rw [parF_3 hn hl ⟨h9.1,.inr h9.2⟩]
                     first
                      | exact absurd h9.1 hst'
                      | (have tx:=text_no h9.1 (h2le h9.1) h9.2
                         rw [p4] at tx
                         have tx':=decide_eq_false tx
                         obtain ⟨k1,k2⟩:=k12 h9.1
                         simp only [go_sem,h00,h01,h02,htl,size_bl,hlt,hle,hle2,hle3,hle4,hw3,cA,cD,l1,l2,e0,str_eq,b8,b9',h1',h2',hz,h5,h6,k1,k2,dsz,dden,l3,l4,v1,v2,hpos,flq,tx']
                         exact fin_z)
                   · rw [parF_4 hn hl (by
                      rintro ⟨x1,x2⟩
                      rcases x2 with x2|x2
                      · exact h7 ⟨x1,x2⟩
                      · exact h9 ⟨x1,x2⟩)]
                     have tx:=text_of h1 (fun e=>hn (.inr (.inr e))) h2 h2le (fun x1=>Decidable.byContradiction fun x2=>h9 ⟨x1,x2⟩)
                     rw [p4] at tx ⊢
                     have tx':=decide_eq_true tx
                     first
                      | (have hst2:47 ∈ bl s:=hst'
                         obtain ⟨k1,k2⟩:=k12 hst2
                         simp only [go_sem,h00,h01,h02,htl,size_bl,hlt,hle,hle2,hle3,hle4,hw3,cA,cD,l1,l2,e0,str_eq,b8,b9',h1',h2',hz,h5,h6,k1,k2,dsz,dden,l3,l4,v1,v2,hpos,flq,tx']
                         exact fin_z)
                      | (simp only [go_sem,h00,h01,h02,htl,size_bl,hlt,hle,hle2,hle3,hle4,hw3,cA,cD,l1,l2,e0,str_eq,b8,b9',h1',h2',hz,h5,h6,dsz,dden,l3,l4,v1,v2,hpos,flq,tx']
                         exact fin_z)
         · have h2':=decide_eq_false h2
           rw [parF_1 (.inr (.inl h2))]
           simp only [go_sem,h00,h01,h02,htl,size_bl,hlt,hle,hle2,hle3,hle4,hw3,cA,cD,l1,l2,e0,str_eq,b8,b9',h1',h2']
           exact fin_z
       · have h1':=decide_eq_false h1
         rw [parF_1 (.inl h1)]
         simp only [go_sem,h00,h01,h02,htl,size_bl,hlt,hle,hle2,hle3,hle4,hw3,cA,cD,l1,l2,e0,str_eq,b8,b9',h1']
         exact fin_z
     · have hlt:((hdL 47 tt).length<tt.length)=False:=by rw [hd_lt]; exact eq_false hst
       have cD:bl ⟨#[49]⟩=denL (bl s):=(show bl ⟨#[49]⟩=[49] from rfl).trans (cN hst)
       have hst':47 ∉ bl s:=fun h=>hst (p3.1 h)
       have hw3:True:=trivial
       have hle2:True:=trivial
       have hle3:True:=trivial
       have hle4:((hdL 47 tt).length:Int)≤(tt.length:Int):=by omega
       have b9':True:=trivial
       have l1:(szL (bl s)).length≤281474976710656:=by omega
       have l2:(denL (bl s)).length≤281474976710656:=by omega
       by_cases h1:okD (szL (bl s))
       · have h1':=decide_eq_true h1
         by_cases h2:okD (denL (bl s))
         · have h2':=decide_eq_true h2
           by_cases h3:mnL (bl s)=true∧szL (bl s)=[48]
           · rw [parF_1 (.inr (.inr h3))]
             have h4':=decide_eq_true h3.2
             first
              | exact absurd (p4.symm.trans h3.1) (by decide)
              | (simp only [go_sem,h00,h01,h02,htl,size_bl,hlt,hle,hle2,hle3,hle4,hw3,cA,cD,l1,l2,e0,str_eq,b8,b9',h1',h2',h4']
                 exact fin_z)
           · have hn:¬ (¬ okD (szL (bl s))∨¬ okD (denL (bl s))∨(mnL (bl s)=true∧szL (bl s)=[48])):=by
              rintro (h|h|h)
              · exact h h1
              · exact h h2
              · exact h3 h
             have hz:=hzz h3
             by_cases h5:256<(szL (bl s)).length
             · rw [parF_2 hn (.inl h5)]
               simp only [go_sem,h00,h01,h02,htl,size_bl,hlt,hle,hle2,hle3,hle4,hw3,cA,cD,l1,l2,e0,str_eq,b8,b9',h1',h2',hz,h5]
               exact fin_z
             · by_cases h6:256<(denL (bl s)).length
               · rw [parF_2 hn (.inr h6)]
                 simp only [go_sem,h00,h01,h02,htl,size_bl,hlt,hle,hle2,hle3,hle4,hw3,cA,cD,l1,l2,e0,str_eq,b8,b9',h1',h2',hz,h5,h6]
                 exact fin_z
               · have hl:¬ (256<(szL (bl s)).length∨256<(denL (bl s)).length):=by omega
                 by_cases h7:47 ∈ bl s∧valL (denL (bl s))<2
                 · rw [parF_3 hn hl ⟨h7.1,.inl h7.2⟩]
                   first
                    | exact absurd h7.1 hst'
                    | (have h8:=h7.2
                       rw [den_dec h2] at h8
                       rcases h8 with h8|h8
                       · have k1:=decide_eq_true h8
                         simp only [go_sem,h00,h01,h02,htl,size_bl,hlt,hle,hle2,hle3,hle4,hw3,cA,cD,l1,l2,e0,str_eq,b8,b9',h1',h2',hz,h5,h6,k1]
                         exact fin_z
                       · have k1:decide (denL (bl s)=[48])=false:=decide_eq_false fun e=>absurd (e.symm.trans h8) (by decide)
                         have k2:=decide_eq_true h8
                         simp only [go_sem,h00,h01,h02,htl,size_bl,hlt,hle,hle2,hle3,hle4,hw3,cA,cD,l1,l2,e0,str_eq,b8,b9',h1',h2',hz,h5,h6,k1,k2]
                         exact fin_z)
                 · have k12:47 ∈ bl s→decide (denL (bl s)=[48])=false∧decide (denL (bl s)=[49])=false:=fun hh=>by
                    have:=mt (fun e:denL (bl s)=[48]∨denL (bl s)=[49]=>(by rw [den_dec h2]; exact e:valL (denL (bl s))<2)) (fun e=>h7 ⟨hh,e⟩)
                    exact ⟨decide_eq_false fun e=>this (.inl e),decide_eq_false fun e=>this (.inr e)⟩
                   have h2le:47 ∈ bl s→2≤valL (denL (bl s)):=fun hh=>by have:¬ valL (denL (bl s))<2:=fun e=>h7 ⟨hh,e⟩; omega
                   have hpos:0<valL (denL (bl s)):=den_pos' h2le
                   have dsz:(∀ c ∈ szL (bl s),48≤c∧c≤57)=True:=eq_true h1.2.2
                   have dden:(∀ c ∈ denL (bl s),48≤c∧c≤57)=True:=eq_true h2.2.2
                   have l3:(szL (bl s)).length≤8589934592:=by omega
                   have l4:(denL (bl s)).length≤8589934592:=by omega
                   have v1':=valL_blen h1 (by omega)
                   have v2':=valL_blen h2 (by omega)
                   have v1:=Nat.le_trans v1' (show _≤34359738368 by decide)
                   have v2:=Nat.le_trans v2' (show _≤34359738368 by decide)
                   have flq:fl (qlow (sg true (valL (szL (bl s)))) (valL (denL (bl s))))≤FB:=by
                    rw [qlow_eq]
                    exact fl_mk (by unfold wl; rw [sg_abs]; exact Nat.le_trans v1' (by decide)) (Nat.le_trans v2' (by decide)) hpos
                   by_cases h9:47 ∈ bl s∧Nat.gcd (valL (szL (bl s))) (valL (denL (bl s))) ≠ 1
                   · rw [parF_3 hn hl ⟨h9.1,.inr h9.2⟩]
                     first
                      | exact absurd h9.1 hst'
                      | (have tx:=text_no h9.1 (h2le h9.1) h9.2
                         rw [p4] at tx
                         have tx':=decide_eq_false tx
                         obtain ⟨k1,k2⟩:=k12 h9.1
                         simp only [go_sem,h00,h01,h02,htl,size_bl,hlt,hle,hle2,hle3,hle4,hw3,cA,cD,l1,l2,e0,str_eq,b8,b9',h1',h2',hz,h5,h6,k1,k2,dsz,dden,l3,l4,v1,v2,hpos,flq,tx']
                         exact fin_z)
                   · rw [parF_4 hn hl (by
                      rintro ⟨x1,x2⟩
                      rcases x2 with x2|x2
                      · exact h7 ⟨x1,x2⟩
                      · exact h9 ⟨x1,x2⟩)]
                     have tx:=text_of h1 (fun e=>hn (.inr (.inr e))) h2 h2le (fun x1=>Decidable.byContradiction fun x2=>h9 ⟨x1,x2⟩)
                     rw [p4] at tx ⊢
                     have tx':=decide_eq_true tx
                     first
                      | (have hst2:47 ∈ bl s:=hst'
                         obtain ⟨k1,k2⟩:=k12 hst2
                         simp only [go_sem,h00,h01,h02,htl,size_bl,hlt,hle,hle2,hle3,hle4,hw3,cA,cD,l1,l2,e0,str_eq,b8,b9',h1',h2',hz,h5,h6,k1,k2,dsz,dden,l3,l4,v1,v2,hpos,flq,tx']
                         exact fin_z)
                      | (simp only [go_sem,h00,h01,h02,htl,size_bl,hlt,hle,hle2,hle3,hle4,hw3,cA,cD,l1,l2,e0,str_eq,b8,b9',h1',h2',hz,h5,h6,dsz,dden,l3,l4,v1,v2,hpos,flq,tx']
                         exact fin_z)
         · have h2':=decide_eq_false h2
           rw [parF_1 (.inr (.inl h2))]
           simp only [go_sem,h00,h01,h02,htl,size_bl,hlt,hle,hle2,hle3,hle4,hw3,cA,cD,l1,l2,e0,str_eq,b8,b9',h1',h2']
           exact fin_z
       · have h1':=decide_eq_false h1
         rw [parF_1 (.inl h1)]
         simp only [go_sem,h00,h01,h02,htl,size_bl,hlt,hle,hle2,hle3,hle4,hw3,cA,cD,l1,l2,e0,str_eq,b8,b9',h1']
         exact fin_z
   · have hkl:k<tt.length:=by omega
     have hw1:=wi_pred' k (by omega)
     have hw2:=wi_pred k (by omega)
     have e1:(((k+1:Nat):Int)-1)=(k:Int):=by omega
     have hgk:=get_bl (s.extract 1 (bl s).length) k
     rw [ht] at hgk
     obtain ⟨st1,st2⟩:=hd_step hkl
     by_cases h47:tt.getD k 0=47
     · have h47':(tt.getD k 0 == 47)=true:=by rw [h47]; rfl
       simp only [go_sem,e1,size_bl,htl,hkl,hgk,h47',hw1]
       refine ⟨k,Kept.of rfl (by rw [st1 h47]; exact KT.z) KM.z,by show k≤_; omega,Nat.lt_succ_self _⟩
     · have h47':(tt.getD k 0 == 47)=false:=beq_eq_false_iff_ne.2 h47
       simp only [go_sem,e1,size_bl,htl,hkl,hgk,h47',hw1]
       refine ⟨k,Kept.of rfl (by rw [st2 h47]; exact KT.z) KM.z,by show k≤_; omega,Nat.lt_succ_self _⟩
 · obtain ⟨p1,p4⟩:=parts_pos hm
   have p2:denL (bl s)=if 47 ∈ bl s then tlL 47 (bl s) else [49]:=rfl
   have p3:47 ∈ bl s ↔ 47 ∈ bl s:=Iff.rfl
   obtain ⟨tt,htt⟩:∃ tt,bl s=tt:=⟨_,rfl⟩
   have hm':((bl s).getD 0 0 == 45)=false:=by simpa using hm
   have ht:bl s=tt:=htt
   have htl:(bl s).length=tt.length:=by rw [htt]
   by_cases hl0:0<tt.length
   · simp only [go_sem,size_bl,hg,hl0,hm',htl]
     have hk:tt.length≤(bl s).length:=by rw [htt]; exact Nat.le_refl _
     have q1:szL (bl s)=hdL 47 tt:=by rw [← htt]; exact p1
     have q2:denL (bl s)=if 47 ∈ tt then tlL 47 tt else [49]:=by rw [← htt]; exact p2
     have q3:47 ∈ bl s ↔ 47 ∈ tt:=by rw [htt]
     have hzz:¬ (mnL (bl s)=true∧szL (bl s)=[48])→True:=fun _=>trivial
     have p1:=q1
     have p2:=q2
     have p3:=q3
     have cA:bl (s.extract 0 (hdL 47 tt).length)=szL (bl s):=by
      have e:=bl_extract s 0 (hdL 47 tt).length
      rw [ht,List.drop_zero,Nat.sub_zero,take_hd] at e
      exact e.trans p1.symm
     have tle:=tl_le 47 tt
     have hle:=hd_le 47 tt
     have nle:=sz_le (bl s)
     have dle:=den_le (bl s)
     have cB:47 ∈ tt→bl (s.extract ((hdL 47 tt).length+1) tt.length)=denL (bl s):=fun h=>by
      have e:=bl_extract s ((hdL 47 tt).length+1) tt.length
      rw [ht,drop_hd] at e
      refine (e.trans (List.take_of_length_le ?_)).trans (by rw [p2,if_pos h])
      have h2:=congrArg List.length (drop_hd 47 tt)
      rw [List.length_drop] at h2; omega
     have cN:47 ∉ tt→[49]=denL (bl s):=fun h=>by rw [p2,if_neg h]
     have hlen:tt.length≤140737488355328:=by omega
     have wl0:=wi_pred' tt.length (by omega)
     refine trX_loop HE hP.mix [0] (fun k:Nat=>⟨upd (upd (upd (upd (upd (upd (upd (fun _=>.junk) 0 (.str s)) 2 (.ref 0 0)) 3 (.int .i64 0)) 4 (.bool false)) 5 (.str s)) 6 (.int .i64 ((k+(hdL 47 (tt.drop k)).length:Nat):Int))) 7 (.int .i64 ((k:Int)-1)),upd (fun _=>.unused) 0 (.live [.bool false,.nils,.nils]),102⟩)
      (fun k=>k≤tt.length) (fun k=>k) tt.length 20 Has.z (Kept.of rfl (by
        have hnil:hdL 47 (tt.drop tt.length)=[]:=by rw [List.drop_length]; rfl
        rw [wl0,hnil,List.length_nil,Nat.add_zero]
        exact KT.z) KM.z) (Nat.le_refl _) 102 (by kernel_rfl) ?_
     intro k hk0
     have hk0:k≤tt.length:=hk0
     rcases k with _|k
     · have h00:((0:Int)≤((0:Nat):Int)-1)=False:=eq_false (by decide)
       have h01:((0:Int)≤0-1)=False:=eq_false (by decide)
       have h02:((0:Int)≤-1)=False:=eq_false (by decide)
       by_cases hst:47 ∈ tt
       · have hlt:((hdL 47 tt).length<tt.length)=True:=by rw [hd_lt]; exact eq_true hst
         have hnl:(hdL 47 tt).length<tt.length:=by rw [hlt]; trivial
         have cD:=cB hst
         have hst':47 ∈ bl s:=p3.2 hst
         have hw3:=wi_add1 (hdL 47 tt).length (by omega)
         have hle2:((hdL 47 tt).length+1≤tt.length)=True:=eq_true hnl
         have hle3:(((hdL 47 tt).length+1:Nat):Int)≤(tt.length:Int):=by omega
         have hle4:((hdL 47 tt).length:Int)≤(tt.length:Int):=by omega
         have b9':=b9
         have l1:(szL (bl s)).length≤281474976710656:=by omega
         have l2:(denL (bl s)).length≤281474976710656:=by omega
         by_cases h1:okD (szL (bl s))
         · have h1':=decide_eq_true h1
           by_cases h2:okD (denL (bl s))
           · have h2':=decide_eq_true h2
             by_cases h3:mnL (bl s)=true∧szL (bl s)=[48]
             · rw [parF_1 (.inr (.inr h3))]
               have h4':=decide_eq_true h3.2
               first
                | exact absurd (p4.symm.trans h3.1) (by decide)
                | (simp only [go_sem,h00,h01,h02,htl,size_bl,hlt,hle,hle2,hle3,hle4,hw3,cA,cD,l1,l2,e0,str_eq,b8,b9',h1',h2',h4']
                   exact fin_z)
             · have hn:¬ (¬ okD (szL (bl s))∨¬ okD (denL (bl s))∨(mnL (bl s)=true∧szL (bl s)=[48])):=by
                rintro (h|h|h)
                · exact h h1
                · exact h h2
                · exact h3 h
               have hz:=hzz h3
               by_cases h5:256<(szL (bl s)).length
               · rw [parF_2 hn (.inl h5)]
                 simp only [go_sem,h00,h01,h02,htl,size_bl,hlt,hle,hle2,hle3,hle4,hw3,cA,cD,l1,l2,e0,str_eq,b8,b9',h1',h2',hz,h5]
                 exact fin_z
               · by_cases h6:256<(denL (bl s)).length
                 · rw [parF_2 hn (.inr h6)]
                   simp only [go_sem,h00,h01,h02,htl,size_bl,hlt,hle,hle2,hle3,hle4,hw3,cA,cD,l1,l2,e0,str_eq,b8,b9',h1',h2',hz,h5,h6]
                   exact fin_z
                 · have hl:¬ (256<(szL (bl s)).length∨256<(denL (bl s)).length):=by omega
                   by_cases h7:47 ∈ bl s∧valL (denL (bl s))<2
                   · rw [parF_3 hn hl ⟨h7.1,.inl h7.2⟩]
                     first
                      | exact absurd h7.1 hst'
                      | (have h8:=h7.2
                         rw [den_dec h2] at h8
                         rcases h8 with h8|h8
                         · have k1:=decide_eq_true h8
                           simp only [go_sem,h00,h01,h02,htl,size_bl,hlt,hle,hle2,hle3,hle4,hw3,cA,cD,l1,l2,e0,str_eq,b8,b9',h1',h2',hz,h5,h6,k1]
                           exact fin_z
                         · have k1:decide (denL (bl s)=[48])=false:=decide_eq_false fun e=>absurd (e.symm.trans h8) (by decide)
                           have k2:=decide_eq_true h8
                           simp only [go_sem,h00,h01,h02,htl,size_bl,hlt,hle,hle2,hle3,hle4,hw3,cA,cD,l1,l2,e0,str_eq,b8,b9',h1',h2',hz,h5,h6,k1,k2]
                           exact fin_z)
                   · have k12:47 ∈ bl s→decide (denL (bl s)=[48])=false∧decide (denL (bl s)=[49])=false:=fun hh=>by
                      have:=mt (fun e:denL (bl s)=[48]∨denL (bl s)=[49]=>(by rw [den_dec h2]; exact e:valL (denL (bl s))<2)) (fun e=>h7 ⟨hh,e⟩)
                      exact ⟨decide_eq_false fun e=>this (.inl e),decide_eq_false fun e=>this (.inr e)⟩
                     have h2le:47 ∈ bl s→2≤valL (denL (bl s)):=fun hh=>by have:¬ valL (denL (bl s))<2:=fun e=>h7 ⟨hh,e⟩; omega
                     have hpos:0<valL (denL (bl s)):=den_pos' h2le
                     have dsz:(∀ c ∈ szL (bl s),48≤c∧c≤57)=True:=eq_true h1.2.2
                     have dden:(∀ c ∈ denL (bl s),48≤c∧c≤57)=True:=eq_true h2.2.2
                     have l3:(szL (bl s)).length≤8589934592:=by omega
                     have l4:(denL (bl s)).length≤8589934592:=by omega
                     have v1':=valL_blen h1 (by omega)
                     have v2':=valL_blen h2 (by omega)
                     have v1:=Nat.le_trans v1' (show _≤34359738368 by decide)
                     have v2:=Nat.le_trans v2' (show _≤34359738368 by decide)
                     have flq:fl (qlow (sg false (valL (szL (bl s)))) (valL (denL (bl s))))≤FB:=by
                      rw [qlow_eq]
                      exact fl_mk (by unfold wl; rw [sg_abs]; exact Nat.le_trans v1' (by decide)) (Nat.le_trans v2' (by decide)) hpos
                     by_cases h9:47 ∈ bl s∧Nat.gcd (valL (szL (bl s))) (valL (denL (bl s))) ≠ 1
                     · rw [parF_3 hn hl ⟨h9.1,.inr h9.2⟩]
                       first
                        | exact absurd h9.1 hst'
                        | (have tx:=text_no h9.1 (h2le h9.1) h9.2
                           rw [p4] at tx
                           have tx':=decide_eq_false tx
                           obtain ⟨k1,k2⟩:=k12 h9.1
                           simp only [go_sem,h00,h01,h02,htl,size_bl,hlt,hle,hle2,hle3,hle4,hw3,cA,cD,l1,l2,e0,str_eq,b8,b9',h1',h2',hz,h5,h6,k1,k2,dsz,dden,l3,l4,v1,v2,hpos,flq,tx']
                           exact fin_z)
                     · rw [parF_4 hn hl (by
                        rintro ⟨x1,x2⟩
                        rcases x2 with x2|x2
                        · exact h7 ⟨x1,x2⟩
                        · exact h9 ⟨x1,x2⟩)]
                       have tx:=text_of h1 (fun e=>hn (.inr (.inr e))) h2 h2le (fun x1=>Decidable.byContradiction fun x2=>h9 ⟨x1,x2⟩)
                       rw [p4] at tx ⊢
                       have tx':=decide_eq_true tx
                       first
                        | (have hst2:47 ∈ bl s:=hst'
                           obtain ⟨k1,k2⟩:=k12 hst2
                           simp only [go_sem,h00,h01,h02,htl,size_bl,hlt,hle,hle2,hle3,hle4,hw3,cA,cD,l1,l2,e0,str_eq,b8,b9',h1',h2',hz,h5,h6,k1,k2,dsz,dden,l3,l4,v1,v2,hpos,flq,tx']
                           exact fin_z)
                        | (simp only [go_sem,h00,h01,h02,htl,size_bl,hlt,hle,hle2,hle3,hle4,hw3,cA,cD,l1,l2,e0,str_eq,b8,b9',h1',h2',hz,h5,h6,dsz,dden,l3,l4,v1,v2,hpos,flq,tx']
                           exact fin_z)
           · have h2':=decide_eq_false h2
             rw [parF_1 (.inr (.inl h2))]
             simp only [go_sem,h00,h01,h02,htl,size_bl,hlt,hle,hle2,hle3,hle4,hw3,cA,cD,l1,l2,e0,str_eq,b8,b9',h1',h2']
             exact fin_z
         · have h1':=decide_eq_false h1
           rw [parF_1 (.inl h1)]
           simp only [go_sem,h00,h01,h02,htl,size_bl,hlt,hle,hle2,hle3,hle4,hw3,cA,cD,l1,l2,e0,str_eq,b8,b9',h1']
           exact fin_z
       · have hlt:((hdL 47 tt).length<tt.length)=False:=by rw [hd_lt]; exact eq_false hst
         have cD:bl ⟨#[49]⟩=denL (bl s):=(show bl ⟨#[49]⟩=[49] from rfl).trans (cN hst)
         have hst':47 ∉ bl s:=fun h=>hst (p3.1 h)
         have hw3:True:=trivial
         have hle2:True:=trivial
         have hle3:True:=trivial
         have hle4:((hdL 47 tt).length:Int)≤(tt.length:Int):=by omega
         have b9':True:=trivial
         have l1:(szL (bl s)).length≤281474976710656:=by omega
         have l2:(denL (bl s)).length≤281474976710656:=by omega
         by_cases h1:okD (szL (bl s))
         · have h1':=decide_eq_true h1
           by_cases h2:okD (denL (bl s))
           · have h2':=decide_eq_true h2
             by_cases h3:mnL (bl s)=true∧szL (bl s)=[48]
             · rw [parF_1 (.inr (.inr h3))]
               have h4':=decide_eq_true h3.2
               first
                | exact absurd (p4.symm.trans h3.1) (by decide)
                | (simp only [go_sem,h00,h01,h02,htl,size_bl,hlt,hle,hle2,hle3,hle4,hw3,cA,cD,l1,l2,e0,str_eq,b8,b9',h1',h2',h4']
                   exact fin_z)
             · have hn:¬ (¬ okD (szL (bl s))∨¬ okD (denL (bl s))∨(mnL (bl s)=true∧szL (bl s)=[48])):=by
                rintro (h|h|h)
                · exact h h1
                · exact h h2
                · exact h3 h
               have hz:=hzz h3
               by_cases h5:256<(szL (bl s)).length
               · rw [parF_2 hn (.inl h5)]
                 simp only [go_sem,h00,h01,h02,htl,size_bl,hlt,hle,hle2,hle3,hle4,hw3,cA,cD,l1,l2,e0,str_eq,b8,b9',h1',h2',hz,h5]
                 exact fin_z
               · by_cases h6:256<(denL (bl s)).length
                 · rw [parF_2 hn (.inr h6)]
                   simp only [go_sem,h00,h01,h02,htl,size_bl,hlt,hle,hle2,hle3,hle4,hw3,cA,cD,l1,l2,e0,str_eq,b8,b9',h1',h2',hz,h5,h6]
                   exact fin_z
                 · have hl:¬ (256<(szL (bl s)).length∨256<(denL (bl s)).length):=by omega
                   by_cases h7:47 ∈ bl s∧valL (denL (bl s))<2
                   · rw [parF_3 hn hl ⟨h7.1,.inl h7.2⟩]
                     first
                      | exact absurd h7.1 hst'
                      | (have h8:=h7.2
                         rw [den_dec h2] at h8
                         rcases h8 with h8|h8
                         · have k1:=decide_eq_true h8
                           simp only [go_sem,h00,h01,h02,htl,size_bl,hlt,hle,hle2,hle3,hle4,hw3,cA,cD,l1,l2,e0,str_eq,b8,b9',h1',h2',hz,h5,h6,k1]
                           exact fin_z
                         · have k1:decide (denL (bl s)=[48])=false:=decide_eq_false fun e=>absurd (e.symm.trans h8) (by decide)
                           have k2:=decide_eq_true h8
                           simp only [go_sem,h00,h01,h02,htl,size_bl,hlt,hle,hle2,hle3,hle4,hw3,cA,cD,l1,l2,e0,str_eq,b8,b9',h1',h2',hz,h5,h6,k1,k2]
                           exact fin_z)
                   · have k12:47 ∈ bl s→decide (denL (bl s)=[48])=false∧decide (denL (bl s)=[49])=false:=fun hh=>by
                      have:=mt (fun e:denL (bl s)=[48]∨denL (bl s)=[49]=>(by rw [den_dec h2]; exact e:valL (denL (bl s))<2)) (fun e=>h7 ⟨hh,e⟩)
                      exact ⟨decide_eq_false fun e=>this (.inl e),decide_eq_false fun e=>this (.inr e)⟩
                     have h2le:47 ∈ bl s→2≤valL (denL (bl s)):=fun hh=>by have:¬ valL (denL (bl s))<2:=fun e=>h7 ⟨hh,e⟩; omega
                     have hpos:0<valL (denL (bl s)):=den_pos' h2le
                     have dsz:(∀ c ∈ szL (bl s),48≤c∧c≤57)=True:=eq_true h1.2.2
                     have dden:(∀ c ∈ denL (bl s),48≤c∧c≤57)=True:=eq_true h2.2.2
                     have l3:(szL (bl s)).length≤8589934592:=by omega
                     have l4:(denL (bl s)).length≤8589934592:=by omega
                     have v1':=valL_blen h1 (by omega)
                     have v2':=valL_blen h2 (by omega)
                     have v1:=Nat.le_trans v1' (show _≤34359738368 by decide)
                     have v2:=Nat.le_trans v2' (show _≤34359738368 by decide)
                     have flq:fl (qlow (sg false (valL (szL (bl s)))) (valL (denL (bl s))))≤FB:=by
                      rw [qlow_eq]
                      exact fl_mk (by unfold wl; rw [sg_abs]; exact Nat.le_trans v1' (by decide)) (Nat.le_trans v2' (by decide)) hpos
                     by_cases h9:47 ∈ bl s∧Nat.gcd (valL (szL (bl s))) (valL (denL (bl s))) ≠ 1
                     · rw [parF_3 hn hl ⟨h9.1,.inr h9.2⟩]
                       first
                        | exact absurd h9.1 hst'
                        | (have tx:=text_no h9.1 (h2le h9.1) h9.2
                           rw [p4] at tx
                           have tx':=decide_eq_false tx
                           obtain ⟨k1,k2⟩:=k12 h9.1
                           simp only [go_sem,h00,h01,h02,htl,size_bl,hlt,hle,hle2,hle3,hle4,hw3,cA,cD,l1,l2,e0,str_eq,b8,b9',h1',h2',hz,h5,h6,k1,k2,dsz,dden,l3,l4,v1,v2,hpos,flq,tx']
                           exact fin_z)
                     · rw [parF_4 hn hl (by
                        rintro ⟨x1,x2⟩
                        rcases x2 with x2|x2
                        · exact h7 ⟨x1,x2⟩
                        · exact h9 ⟨x1,x2⟩)]
                       have tx:=text_of h1 (fun e=>hn (.inr (.inr e))) h2 h2le (fun x1=>Decidable.byContradiction fun x2=>h9 ⟨x1,x2⟩)
                       rw [p4] at tx ⊢
                       have tx':=decide_eq_true tx
                       first
                        | (have hst2:47 ∈ bl s:=hst'
                           obtain ⟨k1,k2⟩:=k12 hst2
                           simp only [go_sem,h00,h01,h02,htl,size_bl,hlt,hle,hle2,hle3,hle4,hw3,cA,cD,l1,l2,e0,str_eq,b8,b9',h1',h2',hz,h5,h6,k1,k2,dsz,dden,l3,l4,v1,v2,hpos,flq,tx']
                           exact fin_z)
                        | (simp only [go_sem,h00,h01,h02,htl,size_bl,hlt,hle,hle2,hle3,hle4,hw3,cA,cD,l1,l2,e0,str_eq,b8,b9',h1',h2',hz,h5,h6,dsz,dden,l3,l4,v1,v2,hpos,flq,tx']
                           exact fin_z)
           · have h2':=decide_eq_false h2
             rw [parF_1 (.inr (.inl h2))]
             simp only [go_sem,h00,h01,h02,htl,size_bl,hlt,hle,hle2,hle3,hle4,hw3,cA,cD,l1,l2,e0,str_eq,b8,b9',h1',h2']
             exact fin_z
         · have h1':=decide_eq_false h1
           rw [parF_1 (.inl h1)]
           simp only [go_sem,h00,h01,h02,htl,size_bl,hlt,hle,hle2,hle3,hle4,hw3,cA,cD,l1,l2,e0,str_eq,b8,b9',h1']
           exact fin_z
     · have hkl:k<tt.length:=by omega
       have hw1:=wi_pred' k (by omega)
       have hw2:=wi_pred k (by omega)
       have e1:(((k+1:Nat):Int)-1)=(k:Int):=by omega
       have hgk:=get_bl s k
       rw [ht] at hgk
       obtain ⟨st1,st2⟩:=hd_step hkl
       by_cases h47:tt.getD k 0=47
       · have h47':(tt.getD k 0 == 47)=true:=by rw [h47]; rfl
         simp only [go_sem,e1,size_bl,htl,hkl,hgk,h47',hw1]
         refine ⟨k,Kept.of rfl (by rw [st1 h47]; exact KT.z) KM.z,by show k≤_; omega,Nat.lt_succ_self _⟩
       · have h47':(tt.getD k 0 == 47)=false:=beq_eq_false_iff_ne.2 h47
         simp only [go_sem,e1,size_bl,htl,hkl,hgk,h47',hw1]
         refine ⟨k,Kept.of rfl (by rw [st2 h47]; exact KT.z) KM.z,by show k≤_; omega,Nat.lt_succ_self _⟩
   · simp only [go_sem,size_bl,hg,hl0,hm',htl]
     have hk:tt.length≤(bl s).length:=by rw [htt]; exact Nat.le_refl _
     have q1:szL (bl s)=hdL 47 tt:=by rw [← htt]; exact p1
     have q2:denL (bl s)=if 47 ∈ tt then tlL 47 tt else [49]:=by rw [← htt]; exact p2
     have q3:47 ∈ bl s ↔ 47 ∈ tt:=by rw [htt]
     have hzz:¬ (mnL (bl s)=true∧szL (bl s)=[48])→True:=fun _=>trivial
     have p1:=q1
     have p2:=q2
     have p3:=q3
     have cA:bl (s.extract 0 (hdL 47 tt).length)=szL (bl s):=by
      have e:=bl_extract s 0 (hdL 47 tt).length
      rw [ht,List.drop_zero,Nat.sub_zero,take_hd] at e
      exact e.trans p1.symm
     have tle:=tl_le 47 tt
     have hle:=hd_le 47 tt
     have nle:=sz_le (bl s)
     have dle:=den_le (bl s)
     have cB:47 ∈ tt→bl (s.extract ((hdL 47 tt).length+1) tt.length)=denL (bl s):=fun h=>by
      have e:=bl_extract s ((hdL 47 tt).length+1) tt.length
      rw [ht,drop_hd] at e
      refine (e.trans (List.take_of_length_le ?_)).trans (by rw [p2,if_pos h])
      have h2:=congrArg List.length (drop_hd 47 tt)
      rw [List.length_drop] at h2; omega
     have cN:47 ∉ tt→[49]=denL (bl s):=fun h=>by rw [p2,if_neg h]
     have hlen:tt.length≤140737488355328:=by omega
     have wl0:=wi_pred' tt.length (by omega)
     refine trX_loop HE hP.mix [0] (fun k:Nat=>⟨upd (upd (upd (upd (upd (upd (upd (fun _=>.junk) 0 (.str s)) 2 (.ref 0 0)) 3 (.int .i64 0)) 4 (.bool false)) 5 (.str s)) 6 (.int .i64 ((k+(hdL 47 (tt.drop k)).length:Nat):Int))) 7 (.int .i64 ((k:Int)-1)),upd (fun _=>.unused) 0 (.live [.bool false,.nils,.nils]),102⟩)
      (fun k=>k≤tt.length) (fun k=>k) tt.length 20 Has.z (Kept.of rfl (by
        have hnil:hdL 47 (tt.drop tt.length)=[]:=by rw [List.drop_length]; rfl
        rw [wl0,hnil,List.length_nil,Nat.add_zero]
        exact KT.z) KM.z) (Nat.le_refl _) 102 (by kernel_rfl) ?_
     intro k hk0
     have hk0:k≤tt.length:=hk0
     rcases k with _|k
     · have h00:((0:Int)≤((0:Nat):Int)-1)=False:=eq_false (by decide)
       have h01:((0:Int)≤0-1)=False:=eq_false (by decide)
       have h02:((0:Int)≤-1)=False:=eq_false (by decide)
       by_cases hst:47 ∈ tt
       · have hlt:((hdL 47 tt).length<tt.length)=True:=by rw [hd_lt]; exact eq_true hst
         have hnl:(hdL 47 tt).length<tt.length:=by rw [hlt]; trivial
         have cD:=cB hst
         have hst':47 ∈ bl s:=p3.2 hst
         have hw3:=wi_add1 (hdL 47 tt).length (by omega)
         have hle2:((hdL 47 tt).length+1≤tt.length)=True:=eq_true hnl
         have hle3:(((hdL 47 tt).length+1:Nat):Int)≤(tt.length:Int):=by omega
         have hle4:((hdL 47 tt).length:Int)≤(tt.length:Int):=by omega
         have b9':=b9
         have l1:(szL (bl s)).length≤281474976710656:=by omega
         have l2:(denL (bl s)).length≤281474976710656:=by omega
         by_cases h1:okD (szL (bl s))
         · have h1':=decide_eq_true h1
           by_cases h2:okD (denL (bl s))
           · have h2':=decide_eq_true h2
             by_cases h3:mnL (bl s)=true∧szL (bl s)=[48]
             · rw [parF_1 (.inr (.inr h3))]
               have h4':=decide_eq_true h3.2
               first
                | exact absurd (p4.symm.trans h3.1) (by decide)
                | (simp only [go_sem,h00,h01,h02,htl,size_bl,hlt,hle,hle2,hle3,hle4,hw3,cA,cD,l1,l2,e0,str_eq,b8,b9',h1',h2',h4']
                   exact fin_z)
             · have hn:¬ (¬ okD (szL (bl s))∨¬ okD (denL (bl s))∨(mnL (bl s)=true∧szL (bl s)=[48])):=by
                rintro (h|h|h)
                · exact h h1
                · exact h h2
                · exact h3 h
               have hz:=hzz h3
               by_cases h5:256<(szL (bl s)).length
               · rw [parF_2 hn (.inl h5)]
                 simp only [go_sem,h00,h01,h02,htl,size_bl,hlt,hle,hle2,hle3,hle4,hw3,cA,cD,l1,l2,e0,str_eq,b8,b9',h1',h2',hz,h5]
                 exact fin_z
               · by_cases h6:256<(denL (bl s)).length
                 · rw [parF_2 hn (.inr h6)]
                   simp only [go_sem,h00,h01,h02,htl,size_bl,hlt,hle,hle2,hle3,hle4,hw3,cA,cD,l1,l2,e0,str_eq,b8,b9',h1',h2',hz,h5,h6]
                   exact fin_z
                 · have hl:¬ (256<(szL (bl s)).length∨256<(denL (bl s)).length):=by omega
                   by_cases h7:47 ∈ bl s∧valL (denL (bl s))<2
                   · rw [parF_3 hn hl ⟨h7.1,.inl h7.2⟩]
                     first
                      | exact absurd h7.1 hst'
                      | (have h8:=h7.2
                         rw [den_dec h2] at h8
                         rcases h8 with h8|h8
                         · have k1:=decide_eq_true h8
                           simp only [go_sem,h00,h01,h02,htl,size_bl,hlt,hle,hle2,hle3,hle4,hw3,cA,cD,l1,l2,e0,str_eq,b8,b9',h1',h2',hz,h5,h6,k1]
                           exact fin_z
                         · have k1:decide (denL (bl s)=[48])=false:=decide_eq_false fun e=>absurd (e.symm.trans h8) (by decide)
                           have k2:=decide_eq_true h8
                           simp only [go_sem,h00,h01,h02,htl,size_bl,hlt,hle,hle2,hle3,hle4,hw3,cA,cD,l1,l2,e0,str_eq,b8,b9',h1',h2',hz,h5,h6,k1,k2]
                           exact fin_z)
                   · have k12:47 ∈ bl s→decide (denL (bl s)=[48])=false∧decide (denL (bl s)=[49])=false:=fun hh=>by
                      have:=mt (fun e:denL (bl s)=[48]∨denL (bl s)=[49]=>(by rw [den_dec h2]; exact e:valL (denL (bl s))<2)) (fun e=>h7 ⟨hh,e⟩)
                      exact ⟨decide_eq_false fun e=>this (.inl e),decide_eq_false fun e=>this (.inr e)⟩
                     have h2le:47 ∈ bl s→2≤valL (denL (bl s)):=fun hh=>by have:¬ valL (denL (bl s))<2:=fun e=>h7 ⟨hh,e⟩; omega
                     have hpos:0<valL (denL (bl s)):=den_pos' h2le
                     have dsz:(∀ c ∈ szL (bl s),48≤c∧c≤57)=True:=eq_true h1.2.2
                     have dden:(∀ c ∈ denL (bl s),48≤c∧c≤57)=True:=eq_true h2.2.2
                     have l3:(szL (bl s)).length≤8589934592:=by omega
                     have l4:(denL (bl s)).length≤8589934592:=by omega
                     have v1':=valL_blen h1 (by omega)
                     have v2':=valL_blen h2 (by omega)
                     have v1:=Nat.le_trans v1' (show _≤34359738368 by decide)
                     have v2:=Nat.le_trans v2' (show _≤34359738368 by decide)
                     have flq:fl (qlow (sg false (valL (szL (bl s)))) (valL (denL (bl s))))≤FB:=by
                      rw [qlow_eq]
                      exact fl_mk (by unfold wl; rw [sg_abs]; exact Nat.le_trans v1' (by decide)) (Nat.le_trans v2' (by decide)) hpos
                     by_cases h9:47 ∈ bl s∧Nat.gcd (valL (szL (bl s))) (valL (denL (bl s))) ≠ 1
                     · rw [parF_3 hn hl ⟨h9.1,.inr h9.2⟩]
                       first
                        | exact absurd h9.1 hst'
                        | (have tx:=text_no h9.1 (h2le h9.1) h9.2
                           rw [p4] at tx
                           have tx':=decide_eq_false tx
                           obtain ⟨k1,k2⟩:=k12 h9.1
                           simp only [go_sem,h00,h01,h02,htl,size_bl,hlt,hle,hle2,hle3,hle4,hw3,cA,cD,l1,l2,e0,str_eq,b8,b9',h1',h2',hz,h5,h6,k1,k2,dsz,dden,l3,l4,v1,v2,hpos,flq,tx']
                           exact fin_z)
                     · rw [parF_4 hn hl (by
                        rintro ⟨x1,x2⟩
                        rcases x2 with x2|x2
                        · exact h7 ⟨x1,x2⟩
                        · exact h9 ⟨x1,x2⟩)]
                       have tx:=text_of h1 (fun e=>hn (.inr (.inr e))) h2 h2le (fun x1=>Decidable.byContradiction fun x2=>h9 ⟨x1,x2⟩)
                       rw [p4] at tx ⊢
                       have tx':=decide_eq_true tx
                       first
                        | (have hst2:47 ∈ bl s:=hst'
                           obtain ⟨k1,k2⟩:=k12 hst2
                           simp only [go_sem,h00,h01,h02,htl,size_bl,hlt,hle,hle2,hle3,hle4,hw3,cA,cD,l1,l2,e0,str_eq,b8,b9',h1',h2',hz,h5,h6,k1,k2,dsz,dden,l3,l4,v1,v2,hpos,flq,tx']
                           exact fin_z)
                        | (simp only [go_sem,h00,h01,h02,htl,size_bl,hlt,hle,hle2,hle3,hle4,hw3,cA,cD,l1,l2,e0,str_eq,b8,b9',h1',h2',hz,h5,h6,dsz,dden,l3,l4,v1,v2,hpos,flq,tx']
                           exact fin_z)
           · have h2':=decide_eq_false h2
             rw [parF_1 (.inr (.inl h2))]
             simp only [go_sem,h00,h01,h02,htl,size_bl,hlt,hle,hle2,hle3,hle4,hw3,cA,cD,l1,l2,e0,str_eq,b8,b9',h1',h2']
             exact fin_z
         · have h1':=decide_eq_false h1
           rw [parF_1 (.inl h1)]
           simp only [go_sem,h00,h01,h02,htl,size_bl,hlt,hle,hle2,hle3,hle4,hw3,cA,cD,l1,l2,e0,str_eq,b8,b9',h1']
           exact fin_z
       · have hlt:((hdL 47 tt).length<tt.length)=False:=by rw [hd_lt]; exact eq_false hst
         have cD:bl ⟨#[49]⟩=denL (bl s):=(show bl ⟨#[49]⟩=[49] from rfl).trans (cN hst)
         have hst':47 ∉ bl s:=fun h=>hst (p3.1 h)
         have hw3:True:=trivial
         have hle2:True:=trivial
         have hle3:True:=trivial
         have hle4:((hdL 47 tt).length:Int)≤(tt.length:Int):=by omega
         have b9':True:=trivial
         have l1:(szL (bl s)).length≤281474976710656:=by omega
         have l2:(denL (bl s)).length≤281474976710656:=by omega
         by_cases h1:okD (szL (bl s))
         · have h1':=decide_eq_true h1
           by_cases h2:okD (denL (bl s))
           · have h2':=decide_eq_true h2
             by_cases h3:mnL (bl s)=true∧szL (bl s)=[48]
             · rw [parF_1 (.inr (.inr h3))]
               have h4':=decide_eq_true h3.2
               first
                | exact absurd (p4.symm.trans h3.1) (by decide)
                | (simp only [go_sem,h00,h01,h02,htl,size_bl,hlt,hle,hle2,hle3,hle4,hw3,cA,cD,l1,l2,e0,str_eq,b8,b9',h1',h2',h4']
                   exact fin_z)
             · have hn:¬ (¬ okD (szL (bl s))∨¬ okD (denL (bl s))∨(mnL (bl s)=true∧szL (bl s)=[48])):=by
                rintro (h|h|h)
                · exact h h1
                · exact h h2
                · exact h3 h
               have hz:=hzz h3
               by_cases h5:256<(szL (bl s)).length
               · rw [parF_2 hn (.inl h5)]
                 simp only [go_sem,h00,h01,h02,htl,size_bl,hlt,hle,hle2,hle3,hle4,hw3,cA,cD,l1,l2,e0,str_eq,b8,b9',h1',h2',hz,h5]
                 exact fin_z
               · by_cases h6:256<(denL (bl s)).length
                 · rw [parF_2 hn (.inr h6)]
                   simp only [go_sem,h00,h01,h02,htl,size_bl,hlt,hle,hle2,hle3,hle4,hw3,cA,cD,l1,l2,e0,str_eq,b8,b9',h1',h2',hz,h5,h6]
                   exact fin_z
                 · have hl:¬ (256<(szL (bl s)).length∨256<(denL (bl s)).length):=by omega
                   by_cases h7:47 ∈ bl s∧valL (denL (bl s))<2
                   · rw [parF_3 hn hl ⟨h7.1,.inl h7.2⟩]
                     first
                      | exact absurd h7.1 hst'
                      | (have h8:=h7.2
                         rw [den_dec h2] at h8
                         rcases h8 with h8|h8
                         · have k1:=decide_eq_true h8
                           simp only [go_sem,h00,h01,h02,htl,size_bl,hlt,hle,hle2,hle3,hle4,hw3,cA,cD,l1,l2,e0,str_eq,b8,b9',h1',h2',hz,h5,h6,k1]
                           exact fin_z
                         · have k1:decide (denL (bl s)=[48])=false:=decide_eq_false fun e=>absurd (e.symm.trans h8) (by decide)
                           have k2:=decide_eq_true h8
                           simp only [go_sem,h00,h01,h02,htl,size_bl,hlt,hle,hle2,hle3,hle4,hw3,cA,cD,l1,l2,e0,str_eq,b8,b9',h1',h2',hz,h5,h6,k1,k2]
                           exact fin_z)
                   · have k12:47 ∈ bl s→decide (denL (bl s)=[48])=false∧decide (denL (bl s)=[49])=false:=fun hh=>by
                      have:=mt (fun e:denL (bl s)=[48]∨denL (bl s)=[49]=>(by rw [den_dec h2]; exact e:valL (denL (bl s))<2)) (fun e=>h7 ⟨hh,e⟩)
                      exact ⟨decide_eq_false fun e=>this (.inl e),decide_eq_false fun e=>this (.inr e)⟩
                     have h2le:47 ∈ bl s→2≤valL (denL (bl s)):=fun hh=>by have:¬ valL (denL (bl s))<2:=fun e=>h7 ⟨hh,e⟩; omega
                     have hpos:0<valL (denL (bl s)):=den_pos' h2le
                     have dsz:(∀ c ∈ szL (bl s),48≤c∧c≤57)=True:=eq_true h1.2.2
                     have dden:(∀ c ∈ denL (bl s),48≤c∧c≤57)=True:=eq_true h2.2.2
                     have l3:(szL (bl s)).length≤8589934592:=by omega
                     have l4:(denL (bl s)).length≤8589934592:=by omega
                     have v1':=valL_blen h1 (by omega)
                     have v2':=valL_blen h2 (by omega)
                     have v1:=Nat.le_trans v1' (show _≤34359738368 by decide)
                     have v2:=Nat.le_trans v2' (show _≤34359738368 by decide)
                     have flq:fl (qlow (sg false (valL (szL (bl s)))) (valL (denL (bl s))))≤FB:=by
                      rw [qlow_eq]
                      exact fl_mk (by unfold wl; rw [sg_abs]; exact Nat.le_trans v1' (by decide)) (Nat.le_trans v2' (by decide)) hpos
                     by_cases h9:47 ∈ bl s∧Nat.gcd (valL (szL (bl s))) (valL (denL (bl s))) ≠ 1
                     · rw [parF_3 hn hl ⟨h9.1,.inr h9.2⟩]
                       first
                        | exact absurd h9.1 hst'
                        | (have tx:=text_no h9.1 (h2le h9.1) h9.2
                           rw [p4] at tx
                           have tx':=decide_eq_false tx
                           obtain ⟨k1,k2⟩:=k12 h9.1
                           simp only [go_sem,h00,h01,h02,htl,size_bl,hlt,hle,hle2,hle3,hle4,hw3,cA,cD,l1,l2,e0,str_eq,b8,b9',h1',h2',hz,h5,h6,k1,k2,dsz,dden,l3,l4,v1,v2,hpos,flq,tx']
                           exact fin_z)
                     · rw [parF_4 hn hl (by
                        rintro ⟨x1,x2⟩
                        rcases x2 with x2|x2
                        · exact h7 ⟨x1,x2⟩
                        · exact h9 ⟨x1,x2⟩)]
                       have tx:=text_of h1 (fun e=>hn (.inr (.inr e))) h2 h2le (fun x1=>Decidable.byContradiction fun x2=>h9 ⟨x1,x2⟩)
                       rw [p4] at tx ⊢
                       have tx':=decide_eq_true tx
                       first
                        | (have hst2:47 ∈ bl s:=hst'
                           obtain ⟨k1,k2⟩:=k12 hst2
                           simp only [go_sem,h00,h01,h02,htl,size_bl,hlt,hle,hle2,hle3,hle4,hw3,cA,cD,l1,l2,e0,str_eq,b8,b9',h1',h2',hz,h5,h6,k1,k2,dsz,dden,l3,l4,v1,v2,hpos,flq,tx']
                           exact fin_z)
                        | (simp only [go_sem,h00,h01,h02,htl,size_bl,hlt,hle,hle2,hle3,hle4,hw3,cA,cD,l1,l2,e0,str_eq,b8,b9',h1',h2',hz,h5,h6,dsz,dden,l3,l4,v1,v2,hpos,flq,tx']
                           exact fin_z)
           · have h2':=decide_eq_false h2
             rw [parF_1 (.inr (.inl h2))]
             simp only [go_sem,h00,h01,h02,htl,size_bl,hlt,hle,hle2,hle3,hle4,hw3,cA,cD,l1,l2,e0,str_eq,b8,b9',h1',h2']
             exact fin_z
         · have h1':=decide_eq_false h1
           rw [parF_1 (.inl h1)]
           simp only [go_sem,h00,h01,h02,htl,size_bl,hlt,hle,hle2,hle3,hle4,hw3,cA,cD,l1,l2,e0,str_eq,b8,b9',h1']
           exact fin_z
     · have hkl:k<tt.length:=by omega
       have hw1:=wi_pred' k (by omega)
       have hw2:=wi_pred k (by omega)
       have e1:(((k+1:Nat):Int)-1)=(k:Int):=by omega
       have hgk:=get_bl s k
       rw [ht] at hgk
       obtain ⟨st1,st2⟩:=hd_step hkl
       by_cases h47:tt.getD k 0=47
       · have h47':(tt.getD k 0 == 47)=true:=by rw [h47]; rfl
         simp only [go_sem,e1,size_bl,htl,hkl,hgk,h47',hw1]
         refine ⟨k,Kept.of rfl (by rw [st1 h47]; exact KT.z) KM.z,by show k≤_; omega,Nat.lt_succ_self _⟩
       · have h47':(tt.getD k 0 == 47)=false:=beq_eq_false_iff_ne.2 h47
         simp only [go_sem,e1,size_bl,htl,hkl,hgk,h47',hw1]
         refine ⟨k,Kept.of rfl (by rw [st2 h47]; exact KT.z) KM.z,by show k≤_; omega,Nat.lt_succ_self _⟩
noncomputable def rParse3S:List AV→Option (Prop × AV)
 | [.str s]=>some ((bl s).length≤140737488355328,.tup [(.agg [.opq (.rfrac ((parF (bl s)).1)),.pad,.pad]),.int .i64 (parF (bl s)).2])
 | _=>none
theorem rParse3S_ok (hP:PrgOk P) (args p r) (h:rParse3S args=some (p,r)) (hp:p):CSpec P 38 args r:=by
 unfold rParse3S at h
 split at h
 · simp only [Option.some.injEq,Prod.mk.injEq] at h
   obtain ⟨rfl,rfl⟩:=h
   exact rParse3_spec hP _ hp
 · simp at h
attribute [go_sem] rParse3S
theorem lit_text {q:Rat} {s:ByteArray} (l:List Nat) (hb:bl s=l) (h1:okD (szL l)) (h2:¬ (mnL l=true∧szL l=[48])) (h3:okD (denL l)) (h4:47 ∈ l→2≤valL (denL l)) (h5:47 ∈ l→Nat.gcd (valL (szL l)) (valL (denL l))=1) (hq:q=mkRat (sg (mnL l) (valL (szL l))) (valL (denL l))):((qtS q).toList == s.toList)=true:=by
 rw [str_eq]
 refine decide_eq_true ?_
 rw [hq,← qlow_eq,text_of h1 h2 h3 h4 h5,hb]
noncomputable def Jt0:Nat→List AV→Option (Prop × AV):=addS (addS (addS (addS (addS (addS (addS (addS (addS (addS (addS (addS Lt5 141 rOneS) 101 rNegS) 89 rSignS) 140 rWholeS) 128 rAdd3S) 77 rMul3S) 64 rDiv3S) 96 rText3S) 93 rInt3S) 76 rSub3S) 127 rCmp3S) 38 rParse3S
theorem Jt0_all (hP:PrgOk P) (T) (hT:TyOk P T):EnvOk P ⟨T,Jt0⟩:=(((((((((((((Lt5_all hP T hT).add (rOneS_ok hP)).add (rNegS_ok hP)).add (rSignS_ok hP)).add (rWholeS_ok hP)).add (rAdd3S_ok hP)).add (rMul3S_ok hP)).add (rDiv3S_ok hP)).add (rText3S_ok hP)).add (rInt3S_ok hP)).add (rSub3S_ok hP)).add (rCmp3S_ok hP)).add (rParse3S_ok hP))
theorem Jt0_at (f a):Jt0 f a=(addS (addS (addS (addS (addS (addS (addS (addS (addS (addS (addS (addS Lt5 141 rOneS) 101 rNegS) 89 rSignS) 140 rWholeS) 128 rAdd3S) 77 rMul3S) 64 rDiv3S) 96 rText3S) 93 rInt3S) 76 rSub3S) 127 rCmp3S) 38 rParse3S) f a:=rfl
attribute [go_sem] Jt0_at
end Go.Proofs.YtmahhmdeocnlgaaGreatDoor.AM
/- Loops,a round at a time. -/
namespace Go.Proofs.YtmahhmdeocnlgaaGreatDoor.AM
set_option linter.all false
set_option autoImplicit true
set_option relaxedAutoImplicit true
open Go Go.Proofs
set_option maxRecDepth 100000
section
variable {P:Program} {E:Env} {s s':St} {Q Q':Exit→Nat→St→Prop} {nx:Nat} {c:Code}
def LW (P:Program) (b0:Bool) (c:Code) (Q:Exit→Act→World→Prop) (a:Act) (w:World):Prop :=
 ∀ (b:Frame) (k:List Item) (cs:List Frame),
   ∃ e a' w',Q e a' w'∧Arrives P (lone (b.at a ((if b0 then .code (.loop c) else .inLoop c)::k)) cs w) b k cs e a' w'
theorem LW_step {b0:Bool} (b:Frame) (k:List Item) (cs:List Frame) (a:Act) (w:World):step P (lone (b.at a ((if b0 then .code (.loop c) else .inLoop c)::k)) cs w) = .next (lone (b.at a (.code c :: .inLoop c::k)) cs w):=by
 cases b0
 · exact step_inLoop
 · exact step_loop
theorem LW_true {Q:Exit→Act→World→Prop} {a w} (h:LW P true c Q a w):(Code.loop c).wp P Q a w:=fun b k cs=>h b k cs
theorem LW_mono {b0:Bool} {Q Q':Exit→Act→World→Prop} {a w} (h:LW P b0 c Q a w) (hq:∀ e a w,Q e a w→Q' e a w):LW P b0 c Q' a w :=
 fun b k cs=>let ⟨e,a',w',q,r⟩:=h b k cs; ⟨e,a',w',hq _ _ _ q,r⟩
theorem LW_pass {Q:Exit→Act→World→Prop} {e:Exit} {a1:Act} {w1:World} {m:Machine} {b:Frame} {k:List Item} {cs:List Frame} (hq:Q e a1 w1) (hne:e ≠ .normal) (harr:Arrives P m b (.inLoop c::k) cs e a1 w1):∃ e a' w',Q e a' w'∧Arrives P m b k cs e a' w' :=
 ⟨e,a1,w1,hq,.pass (x:=.inLoop c) rfl (fun _ _=>.inl hne) harr⟩
theorem LW_once {b0:Bool} {Q:Exit→Act→World→Prop} {a w} (h:c.wp P (Exit.then (LW P false c Q) Q) a w):LW P b0 c Q a w:=fun b k cs=>by
 obtain ⟨e,a1,w1,hq,harr⟩:=h b (.inLoop c::k) cs
 have go:∃ e a' w',Q e a' w'∧Arrives P (lone (b.at a (.code c :: .inLoop c::k)) cs w) b k cs e a' w':=by
  cases e with
  | normal =>
    obtain ⟨e2,a2,w2,hq2,harr2⟩:=hq b k cs
    exact ⟨e2,a2,w2,hq2,.of_steps harr harr2⟩
  | _=>exact LW_pass hq (by simp) harr
 obtain ⟨e,a',w',hq,harr⟩:=go
 exact ⟨e,a',w',hq,.of_steps (.one (LW_step b k cs a w)) harr⟩
def TriW (P:Program) (b0:Bool) (c:Code) (Q:Exit→Nat→St→Prop) (s:St):Prop :=
 ∀ X φ a w,Rel X φ s a w→LW P b0 c (fun e a' w'=>∃ nx s' φ',Q e nx s'∧Rel X φ' s' a' w'∧Stp X φ s.m w φ' s'.m w') a w
theorem TriW_true (h:TriW P true c Q s):Tri P (.loop c) Q s:=fun X φ a w R=>LW_true (h X φ a w R)
def onceQ (P:Program) (c:Code) (Q:Exit→Nat→St→Prop):Exit→Nat→St→Prop
 | .normal,_,s=>TriW P false c Q s
 | e,nx,s=>Q e nx s
theorem TriW_once {b0:Bool} (h:Tri P c (onceQ P c Q) s):TriW P b0 c Q s:=fun X φ a w R=>by
 refine LW_once (wp_mono (h X φ a w R) ?_)
 rintro e a1 w1 ⟨nx,s1,φ1,q,r1,st1⟩
 cases e with
 | normal =>
   refine LW_mono (q X φ1 a1 w1 r1) ?_
   rintro e a2 w2 ⟨nx,s2,φ2,q2,r2,st2⟩
   exact ⟨nx,s2,φ2,q2,r2,st1.trans st2⟩
 | _=>exact ⟨nx,s1,φ1,q,r1,st1⟩
def goX (P:Program) (c:Code) (s:St) [Q:Bx (Exit→Nat→St→Prop)]:Prop:=TriW P false c Q.v s
theorem q_once_normal:qX .normal nx s (Q:=⟨onceQ P c Q⟩)=goX P c s (Q:=⟨Q⟩):=rfl
theorem q_once_exit (i):qX (.exit i) nx s (Q:=⟨onceQ P c Q⟩)=qX (.exit i) nx s (Q:=⟨Q⟩):=rfl
theorem q_once_ret:qX .ret nx s (Q:=⟨onceQ P c Q⟩)=qX .ret nx s (Q:=⟨Q⟩):=rfl
theorem trX_once (HE:EnvOk P E) (hmix:P.follows .mixedOrders=true) (N:Nat) (nx0:Nat) (hN:regsOk N c=true) (h:vcX (Tri P) (ICall P) E N c nx0 s (Q:=⟨onceQ P c Q⟩)):trX (Tri P) (.loop c) s (Q:=⟨Q⟩) :=
 TriW_true (TriW_once (vc_sound HE hmix N c _ nx0 _ hN h))
theorem goX_once (HE:EnvOk P E) (hmix:P.follows .mixedOrders=true) (N:Nat) (nx0:Nat) (hN:regsOk N c=true) (h:vcX (Tri P) (ICall P) E N c nx0 s (Q:=⟨onceQ P c Q⟩)):goX P c s (Q:=⟨Q⟩) :=
 TriW_once (vc_sound HE hmix N c _ nx0 _ hN h)
end
attribute [go_sem] q_once_normal q_once_exit q_once_ret
abbrev V3:=Rat × Rat × Rat
def pick (p:Nat) (a:V3):Rat:=if p=0 then a.1 else if p=1 then a.2.1 else a.2.2
def vsc (k:Rat) (a:V3):V3:=(k*a.1,k*a.2.1,k*a.2.2)
def vad (a b:V3):V3:=(a.1+b.1,a.2.1+b.2.1,a.2.2+b.2.2)
def vsb (a b:V3):V3:=(a.1-b.1,a.2.1-b.2.1,a.2.2-b.2.2)
def vcr (a b:V3):V3:=(a.2.1*b.2.2-a.2.2*b.2.1,a.2.2*b.1-a.1*b.2.2,a.1*b.2.1-a.2.1*b.1)
def vdt (a b:V3):Rat:=a.1*b.1+a.2.1*b.2.1+a.2.2*b.2.2
def v0:V3:=(0,0,0)
theorem v3_ext {a b:V3} (h1:a.1=b.1) (h2:a.2.1=b.2.1) (h3:a.2.2=b.2.2):a=b:=Prod.ext h1 (Prod.ext h2 h3)
theorem v0_iff (a:V3):a=v0 ↔ a.1=0∧a.2.1=0∧a.2.2=0:=⟨fun h=>by rw [h]; exact ⟨rfl,rfl,rfl⟩,fun h=>v3_ext h.1 h.2.1 h.2.2⟩
theorem zero_of_mul {a b:Rat} (ha:a ≠ 0) (h:a*b=0):b=0:=by
 rcases Rat.mul_eq_zero.1 h with h|h
 · exact absurd h ha
 · exact h
theorem sc_sc (k l:Rat) (a:V3):vsc k (vsc l a)=vsc (k*l) a:=by
 unfold vsc; refine v3_ext ?_ ?_ ?_<;>(simp only []; grind)
end Go.Proofs.YtmahhmdeocnlgaaGreatDoor.AM
/- Package vec: number by number. -/
namespace Go.Proofs.YtmahhmdeocnlgaaGreatDoor.AM
set_option linter.all false
set_option autoImplicit true
set_option relaxedAutoImplicit true
open Go Go.Proofs
set_option maxRecDepth 100000
set_option maxHeartbeats 8000000
set_option linter.unusedSimpArgs false
variable {P:Program}
def cells3:List AV→Option V3
 | [.opq (.frac (x)),.pad,.pad,.pad,.pad,.opq (.frac (y)),.pad,.pad,.pad,.pad,.opq (.frac (z)),.pad,.pad,.pad,.pad]=>some (x,y,z)
 | _=>none
theorem cells3_eq (x y z):cells3 [.opq (.frac (x)),.pad,.pad,.pad,.pad,.opq (.frac (y)),.pad,.pad,.pad,.pad,.opq (.frac (z)),.pad,.pad,.pad,.pad]=some (x,y,z):=rfl
theorem cells3_inv {A:List AV} {a:V3} (h:cells3 A=some a):A=[.opq (.frac (a.1)),.pad,.pad,.pad,.pad,.opq (.frac (a.2.1)),.pad,.pad,.pad,.pad,.opq (.frac (a.2.2)),.pad,.pad,.pad,.pad]:=by
 unfold cells3 at h
 split at h
 · simp only [Option.some.injEq] at h; subst h; rfl
 · simp at h
def rawV:AV→Option V3
 | .agg A=>cells3 A
 | _=>none
theorem rawV_eq (A):rawV (.agg A)=cells3 A:=rfl
theorem rawV_inv {v:AV} {a:V3} (h:rawV v=some a):v=(.agg [.opq (.frac (a.1)),.pad,.pad,.pad,.pad,.opq (.frac (a.2.1)),.pad,.pad,.pad,.pad,.opq (.frac (a.2.2)),.pad,.pad,.pad,.pad]):=by
 unfold rawV at h
 split at h
 · rw [cells3_inv h]
 · simp at h
def fV (a:V3) (n:Nat):Prop:=fl a.1≤n∧fl a.2.1≤n∧fl a.2.2≤n
theorem fV_eq (x y z n):fV (x,y,z) n=(fl x≤n∧fl y≤n∧fl z≤n):=rfl
noncomputable def onV1 (f:V3→Prop × AV):List AV→Option (Prop × AV)
 | [x]=>(rawV x).map f
 | _=>none
noncomputable def onV2 (f:V3→V3→Prop × AV):List AV→Option (Prop × AV)
 | [x,y]=>(rawV x).bind fun a=>(rawV y).map fun b=>f a b
 | _=>none
theorem onV1_eq (f x):onV1 f [x]=(rawV x).map f:=rfl
theorem onV2_eq (f x y):onV2 f [x,y]=(rawV x).bind fun a=>(rawV y).map fun b=>f a b:=rfl
theorem onV1_ok {fi:Nat} {f:V3→Prop × AV} (h:∀ a,(f a).1→CSpec P fi [(.agg [.opq (.frac (a.1)),.pad,.pad,.pad,.pad,.opq (.frac (a.2.1)),.pad,.pad,.pad,.pad,.opq (.frac (a.2.2)),.pad,.pad,.pad,.pad])] (f a).2) (args p r) (he:onV1 f args=some (p,r)) (hp:p):CSpec P fi args r:=by
 unfold onV1 at he
 split at he
 · simp only [Option.map_eq_some_iff] at he
   obtain ⟨a,h1,h2⟩:=he
   have:=h a (by rw [h2]; exact hp)
   rw [h2] at this; rw [rawV_inv h1]; exact this
 · simp at he
theorem onV2_ok {fi:Nat} {f:V3→V3→Prop × AV} (h:∀ a b,(f a b).1→CSpec P fi [(.agg [.opq (.frac (a.1)),.pad,.pad,.pad,.pad,.opq (.frac (a.2.1)),.pad,.pad,.pad,.pad,.opq (.frac (a.2.2)),.pad,.pad,.pad,.pad]),(.agg [.opq (.frac (b.1)),.pad,.pad,.pad,.pad,.opq (.frac (b.2.1)),.pad,.pad,.pad,.pad,.opq (.frac (b.2.2)),.pad,.pad,.pad,.pad])] (f a b).2) (args p r) (he:onV2 f args=some (p,r)) (hp:p):CSpec P fi args r:=by
 unfold onV2 at he
 split at he
 · simp only [Option.bind_eq_some_iff,Option.map_eq_some_iff] at he
   obtain ⟨a,h1,b,h3,h2⟩:=he
   have:=h a b (by rw [h2]; exact hp)
   rw [h2] at this; rw [rawV_inv h1,rawV_inv h3]; exact this
 · simp at he
noncomputable def cl2 (f:Rat→Rat→Prop × AV):List AV→Option (Prop × AV)
 | [.int .i64 i,.fref A,.fref B]=>(cells3 A).bind fun a=>(cells3 B).bind fun b=>if i=0 then some (f a.1 b.1) else if i=1 then some (f a.2.1 b.2.1) else if i=2 then some (f a.2.2 b.2.2) else none
 | _=>none
theorem cl2_0 (f A B):cl2 f [.int .i64 0,.fref A,.fref B]=(cells3 A).bind fun a=>(cells3 B).bind fun b=>some (f a.1 b.1):=rfl
theorem cl2_1 (f A B):cl2 f [.int .i64 1,.fref A,.fref B]=(cells3 A).bind fun a=>(cells3 B).bind fun b=>some (f a.2.1 b.2.1):=rfl
theorem cl2_2 (f A B):cl2 f [.int .i64 2,.fref A,.fref B]=(cells3 A).bind fun a=>(cells3 B).bind fun b=>some (f a.2.2 b.2.2):=rfl
theorem cl2_ok {fi:Nat} {f:Rat→Rat→Prop × AV}
 (h0:∀ a b:V3,(f a.1 b.1).1→CSpec P fi [.int .i64 0,.fref [.opq (.frac (a.1)),.pad,.pad,.pad,.pad,.opq (.frac (a.2.1)),.pad,.pad,.pad,.pad,.opq (.frac (a.2.2)),.pad,.pad,.pad,.pad],.fref [.opq (.frac (b.1)),.pad,.pad,.pad,.pad,.opq (.frac (b.2.1)),.pad,.pad,.pad,.pad,.opq (.frac (b.2.2)),.pad,.pad,.pad,.pad]] (f a.1 b.1).2)
 (h1:∀ a b:V3,(f a.2.1 b.2.1).1→CSpec P fi [.int .i64 1,.fref [.opq (.frac (a.1)),.pad,.pad,.pad,.pad,.opq (.frac (a.2.1)),.pad,.pad,.pad,.pad,.opq (.frac (a.2.2)),.pad,.pad,.pad,.pad],.fref [.opq (.frac (b.1)),.pad,.pad,.pad,.pad,.opq (.frac (b.2.1)),.pad,.pad,.pad,.pad,.opq (.frac (b.2.2)),.pad,.pad,.pad,.pad]] (f a.2.1 b.2.1).2)
 (h2:∀ a b:V3,(f a.2.2 b.2.2).1→CSpec P fi [.int .i64 2,.fref [.opq (.frac (a.1)),.pad,.pad,.pad,.pad,.opq (.frac (a.2.1)),.pad,.pad,.pad,.pad,.opq (.frac (a.2.2)),.pad,.pad,.pad,.pad],.fref [.opq (.frac (b.1)),.pad,.pad,.pad,.pad,.opq (.frac (b.2.1)),.pad,.pad,.pad,.pad,.opq (.frac (b.2.2)),.pad,.pad,.pad,.pad]] (f a.2.2 b.2.2).2)
 (args p r) (he:cl2 f args=some (p,r)) (hp:p):CSpec P fi args r:=by
 unfold cl2 at he
 split at he
 · rename_i i A B
   simp only [Option.bind_eq_some_iff] at he
   obtain ⟨a,ha,b,hb,he⟩:=he
   rw [cells3_inv ha,cells3_inv hb]
   split at he
   · rename_i e; subst e
     have e:=Option.some.inj he
     have:=h0 a b (by rw [e]; exact hp)
     rw [e] at this; exact this
   · split at he
     · rename_i e; subst e
       have e:=Option.some.inj he
       have:=h1 a b (by rw [e]; exact hp)
       rw [e] at this; exact this
     · split at he
       · rename_i e; subst e
         have e:=Option.some.inj he
         have:=h2 a b (by rw [e]; exact hp)
         rw [e] at this; exact this
       · simp at he
 · simp at he
attribute [go_sem] cells3_eq rawV_eq fV_eq onV1_eq onV2_eq cl2_0 cl2_1 cl2_2
theorem vAddC_ok (hP:PrgOk P) (args p r):cl2 (fun x y=>(fl x≤FB∧fl y≤FB,(.agg [.opq (.frac (qadd x y)),.pad,.pad,.pad,.pad]))) args=some (p,r)→p→CSpec P 132 args r:=by
 have HE:=Jt0_all hP TF hP.tF
 refine cl2_ok (fun a b h=>?_) (fun a b h=>?_) (fun a b h=>?_) args p r
 all_goals
  have i1:=h.1
  have i2:=h.2
  have n1:(1:Int).toNat=1:=rfl
  have n2:(2:Int).toNat=2:=rfl
  refine CSpec_go (E:=⟨TF,Jt0⟩) (fn132 hP) HE hP.mix ?_
  simp only [go_sem,i1,i2,n1,n2]
  exact fin_z
noncomputable def vAddC:List AV→Option (Prop × AV):=cl2 (fun x y=>(fl x≤FB∧fl y≤FB,(.agg [.opq (.frac (qadd x y)),.pad,.pad,.pad,.pad])))
attribute [go_sem] vAddC
theorem vSubC_ok (hP:PrgOk P) (args p r):cl2 (fun x y=>(fl x≤FB∧fl y≤FB,(.agg [.opq (.frac (qsub x y)),.pad,.pad,.pad,.pad]))) args=some (p,r)→p→CSpec P 121 args r:=by
 have HE:=Jt0_all hP TF hP.tF
 refine cl2_ok (fun a b h=>?_) (fun a b h=>?_) (fun a b h=>?_) args p r
 all_goals
  have i1:=h.1
  have i2:=h.2
  have n1:(1:Int).toNat=1:=rfl
  have n2:(2:Int).toNat=2:=rfl
  refine CSpec_go (E:=⟨TF,Jt0⟩) (fn121 hP) HE hP.mix ?_
  simp only [go_sem,i1,i2,n1,n2]
  exact fin_z
noncomputable def vSubC:List AV→Option (Prop × AV):=cl2 (fun x y=>(fl x≤FB∧fl y≤FB,(.agg [.opq (.frac (qsub x y)),.pad,.pad,.pad,.pad])))
attribute [go_sem] vSubC
noncomputable def Vt0:Nat→List AV→Option (Prop × AV):=addS (addS Jt0 132 vAddC) 121 vSubC
theorem Vt0_all (hP:PrgOk P) (T) (hT:TyOk P T):EnvOk P ⟨T,Vt0⟩:=(((Jt0_all hP T hT).add (vAddC_ok hP)).add (vSubC_ok hP))
theorem Vt0_at (f a):Vt0 f a=(addS (addS Jt0 132 vAddC) 121 vSubC) f a:=rfl
attribute [go_sem] Vt0_at
theorem vAdd_spec (hP:PrgOk P) (a b:V3) (ha:fV a FB) (hb:fV b FB):CSpec P 72 [(.agg [.opq (.frac (a.1)),.pad,.pad,.pad,.pad,.opq (.frac (a.2.1)),.pad,.pad,.pad,.pad,.opq (.frac (a.2.2)),.pad,.pad,.pad,.pad]),(.agg [.opq (.frac (b.1)),.pad,.pad,.pad,.pad,.opq (.frac (b.2.1)),.pad,.pad,.pad,.pad,.opq (.frac (b.2.2)),.pad,.pad,.pad,.pad])] (.agg [.opq (.frac (qadd a.1 b.1)),.pad,.pad,.pad,.pad,.opq (.frac (qadd a.2.1 b.2.1)),.pad,.pad,.pad,.pad,.opq (.frac (qadd a.2.2 b.2.2)),.pad,.pad,.pad,.pad]):=by
 have HE:=Vt0_all hP TF hP.tF
 obtain ⟨a1,a2,a3⟩:=ha
 obtain ⟨b1,b2,b3⟩:=hb
 refine CSpec_go (E:=⟨TF,Vt0⟩) (fn72 hP) HE hP.mix ?_
 simp only [go_sem]
 refine icX_vc (E:=⟨TF,Vt0⟩) (fn81 hP) HE hP.mix rfl rfl (Nat.le_of_ble_eq_true rfl) 100 ?_
 have w1:IntKind.i64.wrap (0+1)=1:=rfl
 have w2:IntKind.i64.wrap (1+1)=2:=rfl
 have w3:IntKind.i64.wrap (2+1)=3:=rfl
 have n1:(1:Int).toNat=1:=rfl
 have n2:(2:Int).toNat=2:=rfl
 simp only [go_sem]
 refine trX_once HE hP.mix 15 150 (by kernel_rfl) ?_
 simp only [go_sem,w1,a1,a2,a3,b1,b2,b3]
 refine goX_once HE hP.mix 15 200 (by kernel_rfl) ?_
 simp only [go_sem,w2,n1,a1,a2,a3,b1,b2,b3]
 refine ⟨by decide,?_⟩
 refine goX_once HE hP.mix 15 250 (by kernel_rfl) ?_
 simp only [go_sem,w3,n2,a1,a2,a3,b1,b2,b3]
 refine ⟨by decide,?_⟩
 refine goX_once HE hP.mix 15 300 (by kernel_rfl) ?_
 simp only [go_sem]
 unfold finX
 simp only [go_sem]
 exact .refl _
noncomputable def vAddS:List AV→Option (Prop × AV):=onV2 fun a b=>(fV a FB∧fV b FB,(.agg [.opq (.frac (qadd a.1 b.1)),.pad,.pad,.pad,.pad,.opq (.frac (qadd a.2.1 b.2.1)),.pad,.pad,.pad,.pad,.opq (.frac (qadd a.2.2 b.2.2)),.pad,.pad,.pad,.pad]))
theorem vAddS_ok (hP:PrgOk P) (args p r):vAddS args=some (p,r)→p→CSpec P 72 args r:=onV2_ok (fun a b h=>by exact vAdd_spec hP a b h.1 h.2) args p r
attribute [go_sem] vAddS
theorem vSub_spec (hP:PrgOk P) (a b:V3) (ha:fV a FB) (hb:fV b FB):CSpec P 58 [(.agg [.opq (.frac (a.1)),.pad,.pad,.pad,.pad,.opq (.frac (a.2.1)),.pad,.pad,.pad,.pad,.opq (.frac (a.2.2)),.pad,.pad,.pad,.pad]),(.agg [.opq (.frac (b.1)),.pad,.pad,.pad,.pad,.opq (.frac (b.2.1)),.pad,.pad,.pad,.pad,.opq (.frac (b.2.2)),.pad,.pad,.pad,.pad])] (.agg [.opq (.frac (qsub a.1 b.1)),.pad,.pad,.pad,.pad,.opq (.frac (qsub a.2.1 b.2.1)),.pad,.pad,.pad,.pad,.opq (.frac (qsub a.2.2 b.2.2)),.pad,.pad,.pad,.pad]):=by
 have HE:=Vt0_all hP TF hP.tF
 obtain ⟨a1,a2,a3⟩:=ha
 obtain ⟨b1,b2,b3⟩:=hb
 refine CSpec_go (E:=⟨TF,Vt0⟩) (fn58 hP) HE hP.mix ?_
 simp only [go_sem]
 refine icX_vc (E:=⟨TF,Vt0⟩) (fn81 hP) HE hP.mix rfl rfl (Nat.le_of_ble_eq_true rfl) 100 ?_
 have w1:IntKind.i64.wrap (0+1)=1:=rfl
 have w2:IntKind.i64.wrap (1+1)=2:=rfl
 have w3:IntKind.i64.wrap (2+1)=3:=rfl
 have n1:(1:Int).toNat=1:=rfl
 have n2:(2:Int).toNat=2:=rfl
 simp only [go_sem]
 refine trX_once HE hP.mix 15 150 (by kernel_rfl) ?_
 simp only [go_sem,w1,a1,a2,a3,b1,b2,b3]
 refine goX_once HE hP.mix 15 200 (by kernel_rfl) ?_
 simp only [go_sem,w2,n1,a1,a2,a3,b1,b2,b3]
 refine ⟨by decide,?_⟩
 refine goX_once HE hP.mix 15 250 (by kernel_rfl) ?_
 simp only [go_sem,w3,n2,a1,a2,a3,b1,b2,b3]
 refine ⟨by decide,?_⟩
 refine goX_once HE hP.mix 15 300 (by kernel_rfl) ?_
 simp only [go_sem]
 unfold finX
 simp only [go_sem]
 exact .refl _
noncomputable def vSubS:List AV→Option (Prop × AV):=onV2 fun a b=>(fV a FB∧fV b FB,(.agg [.opq (.frac (qsub a.1 b.1)),.pad,.pad,.pad,.pad,.opq (.frac (qsub a.2.1 b.2.1)),.pad,.pad,.pad,.pad,.opq (.frac (qsub a.2.2 b.2.2)),.pad,.pad,.pad,.pad]))
theorem vSubS_ok (hP:PrgOk P) (args p r):vSubS args=some (p,r)→p→CSpec P 58 args r:=onV2_ok (fun a b h=>by exact vSub_spec hP a b h.1 h.2) args p r
attribute [go_sem] vSubS
theorem q0add (a:Rat):qadd 0 a=a:=by rw [qadd_eq]; grind
noncomputable def cl1 (f:Rat→Prop × AV):List AV→Option (Prop × AV)
 | [.int .i64 i,.fref A]=>(cells3 A).bind fun a=>if i=0 then some (f a.1) else if i=1 then some (f a.2.1) else if i=2 then some (f a.2.2) else none
 | _=>none
theorem cl1_0 (f A):cl1 f [.int .i64 0,.fref A]=(cells3 A).bind fun a=>some (f a.1):=rfl
theorem cl1_1 (f A):cl1 f [.int .i64 1,.fref A]=(cells3 A).bind fun a=>some (f a.2.1):=rfl
theorem cl1_2 (f A):cl1 f [.int .i64 2,.fref A]=(cells3 A).bind fun a=>some (f a.2.2):=rfl
noncomputable def clk (f:Rat→Rat→Prop × AV):List AV→Option (Prop × AV)
 | [.int .i64 i,.fref [.opq (.frac k),.pad,.pad,.pad,.pad],.fref A]=>(cells3 A).bind fun a=>if i=0 then some (f k a.1) else if i=1 then some (f k a.2.1) else if i=2 then some (f k a.2.2) else none
 | _=>none
theorem clk_0 (f k A):clk f [.int .i64 0,.fref [.opq (.frac k),.pad,.pad,.pad,.pad],.fref A]=(cells3 A).bind fun a=>some (f k a.1):=rfl
theorem clk_1 (f k A):clk f [.int .i64 1,.fref [.opq (.frac k),.pad,.pad,.pad,.pad],.fref A]=(cells3 A).bind fun a=>some (f k a.2.1):=rfl
theorem clk_2 (f k A):clk f [.int .i64 2,.fref [.opq (.frac k),.pad,.pad,.pad,.pad],.fref A]=(cells3 A).bind fun a=>some (f k a.2.2):=rfl
noncomputable def clx (f g h:V3→V3→Prop × AV):List AV→Option (Prop × AV)
 | [.int .i64 i,.fref A,.fref B]=>(cells3 A).bind fun a=>(cells3 B).bind fun b=>if i=0 then some (f a b) else if i=1 then some (g a b) else if i=2 then some (h a b) else none
 | _=>none
theorem clx_0 (f g h A B):clx f g h [.int .i64 0,.fref A,.fref B]=(cells3 A).bind fun a=>(cells3 B).bind fun b=>some (f a b):=rfl
theorem clx_1 (f g h A B):clx f g h [.int .i64 1,.fref A,.fref B]=(cells3 A).bind fun a=>(cells3 B).bind fun b=>some (g a b):=rfl
theorem clx_2 (f g h A B):clx f g h [.int .i64 2,.fref A,.fref B]=(cells3 A).bind fun a=>(cells3 B).bind fun b=>some (h a b):=rfl
theorem cl1_ok {fi:Nat} {f:Rat→Prop × AV}
 (h0:∀ a:V3,(f a.1).1→CSpec P fi [.int .i64 0,.fref [.opq (.frac (a.1)),.pad,.pad,.pad,.pad,.opq (.frac (a.2.1)),.pad,.pad,.pad,.pad,.opq (.frac (a.2.2)),.pad,.pad,.pad,.pad]] (f a.1).2)
 (h1:∀ a:V3,(f a.2.1).1→CSpec P fi [.int .i64 1,.fref [.opq (.frac (a.1)),.pad,.pad,.pad,.pad,.opq (.frac (a.2.1)),.pad,.pad,.pad,.pad,.opq (.frac (a.2.2)),.pad,.pad,.pad,.pad]] (f a.2.1).2)
 (h2:∀ a:V3,(f a.2.2).1→CSpec P fi [.int .i64 2,.fref [.opq (.frac (a.1)),.pad,.pad,.pad,.pad,.opq (.frac (a.2.1)),.pad,.pad,.pad,.pad,.opq (.frac (a.2.2)),.pad,.pad,.pad,.pad]] (f a.2.2).2)
 (args p r) (he:cl1 f args=some (p,r)) (hp:p):CSpec P fi args r:=by
 unfold cl1 at he
 split at he
 · rename_i i A
   simp only [Option.bind_eq_some_iff] at he
   obtain ⟨a,ha,he⟩:=he
   rw [cells3_inv ha]
   split at he
   · rename_i e; subst e
     have e:=Option.some.inj he
     have:=h0 a (by rw [e]; exact hp)
     rw [e] at this; exact this
   · split at he
     · rename_i e; subst e
       have e:=Option.some.inj he
       have:=h1 a (by rw [e]; exact hp)
       rw [e] at this; exact this
     · split at he
       · rename_i e; subst e
         have e:=Option.some.inj he
         have:=h2 a (by rw [e]; exact hp)
         rw [e] at this; exact this
       · simp at he
 · simp at he
theorem clk_ok {fi:Nat} {f:Rat→Rat→Prop × AV}
 (h0:∀ (k:Rat) (a:V3),(f k a.1).1→CSpec P fi [.int .i64 0,.fref [.opq (.frac k),.pad,.pad,.pad,.pad],.fref [.opq (.frac (a.1)),.pad,.pad,.pad,.pad,.opq (.frac (a.2.1)),.pad,.pad,.pad,.pad,.opq (.frac (a.2.2)),.pad,.pad,.pad,.pad]] (f k a.1).2)
 (h1:∀ (k:Rat) (a:V3),(f k a.2.1).1→CSpec P fi [.int .i64 1,.fref [.opq (.frac k),.pad,.pad,.pad,.pad],.fref [.opq (.frac (a.1)),.pad,.pad,.pad,.pad,.opq (.frac (a.2.1)),.pad,.pad,.pad,.pad,.opq (.frac (a.2.2)),.pad,.pad,.pad,.pad]] (f k a.2.1).2)
 (h2:∀ (k:Rat) (a:V3),(f k a.2.2).1→CSpec P fi [.int .i64 2,.fref [.opq (.frac k),.pad,.pad,.pad,.pad],.fref [.opq (.frac (a.1)),.pad,.pad,.pad,.pad,.opq (.frac (a.2.1)),.pad,.pad,.pad,.pad,.opq (.frac (a.2.2)),.pad,.pad,.pad,.pad]] (f k a.2.2).2)
 (args p r) (he:clk f args=some (p,r)) (hp:p):CSpec P fi args r:=by
 unfold clk at he
 split at he
 · rename_i i k A
   simp only [Option.bind_eq_some_iff] at he
   obtain ⟨a,ha,he⟩:=he
   rw [cells3_inv ha]
   split at he
   · rename_i e; subst e
     have e:=Option.some.inj he
     have:=h0 k a (by rw [e]; exact hp)
     rw [e] at this; exact this
   · split at he
     · rename_i e; subst e
       have e:=Option.some.inj he
       have:=h1 k a (by rw [e]; exact hp)
       rw [e] at this; exact this
     · split at he
       · rename_i e; subst e
         have e:=Option.some.inj he
         have:=h2 k a (by rw [e]; exact hp)
         rw [e] at this; exact this
       · simp at he
 · simp at he
theorem clx_ok {fi:Nat} {f g h:V3→V3→Prop × AV}
 (h0:∀ a b:V3,(f a b).1→CSpec P fi [.int .i64 0,.fref [.opq (.frac (a.1)),.pad,.pad,.pad,.pad,.opq (.frac (a.2.1)),.pad,.pad,.pad,.pad,.opq (.frac (a.2.2)),.pad,.pad,.pad,.pad],.fref [.opq (.frac (b.1)),.pad,.pad,.pad,.pad,.opq (.frac (b.2.1)),.pad,.pad,.pad,.pad,.opq (.frac (b.2.2)),.pad,.pad,.pad,.pad]] (f a b).2)
 (h1:∀ a b:V3,(g a b).1→CSpec P fi [.int .i64 1,.fref [.opq (.frac (a.1)),.pad,.pad,.pad,.pad,.opq (.frac (a.2.1)),.pad,.pad,.pad,.pad,.opq (.frac (a.2.2)),.pad,.pad,.pad,.pad],.fref [.opq (.frac (b.1)),.pad,.pad,.pad,.pad,.opq (.frac (b.2.1)),.pad,.pad,.pad,.pad,.opq (.frac (b.2.2)),.pad,.pad,.pad,.pad]] (g a b).2)
 (h2:∀ a b:V3,(h a b).1→CSpec P fi [.int .i64 2,.fref [.opq (.frac (a.1)),.pad,.pad,.pad,.pad,.opq (.frac (a.2.1)),.pad,.pad,.pad,.pad,.opq (.frac (a.2.2)),.pad,.pad,.pad,.pad],.fref [.opq (.frac (b.1)),.pad,.pad,.pad,.pad,.opq (.frac (b.2.1)),.pad,.pad,.pad,.pad,.opq (.frac (b.2.2)),.pad,.pad,.pad,.pad]] (h a b).2)
 (args p r) (he:clx f g h args=some (p,r)) (hp:p):CSpec P fi args r:=by
 unfold clx at he
 split at he
 · rename_i i A B
   simp only [Option.bind_eq_some_iff] at he
   obtain ⟨a,ha,b,hb,he⟩:=he
   rw [cells3_inv ha,cells3_inv hb]
   split at he
   · rename_i e; subst e
     have e:=Option.some.inj he
     have:=h0 a b (by rw [e]; exact hp)
     rw [e] at this; exact this
   · split at he
     · rename_i e; subst e
       have e:=Option.some.inj he
       have:=h1 a b (by rw [e]; exact hp)
       rw [e] at this; exact this
     · split at he
       · rename_i e; subst e
         have e:=Option.some.inj he
         have:=h2 a b (by rw [e]; exact hp)
         rw [e] at this; exact this
       · simp at he
 · simp at he
attribute [go_sem] cl1_0 cl1_1 cl1_2 clk_0 clk_1 clk_2 clx_0 clx_1 clx_2
noncomputable def vNegC:List AV→Option (Prop × AV):=cl1 fun x=>(fl x≤FB,(.agg [.opq (.frac (qneg x)),.pad,.pad,.pad,.pad]))
theorem vNegC_ok (hP:PrgOk P) (args p r):vNegC args=some (p,r)→p→CSpec P 118 args r:=by
 have HE:=Jt0_all hP TF hP.tF
 refine cl1_ok (fun a h=>?_) (fun a h=>?_) (fun a h=>?_) args p r
 all_goals
  have h:fl _≤FB:=h
  have i1:=Nat.le_trans (fl_num h) (show FB≤68719476736 by decide)
  have n1:(1:Int).toNat=1:=rfl
  have n2:(2:Int).toNat=2:=rfl
  refine CSpec_go (E:=⟨TF,Jt0⟩) (fn118 hP) HE hP.mix ?_
  simp only [go_sem,i1,n1,n2]
  exact fin_z
noncomputable def vScaleC:List AV→Option (Prop × AV):=clk fun k x=>(fl k≤FB∧fl x≤FB,(.agg [.opq (.frac (qmul k x)),.pad,.pad,.pad,.pad]))
theorem vScaleC_ok (hP:PrgOk P) (args p r):vScaleC args=some (p,r)→p→CSpec P 82 args r:=by
 have HE:=Jt0_all hP TF hP.tF
 refine clk_ok (fun k a h=>?_) (fun k a h=>?_) (fun k a h=>?_) args p r
 all_goals
  have i1:=h.1
  have i2:=h.2
  have n1:(1:Int).toNat=1:=rfl
  have n2:(2:Int).toNat=2:=rfl
  refine CSpec_go (E:=⟨TF,Jt0⟩) (fn82 hP) HE hP.mix ?_
  simp only [go_sem,i1,i2,n1,n2]
  exact fin_z
noncomputable def mnr (a b c d:Rat):Prop × AV:=(fl a≤268435456∧fl b≤268435456∧fl c≤268435456∧fl d≤268435456,(.agg [.opq (.frac (qsub (qmul a b) (qmul c d))),.pad,.pad,.pad,.pad]))
noncomputable def vCrossC:List AV→Option (Prop × AV):=clx (fun a b=>mnr a.2.1 b.2.2 a.2.2 b.2.1) (fun a b=>mnr a.2.2 b.1 a.1 b.2.2) (fun a b=>mnr a.1 b.2.1 a.2.1 b.1)
theorem vCrossC_ok (hP:PrgOk P) (args p r):vCrossC args=some (p,r)→p→CSpec P 131 args r:=by
 have HE:=Jt0_all hP TF hP.tF
 refine clx_ok (fun a b h=>?_) (fun a b h=>?_) (fun a b h=>?_) args p r
 all_goals
  obtain ⟨h1,h2,h3,h4⟩:=h
  have i1:=Nat.le_trans h1 (show _≤FB by decide)
  have i2:=Nat.le_trans h2 (show _≤FB by decide)
  have i3:=Nat.le_trans h3 (show _≤FB by decide)
  have i4:=Nat.le_trans h4 (show _≤FB by decide)
  have i5:=Nat.le_trans (fl_qmul h1 h2) (show _≤FB by decide)
  have i6:=Nat.le_trans (fl_qmul h3 h4) (show _≤FB by decide)
  have n1:(1:Int).toNat=1:=rfl
  have n2:(2:Int).toNat=2:=rfl
  have w1:IntKind.i64.wrap (0+1)=1:=rfl
  have w2:IntKind.i64.wrap (0+2)=2:=rfl
  have w3:IntKind.i64.wrap (1+1)=2:=rfl
  have w4:IntKind.i64.wrap (1+2)=3:=rfl
  have w5:IntKind.i64.wrap (2+1)=3:=rfl
  have w6:IntKind.i64.wrap (2+2)=4:=rfl
  have m1:(1:Int).tmod 3=1:=rfl
  have m2:(2:Int).tmod 3=2:=rfl
  have m3:(3:Int).tmod 3=0:=rfl
  have m4:(4:Int).tmod 3=1:=rfl
  refine CSpec_go (E:=⟨TF,Jt0⟩) (fn131 hP) HE hP.mix ?_
  simp only [go_sem,i1,i2,i3,i4,i5,i6,n1,n2,w1,w2,w3,w4,w5,w6,m1,m2,m3,m4]
  exact fin_z
attribute [go_sem] vNegC vScaleC vCrossC mnr
noncomputable def Vt1:Nat→List AV→Option (Prop × AV):=addS (addS (addS (addS (addS Vt0 118 vNegC) 82 vScaleC) 131 vCrossC) 72 vAddS) 58 vSubS
theorem Vt1_all (hP:PrgOk P) (T) (hT:TyOk P T):EnvOk P ⟨T,Vt1⟩:=((((((Vt0_all hP T hT).add (vNegC_ok hP)).add (vScaleC_ok hP)).add (vCrossC_ok hP)).add (vAddS_ok hP)).add (vSubS_ok hP))
theorem Vt1_at (f a):Vt1 f a=(addS (addS (addS (addS (addS Vt0 118 vNegC) 82 vScaleC) 131 vCrossC) 72 vAddS) 58 vSubS) f a:=rfl
attribute [go_sem] Vt1_at
theorem vNeg_spec (hP:PrgOk P) (a:V3) (ha:fV a FB):CSpec P 56 [(.agg [.opq (.frac (a.1)),.pad,.pad,.pad,.pad,.opq (.frac (a.2.1)),.pad,.pad,.pad,.pad,.opq (.frac (a.2.2)),.pad,.pad,.pad,.pad])] (.agg [.opq (.frac (qneg a.1)),.pad,.pad,.pad,.pad,.opq (.frac (qneg a.2.1)),.pad,.pad,.pad,.pad,.opq (.frac (qneg a.2.2)),.pad,.pad,.pad,.pad]):=by
 have HE:=Vt1_all hP TF hP.tF
 obtain ⟨a1,a2,a3⟩:=ha
 refine CSpec_go (E:=⟨TF,Vt1⟩) (fn56 hP) HE hP.mix ?_
 simp only [go_sem]
 refine icX_vc (E:=⟨TF,Vt1⟩) (fn81 hP) HE hP.mix rfl rfl (Nat.le_of_ble_eq_true rfl) 100 ?_
 have w1:IntKind.i64.wrap (0+1)=1:=rfl
 have w2:IntKind.i64.wrap (1+1)=2:=rfl
 have w3:IntKind.i64.wrap (2+1)=3:=rfl
 have n1:(1:Int).toNat=1:=rfl
 have n2:(2:Int).toNat=2:=rfl
 simp only [go_sem]
 refine trX_once HE hP.mix 15 150 (by kernel_rfl) ?_
 simp only [go_sem,w1,a1,a2,a3]
 refine goX_once HE hP.mix 15 200 (by kernel_rfl) ?_
 simp only [go_sem,w2,n1,a1,a2,a3]
 refine ⟨by decide,?_⟩
 refine goX_once HE hP.mix 15 250 (by kernel_rfl) ?_
 simp only [go_sem,w3,n2,a1,a2,a3]
 refine ⟨by decide,?_⟩
 refine goX_once HE hP.mix 15 300 (by kernel_rfl) ?_
 simp only [go_sem]
 unfold finX
 simp only [go_sem]
 exact .refl _
noncomputable def vNegS:List AV→Option (Prop × AV):=onV1 fun a=>(fV a FB,(.agg [.opq (.frac (qneg a.1)),.pad,.pad,.pad,.pad,.opq (.frac (qneg a.2.1)),.pad,.pad,.pad,.pad,.opq (.frac (qneg a.2.2)),.pad,.pad,.pad,.pad]))
theorem vNegS_ok (hP:PrgOk P) (args p r):vNegS args=some (p,r)→p→CSpec P 56 args r:=onV1_ok (fun a h=>by exact vNeg_spec hP a h) args p r
theorem vScale_spec (hP:PrgOk P) (k:Rat) (a:V3) (hk:fl k≤FB) (ha:fV a FB):CSpec P 26 [(.agg [.opq (.frac (k)),.pad,.pad,.pad,.pad]),(.agg [.opq (.frac (a.1)),.pad,.pad,.pad,.pad,.opq (.frac (a.2.1)),.pad,.pad,.pad,.pad,.opq (.frac (a.2.2)),.pad,.pad,.pad,.pad])] (.agg [.opq (.frac (qmul k a.1)),.pad,.pad,.pad,.pad,.opq (.frac (qmul k a.2.1)),.pad,.pad,.pad,.pad,.opq (.frac (qmul k a.2.2)),.pad,.pad,.pad,.pad]):=by
 have HE:=Vt1_all hP TF hP.tF
 obtain ⟨a1,a2,a3⟩:=ha
 refine CSpec_go (E:=⟨TF,Vt1⟩) (fn26 hP) HE hP.mix ?_
 simp only [go_sem]
 refine icX_vc (E:=⟨TF,Vt1⟩) (fn81 hP) HE hP.mix rfl rfl (Nat.le_of_ble_eq_true rfl) 100 ?_
 have w1:IntKind.i64.wrap (0+1)=1:=rfl
 have w2:IntKind.i64.wrap (1+1)=2:=rfl
 have w3:IntKind.i64.wrap (2+1)=3:=rfl
 have n1:(1:Int).toNat=1:=rfl
 have n2:(2:Int).toNat=2:=rfl
 simp only [go_sem]
 refine trX_once HE hP.mix 15 150 (by kernel_rfl) ?_
 simp only [go_sem,w1,hk,a1,a2,a3]
 refine goX_once HE hP.mix 15 200 (by kernel_rfl) ?_
 simp only [go_sem,w2,n1,hk,a1,a2,a3]
 refine ⟨by decide,?_⟩
 refine goX_once HE hP.mix 15 250 (by kernel_rfl) ?_
 simp only [go_sem,w3,n2,hk,a1,a2,a3]
 refine ⟨by decide,?_⟩
 refine goX_once HE hP.mix 15 300 (by kernel_rfl) ?_
 simp only [go_sem]
 unfold finX
 simp only [go_sem]
 exact .refl _
noncomputable def vScaleS:List AV→Option (Prop × AV)
 | [k,x]=>(rawF k).bind fun k=>(rawV x).map fun a=>(k.1∧fl k.2≤FB∧fV a FB,(.agg [.opq (.frac (qmul k.2 a.1)),.pad,.pad,.pad,.pad,.opq (.frac (qmul k.2 a.2.1)),.pad,.pad,.pad,.pad,.opq (.frac (qmul k.2 a.2.2)),.pad,.pad,.pad,.pad]))
 | _=>none
theorem vScaleS_eq (k x):vScaleS [k,x]=(rawF k).bind fun k=>(rawV x).map fun a=>(k.1∧fl k.2≤FB∧fV a FB,(.agg [.opq (.frac (qmul k.2 a.1)),.pad,.pad,.pad,.pad,.opq (.frac (qmul k.2 a.2.1)),.pad,.pad,.pad,.pad,.opq (.frac (qmul k.2 a.2.2)),.pad,.pad,.pad,.pad])):=rfl
theorem vScaleS_ok (hP:PrgOk P) (args p r) (he:vScaleS args=some (p,r)) (hp:p):CSpec P 26 args r:=by
 unfold vScaleS at he
 split at he
 · simp only [Option.bind_eq_some_iff,Option.map_eq_some_iff,Prod.exists,Prod.mk.injEq] at he
   obtain ⟨q,k,h1,x,y,z,h2,rfl,rfl⟩:=he
   rw [rawV_inv h2]
   exact (vScale_spec hP k (x,y,z) hp.2.1 hp.2.2).cv (rawF_cv h1 hp.1 (.refl _))
 · simp at he
theorem vCross_spec (hP:PrgOk P) (a b:V3) (ha:fV a 268435456) (hb:fV b 268435456):CSpec P 71 [(.agg [.opq (.frac (a.1)),.pad,.pad,.pad,.pad,.opq (.frac (a.2.1)),.pad,.pad,.pad,.pad,.opq (.frac (a.2.2)),.pad,.pad,.pad,.pad]),(.agg [.opq (.frac (b.1)),.pad,.pad,.pad,.pad,.opq (.frac (b.2.1)),.pad,.pad,.pad,.pad,.opq (.frac (b.2.2)),.pad,.pad,.pad,.pad])] (.agg [.opq (.frac (qsub (qmul a.2.1 b.2.2) (qmul a.2.2 b.2.1))),.pad,.pad,.pad,.pad,.opq (.frac (qsub (qmul a.2.2 b.1) (qmul a.1 b.2.2))),.pad,.pad,.pad,.pad,.opq (.frac (qsub (qmul a.1 b.2.1) (qmul a.2.1 b.1))),.pad,.pad,.pad,.pad]):=by
 have HE:=Vt1_all hP TF hP.tF
 obtain ⟨a1,a2,a3⟩:=ha
 obtain ⟨b1,b2,b3⟩:=hb
 refine CSpec_go (E:=⟨TF,Vt1⟩) (fn71 hP) HE hP.mix ?_
 simp only [go_sem]
 refine icX_vc (E:=⟨TF,Vt1⟩) (fn81 hP) HE hP.mix rfl rfl (Nat.le_of_ble_eq_true rfl) 100 ?_
 have w1:IntKind.i64.wrap (0+1)=1:=rfl
 have w2:IntKind.i64.wrap (1+1)=2:=rfl
 have w3:IntKind.i64.wrap (2+1)=3:=rfl
 have n1:(1:Int).toNat=1:=rfl
 have n2:(2:Int).toNat=2:=rfl
 simp only [go_sem]
 refine trX_once HE hP.mix 15 150 (by kernel_rfl) ?_
 simp only [go_sem,w1,a1,a2,a3,b1,b2,b3]
 refine goX_once HE hP.mix 15 200 (by kernel_rfl) ?_
 simp only [go_sem,w2,n1,a1,a2,a3,b1,b2,b3]
 refine ⟨by decide,?_⟩
 refine goX_once HE hP.mix 15 250 (by kernel_rfl) ?_
 simp only [go_sem,w3,n2,a1,a2,a3,b1,b2,b3]
 refine ⟨by decide,?_⟩
 refine goX_once HE hP.mix 15 300 (by kernel_rfl) ?_
 simp only [go_sem]
 unfold finX
 simp only [go_sem]
 exact .refl _
noncomputable def vCrossS:List AV→Option (Prop × AV):=onV2 fun a b=>(fV a 268435456∧fV b 268435456,(.agg [.opq (.frac (qsub (qmul a.2.1 b.2.2) (qmul a.2.2 b.2.1))),.pad,.pad,.pad,.pad,.opq (.frac (qsub (qmul a.2.2 b.1) (qmul a.1 b.2.2))),.pad,.pad,.pad,.pad,.opq (.frac (qsub (qmul a.1 b.2.1) (qmul a.2.1 b.1))),.pad,.pad,.pad,.pad]))
theorem vCrossS_ok (hP:PrgOk P) (args p r):vCrossS args=some (p,r)→p→CSpec P 71 args r:=onV2_ok (fun a b h=>by exact vCross_spec hP a b h.1 h.2) args p r
attribute [go_sem] vNegS vScaleS_eq vCrossS
end Go.Proofs.YtmahhmdeocnlgaaGreatDoor.AM
/- Fractions in their order. -/
namespace Go.Proofs.YtmahhmdeocnlgaaGreatDoor.AM
set_option linter.all false
set_option autoImplicit true
set_option relaxedAutoImplicit true
open Go Go.Proofs
set_option maxRecDepth 100000
theorem cmpQ_z (a b:Rat):(cmpQ a b == 0)=decide (a=b):=by
 unfold cmpQ
 by_cases h1:a<b
 · rw [if_pos h1,decide_eq_false (by grind)]; rfl
 · rw [if_neg h1]
   by_cases h2:b<a
   · rw [if_pos h2,decide_eq_false (by grind)]; rfl
   · rw [if_neg h2,decide_eq_true (by grind)]; rfl
theorem cmpQ_cases (a b:Rat):(a<b∧cmpQ a b = -1)∨(a=b∧cmpQ a b=0)∨(b<a∧cmpQ a b=1):=by
 unfold cmpQ
 by_cases h1:a<b
 · exact .inl ⟨h1,if_pos h1⟩
 · rw [if_neg h1]
   by_cases h2:b<a
   · exact .inr (.inr ⟨h2,if_pos h2⟩)
   · exact .inr (.inl ⟨by grind,if_neg h2⟩)
theorem cmpQ_lt {a b:Rat} (h:a<b):cmpQ a b = -1:=if_pos h
theorem cmpQ_gt {a b:Rat} (h:b<a):cmpQ a b=1:=by unfold cmpQ; rw [if_neg (by grind),if_pos h]
theorem cmpQ_self (a:Rat):cmpQ a a=0:=by unfold cmpQ; rw [if_neg (by grind),if_neg (by grind)]
end Go.Proofs.YtmahhmdeocnlgaaGreatDoor.AM
/- Package vec: products,order,texts. -/
namespace Go.Proofs.YtmahhmdeocnlgaaGreatDoor.AM
set_option linter.all false
set_option autoImplicit true
set_option relaxedAutoImplicit true
open Go Go.Proofs
set_option maxRecDepth 100000
set_option maxHeartbeats 8000000
set_option linter.unusedSimpArgs false
variable {P:Program}
noncomputable def Vt2:Nat→List AV→Option (Prop × AV):=addS (addS (addS Vt1 56 vNegS) 26 vScaleS) 71 vCrossS
theorem Vt2_all (hP:PrgOk P) (T) (hT:TyOk P T):EnvOk P ⟨T,Vt2⟩:=((((Vt1_all hP T hT).add (vNegS_ok hP)).add (vScaleS_ok hP)).add (vCrossS_ok hP))
theorem Vt2_at (f a):Vt2 f a=(addS (addS (addS Vt1 56 vNegS) 26 vScaleS) 71 vCrossS) f a:=rfl
attribute [go_sem] Vt2_at
noncomputable def qdt (a b:V3):Rat:=qadd (qadd (qmul a.1 b.1) (qmul a.2.1 b.2.1)) (qmul a.2.2 b.2.2)
theorem vDot_spec (hP:PrgOk P) (a b:V3) (ha:fV a 67108864) (hb:fV b 67108864):CSpec P 31 [(.agg [.opq (.frac (a.1)),.pad,.pad,.pad,.pad,.opq (.frac (a.2.1)),.pad,.pad,.pad,.pad,.opq (.frac (a.2.2)),.pad,.pad,.pad,.pad]),(.agg [.opq (.frac (b.1)),.pad,.pad,.pad,.pad,.opq (.frac (b.2.1)),.pad,.pad,.pad,.pad,.opq (.frac (b.2.2)),.pad,.pad,.pad,.pad])] (.agg [.opq (.frac (qdt a b)),.pad,.pad,.pad,.pad]):=by
 have HE:=Vt2_all hP TF hP.tF
 obtain ⟨a1,a2,a3⟩:=ha
 obtain ⟨b1,b2,b3⟩:=hb
 have i1:=Nat.le_trans a1 (show _≤FB by decide)
 have i2:=Nat.le_trans a2 (show _≤FB by decide)
 have i3:=Nat.le_trans a3 (show _≤FB by decide)
 have j1:=Nat.le_trans b1 (show _≤FB by decide)
 have j2:=Nat.le_trans b2 (show _≤FB by decide)
 have j3:=Nat.le_trans b3 (show _≤FB by decide)
 have p1:=Nat.le_trans (fl_qmul a1 b1) (show _≤FB by decide)
 have p2:=Nat.le_trans (fl_qmul a2 b2) (show _≤FB by decide)
 have p3:=Nat.le_trans (fl_qmul a3 b3) (show _≤FB by decide)
 have s1:=Nat.le_trans (fl_qadd (fl_qmul a1 b1) (fl_qmul a2 b2)) (show _≤FB by decide)
 have f0:fl 0≤FB:=fl_zero _
 unfold qdt
 refine CSpec_go (E:=⟨TF,Vt2⟩) (fn31 hP) HE hP.mix ?_
 simp only [go_sem]
 have w1:IntKind.i64.wrap (0+1)=1:=rfl
 have w2:IntKind.i64.wrap (1+1)=2:=rfl
 have w3:IntKind.i64.wrap (2+1)=3:=rfl
 have n1:(1:Int).toNat=1:=rfl
 have n2:(2:Int).toNat=2:=rfl
 have le1:((0:Int)≤1)=True:=eq_true (by decide)
 have le2:((0:Int)≤2)=True:=eq_true (by decide)
 refine trX_once HE hP.mix 23 150 (by kernel_rfl) ?_
 simp only [go_sem,w1,i1,j1,p1,f0,q0add]
 refine goX_once HE hP.mix 23 200 (by kernel_rfl) ?_
 simp only [go_sem,w2,n1,le1,i2,j2,p1,p2]
 refine goX_once HE hP.mix 23 250 (by kernel_rfl) ?_
 simp only [go_sem,w3,n2,le2,i3,j3,s1,p3]
 refine goX_once HE hP.mix 23 300 (by kernel_rfl) ?_
 simp only [go_sem]
 exact .refl _
noncomputable def vDotS:List AV→Option (Prop × AV):=onV2 fun a b=>(fV a 67108864∧fV b 67108864,(.agg [.opq (.frac (qdt a b)),.pad,.pad,.pad,.pad]))
theorem vDotS_ok (hP:PrgOk P) (args p r):vDotS args=some (p,r)→p→CSpec P 31 args r:=onV2_ok (fun a b h=>by exact vDot_spec hP a b h.1 h.2) args p r
noncomputable def cmpV (a b:V3):Int:=if cmpQ a.1 b.1=0 then (if cmpQ a.2.1 b.2.1=0 then cmpQ a.2.2 b.2.2 else cmpQ a.2.1 b.2.1) else cmpQ a.1 b.1
theorem vCmp_spec (hP:PrgOk P) (a b:V3) (ha:fV a FB) (hb:fV b FB):CSpec P 47 [(.agg [.opq (.frac (a.1)),.pad,.pad,.pad,.pad,.opq (.frac (a.2.1)),.pad,.pad,.pad,.pad,.opq (.frac (a.2.2)),.pad,.pad,.pad,.pad]),(.agg [.opq (.frac (b.1)),.pad,.pad,.pad,.pad,.opq (.frac (b.2.1)),.pad,.pad,.pad,.pad,.opq (.frac (b.2.2)),.pad,.pad,.pad,.pad])] (.int .i64 (cmpV a b)):=by
 have HE:=Vt2_all hP TF hP.tF
 obtain ⟨a1,a2,a3⟩:=ha
 obtain ⟨b1,b2,b3⟩:=hb
 have w1:IntKind.i64.wrap (0+1)=1:=rfl
 have w2:IntKind.i64.wrap (1+1)=2:=rfl
 have w3:IntKind.i64.wrap (2+1)=3:=rfl
 have n1:(1:Int).toNat=1:=rfl
 have n2:(2:Int).toNat=2:=rfl
 have le1:((0:Int)≤1)=True:=eq_true (by decide)
 have le2:((0:Int)≤2)=True:=eq_true (by decide)
 unfold cmpV
 refine CSpec_go (E:=⟨TF,Vt2⟩) (fn47 hP) HE hP.mix ?_
 simp only [go_sem]
 refine trX_once HE hP.mix 23 150 (by kernel_rfl) ?_
 by_cases c1:cmpQ a.1 b.1=0
 · have c1':(cmpQ a.1 b.1 != 0)=false:=by rw [c1]; rfl
   rw [if_pos c1]
   simp only [go_sem,w1,a1,b1,c1']
   refine goX_once HE hP.mix 23 200 (by kernel_rfl) ?_
   by_cases c2:cmpQ a.2.1 b.2.1=0
   · have c2':(cmpQ a.2.1 b.2.1 != 0)=false:=by rw [c2]; rfl
     rw [if_pos c2]
     simp only [go_sem,w2,n1,le1,a2,b2,c2']
     refine goX_once HE hP.mix 23 250 (by kernel_rfl) ?_
     by_cases c3:cmpQ a.2.2 b.2.2=0
     · have c3':(cmpQ a.2.2 b.2.2 != 0)=false:=by rw [c3]; rfl
       simp only [go_sem,w3,n2,le2,a3,b3,c3']
       refine goX_once HE hP.mix 23 300 (by kernel_rfl) ?_
       rw [c3]
       simp only [go_sem]
       exact fin_z
     · have c3':(cmpQ a.2.2 b.2.2 != 0)=true:=by simpa using c3
       simp only [go_sem,w3,n2,le2,a3,b3,c3']
       exact fin_z
   · have c2':(cmpQ a.2.1 b.2.1 != 0)=true:=by simpa using c2
     rw [if_neg c2]
     simp only [go_sem,w2,n1,le1,a2,b2,c2']
     exact fin_z
 · have c1':(cmpQ a.1 b.1 != 0)=true:=by simpa using c1
   rw [if_neg c1]
   simp only [go_sem,w1,a1,b1,c1']
   exact fin_z
noncomputable def vCmpS:List AV→Option (Prop × AV):=onV2 fun a b=>(fV a FB∧fV b FB,.int .i64 (cmpV a b))
theorem vCmpS_ok (hP:PrgOk P) (args p r):vCmpS args=some (p,r)→p→CSpec P 47 args r:=onV2_ok (fun a b h=>by exact vCmp_spec hP a b h.1 h.2) args p r
noncomputable def zrV (a:V3):Bool:=decide (a.1=0) && (decide (a.2.1=0) && decide (a.2.2=0))
theorem zrV_eq (a:V3):zrV a=decide (a=v0):=by
 unfold zrV; rw [Bool.eq_iff_iff]; simp [v0_iff]
theorem vX_spec (hP:PrgOk P) (a:V3):CSpec P 21 [(.agg [.opq (.frac (a.1)),.pad,.pad,.pad,.pad,.opq (.frac (a.2.1)),.pad,.pad,.pad,.pad,.opq (.frac (a.2.2)),.pad,.pad,.pad,.pad])] (.agg [.opq (.frac (a.1)),.pad,.pad,.pad,.pad]):=by
 have HE:=Vt2_all hP TF hP.tF
 refine CSpec_go (E:=⟨TF,Vt2⟩) (fn21 hP) HE hP.mix ?_
 simp only [go_sem]
 exact fin_z
noncomputable def vXS:List AV→Option (Prop × AV):=onV1 fun a=>(True,(.agg [.opq (.frac (a.1)),.pad,.pad,.pad,.pad]))
theorem vXS_ok (hP:PrgOk P) (args p r):vXS args=some (p,r)→p→CSpec P 21 args r:=onV1_ok (fun a _=>by exact vX_spec hP a) args p r
attribute [go_sem] vXS
theorem vY_spec (hP:PrgOk P) (a:V3):CSpec P 22 [(.agg [.opq (.frac (a.1)),.pad,.pad,.pad,.pad,.opq (.frac (a.2.1)),.pad,.pad,.pad,.pad,.opq (.frac (a.2.2)),.pad,.pad,.pad,.pad])] (.agg [.opq (.frac (a.2.1)),.pad,.pad,.pad,.pad]):=by
 have HE:=Vt2_all hP TF hP.tF
 refine CSpec_go (E:=⟨TF,Vt2⟩) (fn22 hP) HE hP.mix ?_
 simp only [go_sem]
 exact fin_z
noncomputable def vYS:List AV→Option (Prop × AV):=onV1 fun a=>(True,(.agg [.opq (.frac (a.2.1)),.pad,.pad,.pad,.pad]))
theorem vYS_ok (hP:PrgOk P) (args p r):vYS args=some (p,r)→p→CSpec P 22 args r:=onV1_ok (fun a _=>by exact vY_spec hP a) args p r
attribute [go_sem] vYS
theorem vZ_spec (hP:PrgOk P) (a:V3):CSpec P 23 [(.agg [.opq (.frac (a.1)),.pad,.pad,.pad,.pad,.opq (.frac (a.2.1)),.pad,.pad,.pad,.pad,.opq (.frac (a.2.2)),.pad,.pad,.pad,.pad])] (.agg [.opq (.frac (a.2.2)),.pad,.pad,.pad,.pad]):=by
 have HE:=Vt2_all hP TF hP.tF
 refine CSpec_go (E:=⟨TF,Vt2⟩) (fn23 hP) HE hP.mix ?_
 simp only [go_sem]
 exact fin_z
noncomputable def vZS:List AV→Option (Prop × AV):=onV1 fun a=>(True,(.agg [.opq (.frac (a.2.2)),.pad,.pad,.pad,.pad]))
theorem vZS_ok (hP:PrgOk P) (args p r):vZS args=some (p,r)→p→CSpec P 23 args r:=onV1_ok (fun a _=>by exact vZ_spec hP a) args p r
attribute [go_sem] vZS
theorem vZero_spec (hP:PrgOk P) (a:V3) (ha:fV a FB):CSpec P 54 [(.agg [.opq (.frac (a.1)),.pad,.pad,.pad,.pad,.opq (.frac (a.2.1)),.pad,.pad,.pad,.pad,.opq (.frac (a.2.2)),.pad,.pad,.pad,.pad])] (.bool (decide (a=v0))):=by
 have HE:=Vt2_all hP TF hP.tF
 obtain ⟨a1,a2,a3⟩:=ha
 have i1:=Nat.le_trans (fl_num a1) (show FB≤68719476736 by decide)
 have i2:=Nat.le_trans (fl_num a2) (show FB≤68719476736 by decide)
 have i3:=Nat.le_trans (fl_num a3) (show FB≤68719476736 by decide)
 rw [← zrV_eq]
 unfold zrV
 refine CSpec_go (E:=⟨TF,Vt2⟩) (fn54 hP) HE hP.mix ?_
 by_cases c1:a.1=0
 · have c1':=decide_eq_true c1
   by_cases c2:a.2.1=0
   · have c2':=decide_eq_true c2
     simp only [go_sem,i1,i2,i3,cmpQ_z,c1',c2']
     exact fin_z
   · have c2':=decide_eq_false c2
     simp only [go_sem,i1,i2,i3,cmpQ_z,c1',c2']
     exact fin_z
 · have c1':=decide_eq_false c1
   simp only [go_sem,i1,i2,i3,cmpQ_z,c1']
   exact fin_z
noncomputable def vZeroS:List AV→Option (Prop × AV):=onV1 fun a=>(fV a FB,.bool (decide (a=v0)))
theorem vZeroS_ok (hP:PrgOk P) (args p r):vZeroS args=some (p,r)→p→CSpec P 54 args r:=onV1_ok (fun a h=>by exact vZero_spec hP a h) args p r
theorem vOf_spec (hP:PrgOk P) (x y z:Rat):CSpec P 103 [(.agg [.opq (.frac (x)),.pad,.pad,.pad,.pad]),(.agg [.opq (.frac (y)),.pad,.pad,.pad,.pad]),(.agg [.opq (.frac (z)),.pad,.pad,.pad,.pad])] (.agg [.opq (.frac (x)),.pad,.pad,.pad,.pad,.opq (.frac (y)),.pad,.pad,.pad,.pad,.opq (.frac (z)),.pad,.pad,.pad,.pad]):=by
 have HE:=Vt2_all hP TF hP.tF
 refine CSpec_go (E:=⟨TF,Vt2⟩) (fn103 hP) HE hP.mix ?_
 simp only [go_sem]
 exact fin_z
noncomputable def vOfS:List AV→Option (Prop × AV)
 | [x,y,z]=>(rawF x).bind fun x=>(rawF y).bind fun y=>(rawF z).map fun z=>(x.1∧y.1∧z.1,(.agg [.opq (.frac (x.2)),.pad,.pad,.pad,.pad,.opq (.frac (y.2)),.pad,.pad,.pad,.pad,.opq (.frac (z.2)),.pad,.pad,.pad,.pad]))
 | _=>none
theorem vOfS_eq (x y z):vOfS [x,y,z]=(rawF x).bind fun x=>(rawF y).bind fun y=>(rawF z).map fun z=>(x.1∧y.1∧z.1,(.agg [.opq (.frac (x.2)),.pad,.pad,.pad,.pad,.opq (.frac (y.2)),.pad,.pad,.pad,.pad,.opq (.frac (z.2)),.pad,.pad,.pad,.pad])):=rfl
theorem vOfS_ok (hP:PrgOk P) (args p r) (he:vOfS args=some (p,r)) (hp:p):CSpec P 103 args r:=by
 unfold vOfS at he
 split at he
 · simp only [Option.bind_eq_some_iff,Option.map_eq_some_iff,Prod.exists,Prod.mk.injEq] at he
   obtain ⟨q,x,h1,q',y,h2,q'',z,h3,rfl,rfl⟩:=he
   exact (vOf_spec hP x y z).cv (rawF_cv h1 hp.1 (rawF_cv h2 hp.2.1 (rawF_cv h3 hp.2.2 .nil)))
 · simp at he
theorem vPoint_spec (hP:PrgOk P) (a:V3) (ha:fV a FB):CSpec P 90 [(.agg [.opq (.frac (a.1)),.pad,.pad,.pad,.pad,.opq (.frac (a.2.1)),.pad,.pad,.pad,.pad,.opq (.frac (a.2.2)),.pad,.pad,.pad,.pad])] (.agg [.str (qtS a.1),.str (qtS a.2.1),.str (qtS a.2.2)]):=by
 have HE:=Vt2_all hP TF hP.tF
 obtain ⟨a1,a2,a3⟩:=ha
 refine CSpec_go (E:=⟨TF,Vt2⟩) (fn90 hP) HE hP.mix ?_
 simp only [go_sem,a1,a2,a3]
 exact fin_z
noncomputable def vPointS:List AV→Option (Prop × AV):=onV1 fun a=>(fV a FB,.agg [.str (qtS a.1),.str (qtS a.2.1),.str (qtS a.2.2)])
theorem vPointS_ok (hP:PrgOk P) (args p r):vPointS args=some (p,r)→p→CSpec P 90 args r:=onV1_ok (fun a h=>by exact vPoint_spec hP a h) args p r
attribute [go_sem] vDotS vCmpS vZeroS vOfS_eq vPointS
noncomputable def Vt3:Nat→List AV→Option (Prop × AV):=addS (addS (addS (addS (addS (addS (addS (addS Vt2 31 vDotS) 47 vCmpS) 21 vXS) 22 vYS) 23 vZS) 54 vZeroS) 103 vOfS) 90 vPointS
theorem Vt3_all (hP:PrgOk P) (T) (hT:TyOk P T):EnvOk P ⟨T,Vt3⟩:=(((((((((Vt2_all hP T hT).add (vDotS_ok hP)).add (vCmpS_ok hP)).add (vXS_ok hP)).add (vYS_ok hP)).add (vZS_ok hP)).add (vZeroS_ok hP)).add (vOfS_ok hP)).add (vPointS_ok hP))
theorem Vt3_at (f a):Vt3 f a=(addS (addS (addS (addS (addS (addS (addS (addS Vt2 31 vDotS) 47 vCmpS) 21 vXS) 22 vYS) 23 vZS) 54 vZeroS) 103 vOfS) 90 vPointS) f a:=rfl
attribute [go_sem] Vt3_at
theorem fl_i64 {n:Int} (h1 : -9223372036854775808≤n) (h2:n≤9223372036854775807):fl ((n:Int):Rat)≤64:=fl_int ((blen_le_iff _ _).2 (by omega)) (by decide)
theorem vInts_spec (hP:PrgOk P) (x y z:Int) (hx : -9223372036854775808≤x∧x≤9223372036854775807) (hy : -9223372036854775808≤y∧y≤9223372036854775807) (hz : -9223372036854775808≤z∧z≤9223372036854775807):CSpec P 51 [.int .i64 x,.int .i64 y,.int .i64 z] (.agg [.opq (.frac ((x:Rat))),.pad,.pad,.pad,.pad,.opq (.frac ((y:Rat))),.pad,.pad,.pad,.pad,.opq (.frac ((z:Rat))),.pad,.pad,.pad,.pad]):=by
 have HE:=Vt3_all hP TF hP.tF
 obtain ⟨x1,x2⟩:=hx
 obtain ⟨y1,y2⟩:=hy
 obtain ⟨z1,z2⟩:=hz
 refine CSpec_go (E:=⟨TF,Vt3⟩) (fn51 hP) HE hP.mix ?_
 simp only [go_sem,x1,x2,y1,y2,z1,z2]
 exact fin_z
def vIntsS:List AV→Option (Prop × AV)
 | [.int .i64 x,.int .i64 y,.int .i64 z]=>some ((-9223372036854775808≤x∧x≤9223372036854775807)∧(-9223372036854775808≤y∧y≤9223372036854775807)∧(-9223372036854775808≤z∧z≤9223372036854775807),(.agg [.opq (.frac ((x:Rat))),.pad,.pad,.pad,.pad,.opq (.frac ((y:Rat))),.pad,.pad,.pad,.pad,.opq (.frac ((z:Rat))),.pad,.pad,.pad,.pad]))
 | _=>none
theorem vIntsS_ok (hP:PrgOk P) (args p r) (h:vIntsS args=some (p,r)) (hp:p):CSpec P 51 args r:=by
 unfold vIntsS at h
 split at h
 · simp only [Option.some.injEq,Prod.mk.injEq] at h
   obtain ⟨rfl,rfl⟩:=h
   exact vInts_spec hP _ _ _ hp.1 hp.2.1 hp.2.2
 · simp at h
noncomputable def vcq (a b:V3):V3:=(qsub (qmul a.2.1 b.2.2) (qmul a.2.2 b.2.1),qsub (qmul a.2.2 b.1) (qmul a.1 b.2.2),qsub (qmul a.1 b.2.1) (qmul a.2.1 b.1))
noncomputable def Vt4:Nat→List AV→Option (Prop × AV):=addS Vt3 51 vIntsS
theorem Vt4_all (hP:PrgOk P) (T) (hT:TyOk P T):EnvOk P ⟨T,Vt4⟩:=((Vt3_all hP T hT).add (vIntsS_ok hP))
attribute [go_sem] vIntsS
theorem Vt4_at (f a):Vt4 f a=(addS Vt3 51 vIntsS) f a:=rfl
attribute [go_sem] Vt4_at
noncomputable def parV (x y z:List Nat):V3 × Int :=
 if (parF x).2=0 then (if (parF y).2=0 then (if (parF z).2=0 then (((parF x).1,(parF y).1,(parF z).1),0) else (v0,(parF z).2)) else (v0,(parF y).2)) else (v0,(parF x).2)
theorem parV_fl (x y z):fV (parV x y z).1 1024:=by
 have h0:fV v0 1024:=⟨fl_zero _,fl_zero _,fl_zero _⟩
 unfold parV; split
 · split
   · split
     · exact ⟨parF_fl _,parF_fl _,parF_fl _⟩
     · exact h0
   · exact h0
 · exact h0
theorem vParse_spec (hP:PrgOk P) (x y z:ByteArray) (hx:(bl x).length≤140737488355328) (hy:(bl y).length≤140737488355328) (hz:(bl z).length≤140737488355328):CSpec P 48 [.agg [.str x,.str y,.str z]] (.tup [(.agg [.opq (.frac ((parV (bl x) (bl y) (bl z)).1.1)),.pad,.pad,.pad,.pad,.opq (.frac ((parV (bl x) (bl y) (bl z)).1.2.1)),.pad,.pad,.pad,.pad,.opq (.frac ((parV (bl x) (bl y) (bl z)).1.2.2)),.pad,.pad,.pad,.pad]),.int .i64 (parV (bl x) (bl y) (bl z)).2]):=by
 have HE:=Vt4_all hP TF hP.tF
 have hx':(bl x).length≤140737488355328:=by omega
 have hy':(bl y).length≤140737488355328:=by omega
 have hz':(bl z).length≤140737488355328:=by omega
 have w1:IntKind.i64.wrap (0+1)=1:=rfl
 have w2:IntKind.i64.wrap (1+1)=2:=rfl
 have w3:IntKind.i64.wrap (2+1)=3:=rfl
 have n1:(1:Int).toNat=1:=rfl
 have n2:(2:Int).toNat=2:=rfl
 have le1:((0:Int)≤1)=True:=eq_true (by decide)
 have le2:((0:Int)≤2)=True:=eq_true (by decide)
 unfold parV
 refine CSpec_go (E:=⟨TF,Vt4⟩) (fn48 hP) HE hP.mix ?_
 simp only [go_sem]
 refine trX_once HE hP.mix 35 150 (by kernel_rfl) ?_
 by_cases c1:(parF (bl x)).2=0
 · have c1':((parF (bl x)).2 != 0)=false:=by rw [c1]; rfl
   rw [if_pos c1]
   simp only [go_sem,w1,hx',c1']
   refine goX_once HE hP.mix 35 200 (by kernel_rfl) ?_
   by_cases c2:(parF (bl y)).2=0
   · have c2':((parF (bl y)).2 != 0)=false:=by rw [c2]; rfl
     rw [if_pos c2]
     simp only [go_sem,w2,n1,le1,hy',c2']
     refine goX_once HE hP.mix 35 250 (by kernel_rfl) ?_
     by_cases c3:(parF (bl z)).2=0
     · have c3':((parF (bl z)).2 != 0)=false:=by rw [c3]; rfl
       rw [if_pos c3]
       simp only [go_sem,w3,n2,le2,hz',c3']
       refine goX_once HE hP.mix 35 300 (by kernel_rfl) ?_
       simp only [go_sem]
       exact fin_z
     · have c3':((parF (bl z)).2 != 0)=true:=by simpa using c3
       rw [if_neg c3]
       simp only [go_sem,w3,n2,le2,hz',c3']
       exact fin_z
   · have c2':((parF (bl y)).2 != 0)=true:=by simpa using c2
     rw [if_neg c2]
     simp only [go_sem,w2,n1,le1,hy',c2']
     exact fin_z
 · have c1':((parF (bl x)).2 != 0)=true:=by simpa using c1
   rw [if_neg c1]
   simp only [go_sem,w1,hx',c1']
   exact fin_z
noncomputable def vParseS:List AV→Option (Prop × AV)
 | [.agg [.str x,.str y,.str z]]=>some ((bl x).length≤140737488355328∧(bl y).length≤140737488355328∧(bl z).length≤140737488355328,.tup [(.agg [.opq (.frac ((parV (bl x) (bl y) (bl z)).1.1)),.pad,.pad,.pad,.pad,.opq (.frac ((parV (bl x) (bl y) (bl z)).1.2.1)),.pad,.pad,.pad,.pad,.opq (.frac ((parV (bl x) (bl y) (bl z)).1.2.2)),.pad,.pad,.pad,.pad]),.int .i64 (parV (bl x) (bl y) (bl z)).2])
 | _=>none
theorem vParseS_ok (hP:PrgOk P) (args p r) (h:vParseS args=some (p,r)) (hp:p):CSpec P 48 args r:=by
 unfold vParseS at h
 split at h
 · simp only [Option.some.injEq,Prod.mk.injEq] at h
   obtain ⟨rfl,rfl⟩:=h
   exact vParse_spec hP _ _ _ hp.1 hp.2.1 hp.2.2
 · simp at h
attribute [go_sem] vParseS
noncomputable def Vt5:Nat→List AV→Option (Prop × AV):=addS Vt4 48 vParseS
theorem Vt5_all (hP:PrgOk P) (T) (hT:TyOk P T):EnvOk P ⟨T,Vt5⟩:=((Vt4_all hP T hT).add (vParseS_ok hP))
theorem Vt5_at (f a):Vt5 f a=(addS Vt4 48 vParseS) f a:=rfl
attribute [go_sem] Vt5_at
end Go.Proofs.YtmahhmdeocnlgaaGreatDoor.AM
