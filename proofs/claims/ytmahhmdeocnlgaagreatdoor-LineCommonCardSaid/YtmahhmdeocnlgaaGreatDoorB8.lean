/- The document's numbers: texts that are numbers. -/
import Derived.Test.YtmahhmdeocnlgaaGreatDoorB7
import Derived.Test.YtmahhmdeocnlgaaGreatDoorB3
namespace Go.Proofs.YtmahhmdeocnlgaaGreatDoor.AM
set_option linter.all false
set_option autoImplicit true
set_option relaxedAutoImplicit true
open Go Go.Proofs
set_option maxRecDepth 100000
set_option maxHeartbeats 8000000
set_option linter.unusedSimpArgs false
variable {P:Program}
instance okD_dec (l:List Nat):Decidable (okD l):=by unfold okD; infer_instance
theorem rDigits_spec (hP:PrgOk P) (s:ByteArray) (hsz:(bl s).length≤281474976710656):CSpec P 92 [.str s] (.bool (decide (okD (bl s)))):=by
 have HE:=Sn_ok hP
 refine CSpec_go (E:=⟨T0,Sn⟩) (fn92 hP) HE hP.mix ?_
 obtain ⟨l,hl⟩:∃ l,bl s=l:=⟨_,rfl⟩
 rw [hl] at hsz ⊢
 by_cases h1:l=[]
 · have h1':(l.length == 0)=true:=by rw [h1]; rfl
   have hno:decide (okD l)=false:=decide_eq_false fun h=>h.1 h1
   simp only [go_sem,size_bl,get_bl,hl,h1']
   rw [hno]; exact .refl _
 · have h1':(l.length == 0)=false:=beq_eq_false_iff_ne.2 fun h=>h1 (List.length_eq_zero_iff.1 h)
   by_cases h2:1<l.length
   · rcases (by cases (l.getD 0 0 == 48)<;>simp:(l.getD 0 0 == 48)=true∨(l.getD 0 0 == 48)=false) with h3|h3
     · have hno:decide (okD l)=false:=decide_eq_false fun h=>h.2.1 ⟨h2,by simpa using h3⟩
       simp only [go_sem,size_bl,get_bl,hl,h1',h2,h3]
       rw [hno]
       exact ⟨by omega,.refl _⟩
     · have h0:¬ (1<l.length∧l.getD 0 0=48):=fun h=>by simp at h3; exact h3 (by simpa using h.2)
       simp only [go_sem,size_bl,get_bl,hl,h1',h2,h3]
       refine ⟨by omega,?_⟩
       refine trX_loop HE hP.mix [] (fun k:Nat=>⟨upd (upd (fun _=>.junk) 0 (.str s)) 3 (.int .i64 (k:Int)),fun _=>.unused,33⟩)
        (fun k=>k≤l.length∧∀ c ∈ l.take k,48≤c∧c≤57) (fun k=>l.length-k) 0 10
        Has.z (Kept.of rfl KT.z KM.z) ⟨Nat.zero_le _,by simp⟩ 33 (by kernel_rfl) ?_
       rintro k ⟨k1,k2⟩
       by_cases hk:k<l.length
       · have hw:=wi_add1 k (by omega)
         have hb:=bl_lt s
         rw [hl] at hb
         have hkb:=hb _ (getD_mem hk)
         by_cases ha:l.getD k 0<48
         · have hno:decide (okD l)=false:=decide_eq_false fun h=>by have:=h.2.2 _ (getD_mem hk); omega
           have ha':decide (((l.getD k 0:Nat):Int)<48)=true:=decide_eq_true (by omega)
           simp only [go_sem,size_bl,get_bl,hl,hk,ha,ha',Int.toNat_natCast]
           rw [hno]; exact .refl _
         · have ha':decide (((l.getD k 0:Nat):Int)<48)=false:=decide_eq_false (by omega)
           by_cases hc:57<l.getD k 0
           · have hno:decide (okD l)=false:=decide_eq_false fun h=>by have:=h.2.2 _ (getD_mem hk); omega
             simp only [go_sem,size_bl,get_bl,hl,hk,ha,ha',Int.toNat_natCast,hc]
             rw [hno]; exact .refl _
           · simp only [go_sem,size_bl,get_bl,hl,hk,ha,ha',Int.toNat_natCast,hc,hw]
             exact ⟨k+1,Kept.of rfl KT.z KM.z,⟨by omega,fun c hcm=>by
              rw [take_snoc hk] at hcm
              rcases List.mem_append.1 hcm with hcm|hcm
              · exact k2 c hcm
              · rw [List.mem_singleton.1 hcm]; omega⟩,by omega⟩
       · have hyes:decide (okD l)=true:=decide_eq_true ⟨h1,h0,by rwa [List.take_of_length_le (by omega)] at k2⟩
         simp only [go_sem,size_bl,get_bl,hl,hk]
         rw [hyes]; exact .refl _
   · have h0:¬ (1<l.length∧l.getD 0 0=48):=fun h=>h2 h.1
     simp only [go_sem,size_bl,get_bl,hl,h1',h2]
     refine trX_loop HE hP.mix [] (fun k:Nat=>⟨upd (upd (fun _=>.junk) 0 (.str s)) 3 (.int .i64 (k:Int)),fun _=>.unused,33⟩)
      (fun k=>k≤l.length∧∀ c ∈ l.take k,48≤c∧c≤57) (fun k=>l.length-k) 0 10
      Has.z (Kept.of rfl KT.z KM.z) ⟨Nat.zero_le _,by simp⟩ 33 (by kernel_rfl) ?_
     rintro k ⟨k1,k2⟩
     by_cases hk:k<l.length
     · have hw:=wi_add1 k (by omega)
       have hb:=bl_lt s
       rw [hl] at hb
       have hkb:=hb _ (getD_mem hk)
       by_cases ha:l.getD k 0<48
       · have hno:decide (okD l)=false:=decide_eq_false fun h=>by have:=h.2.2 _ (getD_mem hk); omega
         have ha':decide (((l.getD k 0:Nat):Int)<48)=true:=decide_eq_true (by omega)
         simp only [go_sem,size_bl,get_bl,hl,hk,ha,ha',Int.toNat_natCast]
         rw [hno]; exact .refl _
       · have ha':decide (((l.getD k 0:Nat):Int)<48)=false:=decide_eq_false (by omega)
         by_cases hc:57<l.getD k 0
         · have hno:decide (okD l)=false:=decide_eq_false fun h=>by have:=h.2.2 _ (getD_mem hk); omega
           simp only [go_sem,size_bl,get_bl,hl,hk,ha,ha',Int.toNat_natCast,hc]
           rw [hno]; exact .refl _
         · simp only [go_sem,size_bl,get_bl,hl,hk,ha,ha',Int.toNat_natCast,hc,hw]
           exact ⟨k+1,Kept.of rfl KT.z KM.z,⟨by omega,fun c hcm=>by
            rw [take_snoc hk] at hcm
            rcases List.mem_append.1 hcm with hcm|hcm
            · exact k2 c hcm
            · rw [List.mem_singleton.1 hcm]; omega⟩,by omega⟩
     · have hyes:decide (okD l)=true:=decide_eq_true ⟨h1,h0,by rwa [List.take_of_length_le (by omega)] at k2⟩
       simp only [go_sem,size_bl,get_bl,hl,hk]
       rw [hyes]; exact .refl _
def DigitsS:List AV→Option (Prop × AV)
 | [.str s]=>some ((bl s).length≤281474976710656,.bool (decide (okD (bl s))))
 | _=>none
theorem DigitsS_ok (hP:PrgOk P) (args p r) (h:DigitsS args=some (p,r)) (hp:p):CSpec P 92 args r:=by
 unfold DigitsS at h
 split at h
 · simp only [Option.some.injEq,Prod.mk.injEq] at h
   obtain ⟨rfl,rfl⟩:=h
   exact rDigits_spec hP _ hp
 · simp at h
attribute [go_sem] DigitsS
noncomputable def So:Nat→List AV→Option (Prop × AV):=addS (addS (addS Sn 125 rGcdS) 142 rTextS) 92 DigitsS
theorem So_ok (hP:PrgOk P):EnvOk P ⟨T0,So⟩:=((((Sn_ok hP).add (rGcdS_ok hP)).add (rTextS_ok hP)).add (DigitsS_ok hP))
theorem So_at (f a):So f a=(addS (addS (addS Sn 125 rGcdS) 142 rTextS) 92 DigitsS) f a:=rfl
attribute [go_sem] So_at
theorem valL_blen4 {l:List Nat} (h:∀ c ∈ l,c≤57):blen (valL l)≤4*l.length:=by
 have h1:=valL_lt (l:=l) h
 have h4:10^l.length≤16^l.length:=Nat.pow_le_pow_left (by decide) _
 have h5:(16:Nat)^l.length=2^(4*l.length):=by rw [show (16:Nat)=2^4 from rfl,← Nat.pow_mul]
 rw [blen_le_iff,← h5]; exact Nat.lt_of_lt_of_le h1 h4
theorem rParse_spec (hP:PrgOk P) (s:ByteArray) (hsz:(bl s).length≤8589934592) (hd:∀ c ∈ bl s,48≤c∧c≤57):CSpec P 95 [.str s] (.imm (digs 65536 (valL (bl s))).length (List.map (fun d:Nat=>AV.int .u32 (d:Int)) (digs 65536 (valL (bl s))))):=by
 have HE:=So_ok hP
 have h10:blen 10≤68719476736:=by decide
 have h10i:(10:Int).toNat=10:=rfl
 refine CSpec_go (E:=⟨T0,So⟩) (fn95 hP) HE hP.mix ?_
 obtain ⟨l,hl⟩:∃ l,bl s=l:=⟨_,rfl⟩
 rw [hl] at hsz hd ⊢
 simp only [go_sem,size_bl,get_bl,hl]
 refine trX_loop HE hP.mix [] (fun k:Nat × Option Nat=>⟨upd (upd (upd (fun _=>.junk) 0 (.str s)) 3 (rv k.2)) 4 (.int .i64 (k.1:Int)),fun _=>.unused,22⟩)
  (fun k=>k.1≤l.length∧ru k.2=valL (l.take k.1)) (fun k=>l.length-k.1) (0,none) 10
  Has.z (Kept.of rfl KT.z KM.z) ⟨Nat.zero_le _,rfl⟩ 22 (by kernel_rfl) ?_
 rintro ⟨k,r⟩ ⟨k1,k2⟩
 simp only [] at k1 k2
 by_cases hk:k<l.length
 · have hw:=wi_add1 k (by omega)
   have hkb:=hd _ (getD_mem hk)
   have hvb:blen (valL (l.take k))≤34359738368:=by
    have:=valL_blen4 (l:=l.take k) (fun c hc=>(hd c (List.mem_of_mem_take hc)).2)
    rw [List.length_take,Nat.min_eq_left k1] at this
    omega
   have hst:=valL_take_succ hk
   obtain ⟨d,hdd⟩:∃ d,l.getD k 0-48=d:=⟨_,rfl⟩
   have f1:IntKind.u8.wrap (((l.getD k 0:Nat):Int)-48)=(d:Int):=by rw [IntKind.wrap_u8]; omega
   have f2:IntKind.u64.wrap (d:Int)=(d:Int):=by rw [IntKind.wrap_u64]; omega
   have f3:((0:Int)≤(d:Int))=True:=eq_true (by omega)
   have f4:((d:Int)<18446744073709551616)=True:=eq_true (by omega)
   cases r with
   | none =>
     simp only [rv]
     simp only [go_sem,size_bl,get_bl,hl,hk,Int.toNat_natCast,f1,f2,f3,f4,h10,h10i,hw]
     have hdb:blen d≤68719476736:=Nat.le_trans (blen_17 (by omega)) (by decide)
     refine ⟨by decide,by decide,⟨by decide,hdb⟩,(k+1,some (d)),Kept.of rfl KT.z KM.z,⟨by simp only []; omega,?_⟩,by simp only []; omega⟩
     simp only [ru] at k2 ⊢
     rw [hst,hdd,← k2]; omega
   | some r =>
     have k2:r=valL (l.take k):=k2
     have hvb:blen r≤34359738368:=by rw [k2]; exact hvb
     simp only [rv]
     simp only [go_sem,size_bl,get_bl,hl,hk,Int.toNat_natCast,f1,f2,f3,f4,h10,h10i,hw]
     have hdb:blen d≤68719476736:=Nat.le_trans (blen_17 (by omega)) (by decide)
     refine ⟨by decide,Nat.le_trans hvb (by decide),⟨Nat.le_trans (blen_mul_le hvb (show blen 10≤4 by decide)) (by decide),hdb⟩,(k+1,some (r*10+d)),Kept.of rfl KT.z KM.z,⟨by simp only []; omega,?_⟩,by simp only []; omega⟩
     simp only [ru] at k2 ⊢
     rw [hst,hdd,← k2]; omega
 · have htk:l.take k=l:=List.take_of_length_le (by omega)
   rw [htk] at k2
   cases r with
   | none =>
     simp only [rv]
     simp only [go_sem,size_bl,get_bl,hl,hk]
     rw [← k2]
     have e:digs 65536 0=[]:=digs_zero _
     simp only [ru,e]
     exact CvL.conv (.nilR .nil)
   | some r =>
     simp only [rv]
     simp only [go_sem,size_bl,get_bl,hl,hk]
     rw [← k2]
     exact .refl _
def rParseS:List AV→Option (Prop × AV)
 | [.str s]=>some ((bl s).length≤8589934592∧∀ c ∈ bl s,48≤c∧c≤57,(.imm (digs 65536 (valL (bl s))).length (List.map (fun d:Nat=>AV.int .u32 (d:Int)) (digs 65536 (valL (bl s))))))
 | _=>none
theorem rParseS_ok (hP:PrgOk P) (args p r) (h:rParseS args=some (p,r)) (hp:p):CSpec P 95 args r:=by
 unfold rParseS at h
 split at h
 · simp only [Option.some.injEq,Prod.mk.injEq] at h
   obtain ⟨rfl,rfl⟩:=h
   exact rParse_spec hP _ hp.1 hp.2
 · simp at h
attribute [go_sem] rParseS
noncomputable def Sp:Nat→List AV→Option (Prop × AV):=addS So 95 rParseS
theorem Sp_ok (hP:PrgOk P):EnvOk P ⟨T0,Sp⟩:=((So_ok hP).add (rParseS_ok hP))
theorem Sp_at (f a):Sp f a=(addS So 95 rParseS) f a:=rfl
attribute [go_sem] Sp_at
def rOfA:List AV→Option (Prop × AV)
 | [.int .u64 n]=>some (0≤n∧n<18446744073709551616,(.opq (.rnat (n.toNat))))
 | _=>none
theorem rOfA_ok (hP:PrgOk P) (args p r) (h:rOfA args=some (p,r)) (hp:p):CSpec P 123 args r:=by
 unfold rOfA at h
 split at h
 · simp only [Option.some.injEq,Prod.mk.injEq] at h
   obtain ⟨rfl,rfl⟩:=h
   exact (rOfS_ok hP _ _ _ rfl hp).conv (.rnat _)
 · simp at h
def rAddA:List AV→Option (Prop × AV):=onR2 fun a b=>(blen a≤68719476736∧blen b≤68719476736,(.opq (.rnat (a+b))))
theorem rAddA_ok (hP:PrgOk P) (args p r):rAddA args=some (p,r)→p→CSpec P 139 args r:=onR2_ok (fun a b h=>by exact (rAdd_spec hP a b h.1 h.2).conv (.rnat _)) args p r
def rSubA:List AV→Option (Prop × AV):=onR2 fun a b=>(blen a≤68719476736∧b≤a,(.opq (.rnat (a-b))))
theorem rSubA_ok (hP:PrgOk P) (args p r):rSubA args=some (p,r)→p→CSpec P 162 args r:=onR2_ok (fun a b h=>by exact (rSub_spec hP a b h.1 h.2).conv (.rnat _)) args p r
def rMulA:List AV→Option (Prop × AV):=onR2 fun a b=>(blen a≤68719476736∧blen b≤68719476736,(.opq (.rnat (a*b))))
theorem rMulA_ok (hP:PrgOk P) (args p r):rMulA args=some (p,r)→p→CSpec P 126 args r:=onR2_ok (fun a b h=>by exact (rMul_spec hP a b h.1 h.2).conv (.rnat _)) args p r
theorem Conv.rnat2 (a b:Nat):Conv (.tup [(.imm (digs 65536 (a)).length (List.map (fun d:Nat=>AV.int .u32 (d:Int)) (digs 65536 (a)))),(.imm (digs 65536 (b)).length (List.map (fun d:Nat=>AV.int .u32 (d:Int)) (digs 65536 (b))))]) (.tup [(.opq (.rnat (a))),(.opq (.rnat (b)))]):=CvL.conv (CvL.tup (fun W φ w l hl=>by
 obtain ⟨v,vs,rfl,h1,h2⟩:=hl.uncons rfl
 obtain ⟨v',rfl,h2⟩:=h2.one
 exact (Conv.rnat a _ _ _ _ h1).app (Conv.rnat b _ _ _ _ h2)) .nil)
def rDivA:List AV→Option (Prop × AV):=onR2 fun a b=>(blen a≤68719476736∧blen b≤34359738368∧0<b,.tup [(.opq (.rnat (a / b))),(.opq (.rnat (a % b)))])
theorem rDivA_ok (hP:PrgOk P) (args p r):rDivA args=some (p,r)→p→CSpec P 124 args r:=onR2_ok (fun a b h=>by exact (rDiv_spec hP a b h.1 h.2.1 h.2.2).conv (.rnat2 _ _)) args p r
def rGcdA:List AV→Option (Prop × AV):=onR2 fun a b=>(blen a≤34359738368∧blen b≤34359738368,(.opq (.rnat (Nat.gcd a b))))
theorem rGcdA_ok (hP:PrgOk P) (args p r):rGcdA args=some (p,r)→p→CSpec P 125 args r:=onR2_ok (fun a b h=>by exact (rGcd_spec hP a b h.1 h.2).conv (.rnat _)) args p r
def rParseA:List AV→Option (Prop × AV)
 | [.str s]=>some ((bl s).length≤8589934592∧∀ c ∈ bl s,48≤c∧c≤57,(.opq (.rnat (valL (bl s)))))
 | _=>none
theorem rParseA_ok (hP:PrgOk P) (args p r) (h:rParseA args=some (p,r)) (hp:p):CSpec P 95 args r:=by
 unfold rParseA at h
 split at h
 · simp only [Option.some.injEq,Prod.mk.injEq] at h
   obtain ⟨rfl,rfl⟩:=h
   exact (rParse_spec hP _ hp.1 hp.2).conv (.rnat _)
 · simp at h
attribute [go_sem] rOfA rAddA rSubA rMulA rDivA rGcdA rParseA
noncomputable def Sr:Nat→List AV→Option (Prop × AV):=addS (addS (addS (addS (addS (addS (addS Sp 123 rOfA) 139 rAddA) 162 rSubA) 126 rMulA) 124 rDivA) 125 rGcdA) 95 rParseA
theorem Sr_all (hP:PrgOk P) (T) (hT:TyOk P T):EnvOk P ⟨T,Sr⟩:=(((((((((Sp_ok hP).re hT).add (rOfA_ok hP)).add (rAddA_ok hP)).add (rSubA_ok hP)).add (rMulA_ok hP)).add (rDivA_ok hP)).add (rGcdA_ok hP)).add (rParseA_ok hP))
theorem Sr_at (f a):Sr f a=(addS (addS (addS (addS (addS (addS (addS Sp 123 rOfA) 139 rAddA) 162 rSubA) 126 rMulA) 124 rDivA) 125 rGcdA) 95 rParseA) f a:=rfl
attribute [go_sem] Sr_at
def wC (z:Int):List AV:=[.bool (decide (z<0)),.opq (.nat z.natAbs),.pad]
theorem CvL.wholeIn (z:Int) {xs bs} (h:CvL xs bs):CvL ((.agg [.opq (.whole (z)),.pad,.pad])::xs) (.agg (wC z)::bs):=.agg (by simpa [Pay.open,Pay.width,wC] using CvL.unfold (.whole z) []) h
theorem CvL.wholeOut (z:Int) {xs bs} (h:CvL xs bs):CvL (.agg (wC z)::xs) ((.agg [.opq (.whole (z)),.pad,.pad])::bs):=.agg (by simpa [Pay.open,Pay.width,wC] using CvL.fold (.whole z) [] rfl) h
theorem Conv.whole (z:Int):Conv (.agg (wC z)) (.agg [.opq (.whole (z)),.pad,.pad]):=CvL.conv (.wholeOut z .nil)
def sg (m:Bool) (a:Nat):Int:=if m then -(a:Int) else a
theorem sg_t (a:Nat):sg true a = -(a:Int):=rfl
theorem sg_f (a:Nat):sg false a=(a:Int):=rfl
theorem sg_abs (m a):(sg m a).natAbs=a:=by cases m<;>simp [sg]
theorem sg_neg (m a):decide (sg m a<0)=(m && decide (0<a)):=by cases m<;>simp [sg]<;>omega
theorem sg_of (z:Int):sg (decide (z<0)) z.natAbs=z:=by
 unfold sg; by_cases h:z<0
 · rw [decide_eq_true h]; simp; omega
 · rw [decide_eq_false h]; simp; omega
def rawW:AV→Option (Prop × Int)
 | .agg [.opq (.whole z),.pad,.pad]=>some (True,z)
 | .agg [.bool m,.opq (.nat a),.pad]=>some (m=true→0<a,sg m a)
 | _=>none
theorem rawW_atom (z:Int):rawW (.agg [.opq (.whole (z)),.pad,.pad])=some (True,z):=rfl
theorem rawW_raw (m a):rawW (.agg [.bool m,.opq (.nat a),.pad])=some (m=true→0<a,sg m a):=rfl
theorem rawW_cv {v:AV} {p z} (h:rawW v=some (p,z)) (hp:p) {xs bs} (k:CvL xs bs):CvL (v::xs) ((.agg [.opq (.whole (z)),.pad,.pad])::bs):=by
 unfold rawW at h
 split at h
 · simp only [Option.some.injEq,Prod.mk.injEq] at h
   obtain ⟨rfl,rfl⟩:=h
   exact .agg (.refl _) k
 · simp only [Option.some.injEq,Prod.mk.injEq] at h
   obtain ⟨rfl,rfl⟩:=h
   rename_i m a
   have e:wC (sg m a)=[.bool m,.opq (.nat a),.pad]:=by
    unfold wC; rw [sg_abs,sg_neg]
    cases m
    · rfl
    · rw [decide_eq_true (hp rfl)]; rfl
   rw [← e]; exact .wholeOut _ k
 · simp at h
def onW1 (f:Int→Prop × AV):List AV→Option (Prop × AV)
 | [x]=>(rawW x).map fun a=>(a.1∧(f a.2).1,(f a.2).2)
 | _=>none
def onW2 (f:Int→Int→Prop × AV):List AV→Option (Prop × AV)
 | [x,y]=>(rawW x).bind fun a=>(rawW y).map fun b=>(a.1∧b.1∧(f a.2 b.2).1,(f a.2 b.2).2)
 | _=>none
theorem onW1_ok {fi:Nat} {f:Int→Prop × AV} (h:∀ a,(f a).1→CSpec P fi [(.agg [.opq (.whole (a)),.pad,.pad])] (f a).2) (args p r) (he:onW1 f args=some (p,r)) (hp:p):CSpec P fi args r:=by
 unfold onW1 at he
 split at he
 · simp only [Option.map_eq_some_iff,Prod.exists,Prod.mk.injEq] at he
   obtain ⟨q,a,h1,rfl,rfl⟩:=he
   exact (h a hp.2).cv (rawW_cv h1 hp.1 .nil)
 · simp at he
theorem onW2_ok {fi:Nat} {f:Int→Int→Prop × AV} (h:∀ a b,(f a b).1→CSpec P fi [(.agg [.opq (.whole (a)),.pad,.pad]),(.agg [.opq (.whole (b)),.pad,.pad])] (f a b).2) (args p r) (he:onW2 f args=some (p,r)) (hp:p):CSpec P fi args r:=by
 unfold onW2 at he
 split at he
 · simp only [Option.bind_eq_some_iff,Option.map_eq_some_iff,Prod.exists,Prod.mk.injEq] at he
   obtain ⟨q,a,h1,q',b,h2,rfl,rfl⟩:=he
   exact (h a b hp.2.2).cv (rawW_cv h1 hp.1 (rawW_cv h2 hp.2.1 .nil))
 · simp at he
theorem onW1_eq (f x):onW1 f [x]=(rawW x).map fun a=>(a.1∧(f a.2).1,(f a.2).2):=rfl
theorem onW2_eq (f x y):onW2 f [x,y]=(rawW x).bind fun a=>(rawW y).map fun b=>(a.1∧b.1∧(f a.2 b.2).1,(f a.2 b.2).2):=rfl
attribute [go_sem] rawW_atom rawW_raw onW1_eq onW2_eq
abbrev wl (z:Int):Nat:=blen z.natAbs
theorem wMake_spec (hP:PrgOk P) (m:Bool) (a:Nat) (ha:blen a≤68719476736):CSpec P 110 [.bool m,(.agg [.opq (.nat (a)),.pad])] (.agg [.opq (.whole (sg m a)),.pad,.pad]):=by
 have HE:=Sr_all hP T1 hP.t1
 refine CSpec.conv (r:=.agg (wC (sg m a))) ?_ (.whole _)
 unfold wC
 rw [sg_abs,sg_neg]
 refine CSpec_go (E:=⟨T1,Sr⟩) (fn110 hP) HE hP.mix ?_
 cases m
 · simp only [go_sem,ha]
   exact .refl _
 · rcases Nat.eq_zero_or_pos a with h|h
   · subst h
     have hb:blen 0=0:=by decide
     simp only [go_sem,ha,hb]
     exact .refl _
   · have hb:0<blen a:=by
      have:blen a ≠ 0:=by rw [Ne,blen_zero_iff]; omega
      omega
     simp only [go_sem,ha,hb,h]
     exact .refl _
def wMakeS:List AV→Option (Prop × AV)
 | [.bool m,x]=>(rawN x).map fun a=>(a.1∧blen a.2≤68719476736,(.agg [.opq (.whole (sg m a.2)),.pad,.pad]))
 | _=>none
theorem wMakeS_eq (m x):wMakeS [.bool m,x]=(rawN x).map fun a=>(a.1∧blen a.2≤68719476736,(.agg [.opq (.whole (sg m a.2)),.pad,.pad])):=rfl
theorem wMakeS_ok (hP:PrgOk P) (args p r) (he:wMakeS args=some (p,r)) (hp:p):CSpec P 110 args r:=by
 unfold wMakeS at he
 split at he
 · simp only [Option.map_eq_some_iff,Prod.exists,Prod.mk.injEq] at he
   obtain ⟨q,a,h1,rfl,rfl⟩:=he
   exact (wMake_spec hP _ a hp.2).cv (.cons rfl (rawN_cv h1 hp.1 .nil))
 · simp at he
attribute [go_sem] wMakeS_eq
noncomputable def Wt0:Nat→List AV→Option (Prop × AV):=addS Sr 110 wMakeS
theorem Wt0_all (hP:PrgOk P) (T) (hT:TyOk P T):EnvOk P ⟨T,Wt0⟩:=((Sr_all hP T hT).add (wMakeS_ok hP))
theorem Wt0_at (f a):Wt0 f a=(addS Sr 110 wMakeS) f a:=rfl
attribute [go_sem] Wt0_at
def sgnZ (z:Int):Int:=if z=0 then 0 else if z<0 then -1 else 1
def cmpZ (a b:Int):Int:=if a<b then -1 else if b<a then 1 else 0
theorem wSign_spec (hP:PrgOk P) (z:Int) (h:wl z≤68719476736):CSpec P 79 [(.agg [.opq (.whole (z)),.pad,.pad])] (.int .i64 (sgnZ z)):=by
 have HE:=Wt0_all hP T1 hP.t1
 refine CSpec.cv ?_ (.wholeIn z .nil)
 unfold wC
 refine CSpec_go (E:=⟨T1,Wt0⟩) (fn79 hP) HE hP.mix ?_
 unfold sgnZ
 unfold wl at h
 by_cases h0:z=0
 · have hb:(blen z.natAbs == 0)=true:=beq_iff_eq.2 ((blen_zero_iff _).2 (by omega))
   rw [if_pos h0]
   simp only [go_sem,h,hb]
   exact .refl _
 · have hb:(blen z.natAbs == 0)=false:=beq_eq_false_iff_ne.2 fun e=>h0 (by have:=(blen_zero_iff _).1 e; omega)
   rw [if_neg h0]
   by_cases h1:z<0
   · rw [if_pos h1]
     simp only [go_sem,h,hb,h1]
     exact .refl _
   · rw [if_neg h1]
     simp only [go_sem,h,hb,h1]
     exact .refl _
def wSignS:List AV→Option (Prop × AV):=onW1 fun a=>(wl a≤68719476736,.int .i64 (sgnZ a))
theorem wSignS_ok (hP:PrgOk P) (args p r):wSignS args=some (p,r)→p→CSpec P 79 args r:=onW1_ok (fun a h=>by exact wSign_spec hP a h) args p r
attribute [go_sem] wSignS
theorem wAbs_spec (hP:PrgOk P) (z:Int):CSpec P 120 [(.agg [.opq (.whole (z)),.pad,.pad])] (.agg [.opq (.nat (z.natAbs)),.pad]):=by
 have HE:=Wt0_all hP T1 hP.t1
 refine CSpec.cv ?_ (.wholeIn z .nil)
 unfold wC
 refine CSpec_go (E:=⟨T1,Wt0⟩) (fn120 hP) HE hP.mix ?_
 simp only [go_sem]
 exact .refl _
def wAbsS:List AV→Option (Prop × AV):=onW1 fun a=>(True,(.agg [.opq (.nat (a.natAbs)),.pad]))
theorem wAbsS_ok (hP:PrgOk P) (args p r):wAbsS args=some (p,r)→p→CSpec P 120 args r:=onW1_ok (fun a _=>by exact wAbs_spec hP a) args p r
attribute [go_sem] wAbsS
theorem wOf_spec (hP:PrgOk P) (n:Int) (h1 : -9223372036854775808≤n) (h2:n≤9223372036854775807):CSpec P 80 [.int .i64 n] (.agg [.opq (.whole (n)),.pad,.pad]):=by
 have HE:=Wt0_all hP T1 hP.t1
 refine CSpec.conv (r:=.agg (wC n)) ?_ (.whole _)
 unfold wC
 refine CSpec_go (E:=⟨T1,Wt0⟩) (fn80 hP) HE hP.mix ?_
 by_cases h:n<0
 · have e1:IntKind.u64.wrap n=n+18446744073709551616:=by rw [IntKind.wrap_u64]; omega
   have e2:IntKind.u64.wrap (0-(n+18446744073709551616)) = -n:=by rw [IntKind.wrap_u64]; omega
   have e3:((0:Int)≤-n)=True:=eq_true (by omega)
   have e4:(-n<18446744073709551616)=True:=eq_true (by omega)
   have e5:(-n).toNat=n.natAbs:=by omega
   simp only [go_sem,h,e1,e2,e3,e4,e5]
   exact .refl _
 · have e1:IntKind.u64.wrap n=n:=by rw [IntKind.wrap_u64]; omega
   have e3:((0:Int)≤n)=True:=eq_true (by omega)
   have e4:(n<18446744073709551616)=True:=eq_true (by omega)
   have e5:n.toNat=n.natAbs:=by omega
   simp only [go_sem,h,e1,e3,e4,e5]
   exact .refl _
def wOfS:List AV→Option (Prop × AV)
 | [.int .i64 n]=>some (-9223372036854775808≤n∧n≤9223372036854775807,(.agg [.opq (.whole (n)),.pad,.pad]))
 | _=>none
theorem wOfS_ok (hP:PrgOk P) (args p r) (h:wOfS args=some (p,r)) (hp:p):CSpec P 80 args r:=by
 unfold wOfS at h
 split at h
 · simp only [Option.some.injEq,Prod.mk.injEq] at h
   obtain ⟨rfl,rfl⟩:=h
   exact wOf_spec hP _ hp.1 hp.2
 · simp at h
attribute [go_sem] wOfS
theorem wCmp_spec (hP:PrgOk P) (a b:Int) (ha:wl a≤68719476736) (hb:wl b≤68719476736):CSpec P 85 [(.agg [.opq (.whole (a)),.pad,.pad]),(.agg [.opq (.whole (b)),.pad,.pad])] (.int .i64 (cmpZ a b)):=by
 have HE:=Wt0_all hP T1 hP.t1
 refine CSpec.cv ?_ (.wholeIn a (.wholeIn b .nil))
 unfold wC
 unfold wl at ha hb
 refine CSpec_go (E:=⟨T1,Wt0⟩) (fn85 hP) HE hP.mix ?_
 by_cases h1:a<0
 · by_cases h2:b<0
   · have e:cmpZ a b=cmpI b.natAbs a.natAbs:=by
      unfold cmpZ cmpI; repeat' split
      all_goals omega
     simp only [go_sem,h1,h2,ha,hb]
     rw [e]; exact .refl _
   · have e:cmpZ a b = -1:=by unfold cmpZ; rw [if_pos (by omega)]
     simp only [go_sem,h1,h2,ha,hb]
     rw [e]; exact .refl _
 · by_cases h2:b<0
   · have e:cmpZ a b=1:=by unfold cmpZ; rw [if_neg (by omega),if_pos (by omega)]
     simp only [go_sem,h1,h2,ha,hb]
     rw [e]; exact .refl _
   · have e:cmpZ a b=cmpI a.natAbs b.natAbs:=by
      unfold cmpZ cmpI; repeat' split
      all_goals omega
     simp only [go_sem,h1,h2,ha,hb]
     rw [e]; exact .refl _
def wCmpS:List AV→Option (Prop × AV):=onW2 fun a b=>(wl a≤68719476736∧wl b≤68719476736,.int .i64 (cmpZ a b))
theorem wCmpS_ok (hP:PrgOk P) (args p r):wCmpS args=some (p,r)→p→CSpec P 85 args r:=onW2_ok (fun a b h=>by exact wCmp_spec hP a b h.1 h.2) args p r
attribute [go_sem] wCmpS
theorem wNeg_spec (hP:PrgOk P) (a:Int) (ha:wl a≤68719476736):CSpec P 112 [(.agg [.opq (.whole (a)),.pad,.pad])] (.agg [.opq (.whole (-a)),.pad,.pad]):=by
 have HE:=Wt0_all hP T1 hP.t1
 refine CSpec.cv ?_ (.wholeIn a .nil)
 unfold wC
 unfold wl at ha
 refine CSpec_go (E:=⟨T1,Wt0⟩) (fn112 hP) HE hP.mix ?_
 have e:sg (!decide (a<0)) a.natAbs = -a:=by
  by_cases h:a<0
  · rw [decide_eq_true h]; simp [sg]; omega
  · rw [decide_eq_false h]; simp [sg]; omega
 simp only [go_sem,ha,e]
 exact .refl _
def wNegS:List AV→Option (Prop × AV):=onW1 fun a=>(wl a≤68719476736,(.agg [.opq (.whole (-a)),.pad,.pad]))
theorem wNegS_ok (hP:PrgOk P) (args p r):wNegS args=some (p,r)→p→CSpec P 112 args r:=onW1_ok (fun a h=>by exact wNeg_spec hP a h) args p r
attribute [go_sem] wNegS
theorem wAdd_spec (hP:PrgOk P) (a b:Int) (ha:wl a≤34359738368) (hb:wl b≤34359738368):CSpec P 138 [(.agg [.opq (.whole (a)),.pad,.pad]),(.agg [.opq (.whole (b)),.pad,.pad])] (.agg [.opq (.whole (a+b)),.pad,.pad]):=by
 have HE:=Wt0_all hP T1 hP.t1
 refine CSpec.cv ?_ (.wholeIn a (.wholeIn b .nil))
 unfold wC
 unfold wl at ha hb
 have hs:=Nat.le_trans (blen_add_le ha hb) (show _≤68719476736 by decide)
 have ha':=Nat.le_trans ha (show _≤68719476736 by decide)
 have hb':=Nat.le_trans hb (show _≤68719476736 by decide)
 refine CSpec_go (E:=⟨T1,Wt0⟩) (fn138 hP) HE hP.mix ?_
 by_cases h1:a<0
 · by_cases h2:b<0
   · have e:sg true (a.natAbs+b.natAbs)=a+b:=by rw [sg_t]; omega
     simp only [go_sem,h1,h2,ha',hb',hs,e]
     exact .refl _
   · rcases Nat.lt_or_ge a.natAbs b.natAbs with h|h
     · have hc:cmpI a.natAbs b.natAbs = -1:=cmpI_lt h
       have hn:(b.natAbs<a.natAbs)=False:=eq_false (by omega)
       have hd:=Nat.le_trans (blen_mono (Nat.sub_le b.natAbs a.natAbs)) hb'
       have e:sg false (b.natAbs-a.natAbs)=a+b:=by rw [sg_f]; omega
       simp only [go_sem,h1,h2,ha',hb',hc,hn,hd,e]
       exact .refl _
     · have hc:decide (cmpI a.natAbs b.natAbs<0)=false:=cmp_ge h
       have hn:(a.natAbs<b.natAbs)=False:=eq_false (by omega)
       have hd:=Nat.le_trans (blen_mono (Nat.sub_le a.natAbs b.natAbs)) ha'
       have e:sg true (a.natAbs-b.natAbs)=a+b:=by rw [sg_t]; omega
       simp only [go_sem,h1,h2,ha',hb',hc,hn,hd,e]
       exact .refl _
 · by_cases h2:b<0
   · rcases Nat.lt_or_ge a.natAbs b.natAbs with h|h
     · have hc:cmpI a.natAbs b.natAbs = -1:=cmpI_lt h
       have hn:(b.natAbs<a.natAbs)=False:=eq_false (by omega)
       have hd:=Nat.le_trans (blen_mono (Nat.sub_le b.natAbs a.natAbs)) hb'
       have e:sg true (b.natAbs-a.natAbs)=a+b:=by rw [sg_t]; omega
       simp only [go_sem,h1,h2,ha',hb',hc,hn,hd,e]
       exact .refl _
     · have hc:decide (cmpI a.natAbs b.natAbs<0)=false:=cmp_ge h
       have hn:(a.natAbs<b.natAbs)=False:=eq_false (by omega)
       have hd:=Nat.le_trans (blen_mono (Nat.sub_le a.natAbs b.natAbs)) ha'
       have e:sg false (a.natAbs-b.natAbs)=a+b:=by rw [sg_f]; omega
       simp only [go_sem,h1,h2,ha',hb',hc,hn,hd,e]
       exact .refl _
   · have e:sg false (a.natAbs+b.natAbs)=a+b:=by rw [sg_f]; omega
     simp only [go_sem,h1,h2,ha',hb',hs,e]
     exact .refl _
def wAddS:List AV→Option (Prop × AV):=onW2 fun a b=>(wl a≤34359738368∧wl b≤34359738368,(.agg [.opq (.whole (a+b)),.pad,.pad]))
theorem wAddS_ok (hP:PrgOk P) (args p r):wAddS args=some (p,r)→p→CSpec P 138 args r:=onW2_ok (fun a b h=>by exact wAdd_spec hP a b h.1 h.2) args p r
attribute [go_sem] wAddS
noncomputable def Wt1:Nat→List AV→Option (Prop × AV):=addS (addS (addS (addS (addS (addS Wt0 79 wSignS) 120 wAbsS) 80 wOfS) 85 wCmpS) 112 wNegS) 138 wAddS
theorem Wt1_all (hP:PrgOk P) (T) (hT:TyOk P T):EnvOk P ⟨T,Wt1⟩:=(((((((Wt0_all hP T hT).add (wSignS_ok hP)).add (wAbsS_ok hP)).add (wOfS_ok hP)).add (wCmpS_ok hP)).add (wNegS_ok hP)).add (wAddS_ok hP))
theorem Wt1_at (f a):Wt1 f a=(addS (addS (addS (addS (addS (addS Wt0 79 wSignS) 120 wAbsS) 80 wOfS) 85 wCmpS) 112 wNegS) 138 wAddS) f a:=rfl
attribute [go_sem] Wt1_at
theorem wl_neg (a:Int):wl (-a)=wl a:=by unfold wl; rw [Int.natAbs_neg]
theorem wSub_spec (hP:PrgOk P) (a b:Int) (ha:wl a≤34359738368) (hb:wl b≤34359738368):CSpec P 159 [(.agg [.opq (.whole (a)),.pad,.pad]),(.agg [.opq (.whole (b)),.pad,.pad])] (.agg [.opq (.whole (a-b)),.pad,.pad]):=by
 have HE:=Wt1_all hP T2 hP.t2
 have hb':=Nat.le_trans hb (show _≤68719476736 by decide)
 have e:a + -b=a-b:=rfl
 unfold wl at ha hb hb'
 refine CSpec_go (E:=⟨T2,Wt1⟩) (fn159 hP) HE hP.mix ?_
 simp only [go_sem,ha,hb,hb',wl,Int.natAbs_neg,e]
 exact .refl _
def wSubS:List AV→Option (Prop × AV):=onW2 fun a b=>(wl a≤34359738368∧wl b≤34359738368,(.agg [.opq (.whole (a-b)),.pad,.pad]))
theorem wSubS_ok (hP:PrgOk P) (args p r):wSubS args=some (p,r)→p→CSpec P 159 args r:=onW2_ok (fun a b h=>by exact wSub_spec hP a b h.1 h.2) args p r
attribute [go_sem] wSubS
theorem sg_mul (a b:Int):sg (!(decide (a<0) == decide (b<0))) (a.natAbs*b.natAbs)=a*b:=by
 rw [← Int.natAbs_mul]
 have ha:=sg_of a
 have hb:=sg_of b
 unfold sg at *
 by_cases h1:a<0<;>by_cases h2:b<0
 · have:=Int.mul_pos_of_neg_of_neg h1 h2; simp [h1,h2]; omega
 · have:=Int.mul_nonpos_of_nonpos_of_nonneg (Int.le_of_lt h1) (Int.not_lt.1 h2); simp [h1,h2]; omega
 · have:=Int.mul_nonpos_of_nonneg_of_nonpos (Int.not_lt.1 h1) (Int.le_of_lt h2); simp [h1,h2]; omega
 · have:=Int.mul_nonneg (Int.not_lt.1 h1) (Int.not_lt.1 h2); simp [h1,h2]; omega
theorem wMul_spec (hP:PrgOk P) (a b:Int) (ha:wl a≤34359738368) (hb:wl b≤34359738368):CSpec P 108 [(.agg [.opq (.whole (a)),.pad,.pad]),(.agg [.opq (.whole (b)),.pad,.pad])] (.agg [.opq (.whole (a*b)),.pad,.pad]):=by
 have HE:=Wt1_all hP T1 hP.t1
 refine CSpec.cv ?_ (.wholeIn a (.wholeIn b .nil))
 unfold wC
 unfold wl at ha hb
 have hs:=Nat.le_trans (blen_mul_le ha hb) (show _≤68719476736 by decide)
 have ha':=Nat.le_trans ha (show _≤68719476736 by decide)
 have hb':=Nat.le_trans hb (show _≤68719476736 by decide)
 refine CSpec_go (E:=⟨T1,Wt1⟩) (fn108 hP) HE hP.mix ?_
 simp only [go_sem,ha',hb',hs,sg_mul]
 exact .refl _
def wMulS:List AV→Option (Prop × AV):=onW2 fun a b=>(wl a≤34359738368∧wl b≤34359738368,(.agg [.opq (.whole (a*b)),.pad,.pad]))
theorem wMulS_ok (hP:PrgOk P) (args p r):wMulS args=some (p,r)→p→CSpec P 108 args r:=onW2_ok (fun a b h=>by exact wMul_spec hP a b h.1 h.2) args p r
attribute [go_sem] wMulS
noncomputable def Wt2:Nat→List AV→Option (Prop × AV):=addS (addS Wt1 159 wSubS) 108 wMulS
theorem Wt2_all (hP:PrgOk P) (T) (hT:TyOk P T):EnvOk P ⟨T,Wt2⟩:=(((Wt1_all hP T hT).add (wSubS_ok hP)).add (wMulS_ok hP))
theorem Wt2_at (f a):Wt2 f a=(addS (addS Wt1 159 wSubS) 108 wMulS) f a:=rfl
attribute [go_sem] Wt2_at
def itS (z:Int):ByteArray:=if z<0 then ⟨#[45]⟩++decS z.natAbs else decS z.natAbs
theorem decS_size (a:Nat):(decS a).size=(decL a).length:=by unfold decS; rw [bytesS_size,List.length_map]
theorem wText_spec (hP:PrgOk P) (z:Int) (h:wl z≤68719476736):CSpec P 115 [(.agg [.opq (.whole (z)),.pad,.pad])] (.str (itS z)):=by
 have HE:=Wt2_all hP T2 hP.t2
 refine CSpec.cv ?_ (.wholeIn z .nil)
 unfold wC
 unfold wl at h
 unfold itS
 have hl:=decL_len z.natAbs
 have hs:(ByteArray.mk #[45]).size+(decS z.natAbs).size≤9223372036854775807:=by
  rw [decS_size]; have:(ByteArray.mk #[45]).size=1:=rfl
  omega
 refine CSpec_go (E:=⟨T2,Wt2⟩) (fn115 hP) HE hP.mix ?_
 by_cases h1:z<0
 · simp only [go_sem,h1,h]
   exact ⟨hs,.refl _⟩
 · simp only [go_sem,h1,h]
   exact .refl _
def wTextS:List AV→Option (Prop × AV):=onW1 fun a=>(wl a≤68719476736,.str (itS a))
theorem wTextS_ok (hP:PrgOk P) (args p r):wTextS args=some (p,r)→p→CSpec P 115 args r:=onW1_ok (fun a h=>by exact wText_spec hP a h) args p r
attribute [go_sem] wTextS
theorem bl_inj {s t:ByteArray} (h:bl s=bl t):s=t:=by rw [← bytesS_bl s,← bytesS_bl t,h]
theorem sg_zero (m:Bool):sg m 0=0:=by cases m<;>rfl
noncomputable def Wt3:Nat→List AV→Option (Prop × AV):=addS Wt2 115 wTextS
theorem Wt3_all (hP:PrgOk P) (T) (hT:TyOk P T):EnvOk P ⟨T,Wt3⟩:=((Wt2_all hP T hT).add (wTextS_ok hP))
theorem Wt3_at (f a):Wt3 f a=(addS Wt2 115 wTextS) f a:=rfl
attribute [go_sem] Wt3_at
theorem bl_app (s t:ByteArray):bl (s++t)=bl s++bl t:=by
 simp [bl,ByteArray.data_append]
theorem bl_itS (z:Int):bl (itS z)=if z<0 then 45::decL z.natAbs else decL z.natAbs:=by
 unfold itS; split
 · rw [bl_app,bl_decS]; rfl
 · exact bl_decS _
theorem decL_head (a:Nat):(decL a).getD 0 0 ≠ 45:=by
 have h:=okD_decL a
 intro e
 have h1:=h.1
 cases hd:decL a with
 | nil=>exact h1 hd
 | cons c t =>
   rw [hd] at e
   have:=(h.2.2 c (by rw [hd]; simp)).1
   simp at e; omega
theorem itS_inj {a b:Int} (h:itS a=itS b):a=b:=by
 have e:bl (itS a)=bl (itS b):=by rw [h]
 rw [bl_itS,bl_itS] at e
 have hab:=sg_of a
 have hbb:=sg_of b
 by_cases h1:a<0<;>by_cases h2:b<0
 · rw [if_pos h1,if_pos h2] at e
   have:=congrArg valL (List.cons.inj e).2
   rw [valL_decL,valL_decL] at this; omega
 · rw [if_pos h1,if_neg h2] at e
   exact absurd (by rw [← e]; rfl) (decL_head b.natAbs)
 · rw [if_neg h1,if_pos h2] at e
   exact absurd (by rw [e]; rfl) (decL_head a.natAbs)
 · rw [if_neg h1,if_neg h2] at e
   have:=congrArg valL e
   rw [valL_decL,valL_decL] at this; omega
theorem wl_add {a b:Int} {n m:Nat} (h:wl a≤n) (h':wl b≤m):wl (a+b)≤n+m+1:=by
 unfold wl at *
 rw [blen_le_iff] at *
 have h1:(a+b).natAbs≤a.natAbs+b.natAbs:=Int.natAbs_add_le a b
 have e1:2^n≤2^(n+m):=Nat.pow_le_pow_right (by decide) (by omega)
 have e2:2^m≤2^(n+m):=Nat.pow_le_pow_right (by decide) (by omega)
 rw [Nat.pow_succ]; omega
theorem wl_sub {a b:Int} {n m:Nat} (h:wl a≤n) (h':wl b≤m):wl (a-b)≤n+m+1:=by
 have:=wl_add h (show wl (-b)≤m by rw [wl_neg]; exact h')
 exact this
theorem wl_mul {a b:Int} {n m:Nat} (h:wl a≤n) (h':wl b≤m):wl (a*b)≤n+m:=by
 unfold wl at *
 rw [Int.natAbs_mul]; exact blen_mul_le h h'
theorem wl_neg' {a:Int} {n:Nat} (h:wl a≤n):wl (-a)≤n:=by rw [wl_neg]; exact h
theorem itS_len {z:Int} {n:Nat} (h:wl z≤n):(bl (itS z)).length≤n+2:=by
 rw [bl_itS]
 have:=decL_len z.natAbs
 unfold wl at h
 split<;>simp<;>omega
end Go.Proofs.YtmahhmdeocnlgaaGreatDoor.AM
/- Fractions: plain facts. -/

namespace Go.Proofs.YtmahhmdeocnlgaaGreatDoor.AM
set_option linter.all false
set_option autoImplicit true
set_option relaxedAutoImplicit true
open Go Go.Proofs
set_option maxRecDepth 100000
def fl (q:Rat):Nat:=max (wl q.num) (blen q.den)
theorem fl_le {q:Rat} {n:Nat}:fl q≤n ↔ wl q.num≤n∧blen q.den≤n:=by unfold fl; exact Nat.max_le
theorem mk_num {z:Int} {d:Nat} (hd:0<d):(mkRat z d).num=sg (decide (z<0)) (z.natAbs / Nat.gcd z.natAbs d):=by
 rw [Rat.num_mkRat,if_neg (by omega),Nat.gcd_comm d]
 have hg:0<Nat.gcd z.natAbs d:=Nat.gcd_pos_of_pos_right _ hd
 have e:=Nat.div_mul_cancel (Nat.gcd_dvd_left z.natAbs d)
 refine Int.ediv_eq_of_eq_mul_left (by omega) ?_
 have hz:=sg_of z
 by_cases h:z<0
 · rw [decide_eq_true h,sg_t] at *
   rw [Int.neg_mul,← Int.natCast_mul,e]; exact hz.symm
 · rw [decide_eq_false h,sg_f] at *
   rw [← Int.natCast_mul,e]; exact hz.symm
theorem mk_den {z:Int} {d:Nat} (hd:0<d):(mkRat z d).den=d / Nat.gcd z.natAbs d:=by
 rw [Rat.den_mkRat,if_neg (by omega),Nat.gcd_comm]
theorem mk_one (z:Int):(mkRat z 1).num=z∧(mkRat z 1).den=1:=by
 rw [mk_num (by decide),mk_den (by decide),Nat.gcd_one_right,Nat.div_one]
 exact ⟨sg_of z,rfl⟩
theorem mk_int (z:Int):mkRat z 1=(z:Rat):=by
 apply Rat.ext
 · rw [(mk_one z).1]; rfl
 · rw [(mk_one z).2]; rfl
theorem fl_mk {z:Int} {d n:Nat} (hz:wl z≤n) (hd:blen d≤n) (h0:0<d):fl (mkRat z d)≤n:=by
 rw [fl_le,mk_num h0,mk_den h0]
 refine ⟨?_,blen_le_of (Nat.div_le_self _ _) hd⟩
 unfold wl; rw [sg_abs]; exact blen_le_of (Nat.div_le_self _ _) hz
theorem den_pos (q:Rat):0<q.den:=q.den_pos
theorem den_eq (q:Rat):q.den-1+1=q.den:=by have:=q.den_pos; omega
theorem q_self (q:Rat):mkRat q.num q.den=q:=Rat.mkRat_self q
theorem q_gcd (q:Rat):Nat.gcd q.num.natAbs q.den=1:=q.reduced
theorem add_mk (a b:Rat):a+b=mkRat (a.num*b.den+b.num*a.den) (a.den*b.den):=by rw [Rat.add_def,Rat.normalize_eq_mkRat]
theorem sub_mk (a b:Rat):a-b=mkRat (a.num*b.den-b.num*a.den) (a.den*b.den):=by rw [Rat.sub_def,Rat.normalize_eq_mkRat]
theorem mul_mk (a b:Rat):a*b=mkRat (a.num*b.num) (a.den*b.den):=by rw [Rat.mul_def,Rat.normalize_eq_mkRat]
theorem neg_nd (a:Rat):(-a).num = -a.num∧(-a).den=a.den:=⟨rfl,rfl⟩
theorem div_mk {a b:Rat} (hb:b.num ≠ 0):a / b=mkRat (a.num*sgnZ b.num*b.den) (a.den*b.num.natAbs):=by
 have hb0:b ≠ 0:=fun h=>hb (by rw [h]; rfl)
 have hd:a.den*b.num.natAbs ≠ 0:=Nat.mul_ne_zero a.den_nz (by omega)
 have e:a / b*b=a:=Rat.div_mul_cancel hb0
 have key:mkRat (a.num*sgnZ b.num*b.den) (a.den*b.num.natAbs)*b=a:=by
  have hs:sgnZ b.num*b.num=(b.num.natAbs:Int):=by
   rcases Int.lt_trichotomy b.num 0 with h|h|h
   · rw [show sgnZ b.num = -1 by unfold sgnZ; rw [if_neg (by omega),if_pos h]]; omega
   · exact absurd h hb
   · rw [show sgnZ b.num=1 by unfold sgnZ; rw [if_neg (by omega),if_neg (by omega)]]; omega
  conv=>lhs; rhs; rw [← q_self b]
  conv=>rhs; rw [← q_self a]
  rw [Rat.mkRat_mul_mkRat,Rat.mkRat_eq_iff (Nat.mul_ne_zero hd b.den_nz) a.den_nz]
  have:a.num*sgnZ b.num*↑b.den*b.num*(a.den:Int)=a.num*(sgnZ b.num*b.num)*↑b.den*↑a.den:=by grind
  rw [this,hs,Int.natCast_mul,Int.natCast_mul]; grind
 have h2:a / b*b=mkRat (a.num*sgnZ b.num*b.den) (a.den*b.num.natAbs)*b:=by rw [e,key]
 generalize mkRat (a.num*sgnZ b.num*b.den) (a.den*b.num.natAbs)=c at *
 generalize a / b=d at *
 have h3:(d-c)*b=0:=by grind
 rcases Rat.mul_eq_zero.1 h3 with h|h
 · grind
 · exact absurd h hb0
def cmpQ (a b:Rat):Int:=if a<b then -1 else if b<a then 1 else 0
theorem cmpQ_mk (a b:Rat):cmpQ a b=cmpZ (a.num*b.den) (b.num*a.den):=by
 unfold cmpQ cmpZ
 simp only [Rat.lt_iff]
theorem sgn_cmp (q:Rat):sgnZ q.num=cmpQ q 0:=by
 rw [cmpQ_mk]
 show _=cmpZ (q.num*1) (0*q.den)
 rw [Int.mul_one,Int.zero_mul]
 unfold sgnZ cmpZ; repeat' split
 all_goals first|rfl|omega
theorem cmpQ_sub (a b:Rat):sgnZ (a-b).num=cmpQ a b:=by
 rw [sgn_cmp]; unfold cmpQ
 by_cases h1:a<b
 · rw [if_pos h1,if_pos (by grind)]
 · rw [if_neg h1,if_neg (by grind)]
   by_cases h2:b<a
   · rw [if_pos h2,if_pos (by grind)]
   · rw [if_neg h2,if_neg (by grind)]
theorem num_zero {q:Rat}:q.num=0 ↔ q=0:=Rat.num_eq_zero
theorem wl_add2 {a b:Int} {n:Nat} (h:wl a≤n) (h':wl b≤n):wl (a+b)≤n+1:=by
 unfold wl at *
 rw [blen_le_iff] at *
 have h1:(a+b).natAbs≤a.natAbs+b.natAbs:=Int.natAbs_add_le a b
 rw [Nat.pow_succ]; omega
theorem fl_add {a b:Rat} {n m:Nat} (h:fl a≤n) (h':fl b≤m):fl (a+b)≤n+m+1:=by
 rw [fl_le] at h h'
 rw [add_mk]
 refine fl_mk ?_ ?_ (Nat.mul_pos a.den_pos b.den_pos)
 · have h1:=wl_mul h.1 (show wl (b.den:Int)≤m from h'.2)
   have h2:=wl_mul h'.1 (show wl (a.den:Int)≤n from h.2)
   exact wl_add2 h1 (Nat.le_trans h2 (by omega))
 · exact Nat.le_trans (blen_mul_le h.2 h'.2) (by omega)
theorem fl_neg {a:Rat} {n:Nat} (h:fl a≤n):fl (-a)≤n:=by
 rw [fl_le] at *
 exact ⟨by rw [(neg_nd a).1,wl_neg]; exact h.1,h.2⟩
theorem fl_sub {a b:Rat} {n m:Nat} (h:fl a≤n) (h':fl b≤m):fl (a-b)≤n+m+1:=by
 rw [Rat.sub_eq_add_neg]; exact fl_add h (fl_neg h')
theorem fl_mul {a b:Rat} {n m:Nat} (h:fl a≤n) (h':fl b≤m):fl (a*b)≤n+m:=by
 rw [fl_le] at h h'
 rw [mul_mk]
 exact fl_mk (wl_mul h.1 h'.1) (blen_mul_le h.2 h'.2) (Nat.mul_pos a.den_pos b.den_pos)
theorem wl_sgn (z:Int):wl (sgnZ z)≤1:=by
 unfold sgnZ
 split
 · exact Nat.le_of_ble_eq_true rfl
 · split<;>exact Nat.le_of_ble_eq_true rfl
theorem fl_div {a b:Rat} {n m:Nat} (h:fl a≤n) (h':fl b≤m):fl (a / b)≤n+m+1:=by
 rw [fl_le] at h h'
 by_cases hb:b.num=0
 · rw [num_zero.1 hb,Rat.div_def,Rat.inv_zero,Rat.mul_zero]
   exact fl_le.2 ⟨Nat.le_trans (Nat.le_of_ble_eq_true rfl:wl (0:Rat).num≤0) (by omega),Nat.le_trans (Nat.le_of_ble_eq_true rfl:blen (0:Rat).den≤1) (by omega)⟩
 · rw [div_mk hb]
   refine fl_mk ?_ ?_ (Nat.mul_pos a.den_pos (by omega))
   · exact Nat.le_trans (wl_mul (wl_mul h.1 (wl_sgn _)) (show wl (b.den:Int)≤m from h'.2)) (by omega)
   · exact Nat.le_trans (blen_mul_le h.2 h'.1) (by omega)
theorem fl_int {z:Int} {n:Nat} (h:wl z≤n) (hn:1≤n):fl (z:Rat)≤n:=fl_le.2 ⟨h,Nat.le_trans (Nat.le_of_ble_eq_true rfl:blen 1≤1) hn⟩
theorem qo_ex:∃ x:(Rat→Rat→Rat) × (Rat→Rat→Rat) × (Rat→Rat→Rat) × (Rat→Rat→Rat) × (Int→Nat→Rat) × (Rat→Rat),x=((·+·),(·-·),(·*·),(· / ·),mkRat,(- ·)):=⟨_,rfl⟩
noncomputable def qo:(Rat→Rat→Rat) × (Rat→Rat→Rat) × (Rat→Rat→Rat) × (Rat→Rat→Rat) × (Int→Nat→Rat) × (Rat→Rat):=Classical.choose qo_ex
theorem qo_eq:qo=((·+·),(·-·),(·*·),(· / ·),mkRat,(- ·)):=Classical.choose_spec qo_ex
noncomputable def qadd (a b:Rat):Rat:=qo.1 a b
noncomputable def qsub (a b:Rat):Rat:=qo.2.1 a b
noncomputable def qmul (a b:Rat):Rat:=qo.2.2.1 a b
noncomputable def qdiv (a b:Rat):Rat:=qo.2.2.2.1 a b
noncomputable def qlow (z:Int) (d:Nat):Rat:=qo.2.2.2.2.1 z d
noncomputable def qneg (a:Rat):Rat:=qo.2.2.2.2.2 a
theorem qadd_eq (a b):qadd a b=a+b:=by unfold qadd; rw [qo_eq]
theorem qsub_eq (a b):qsub a b=a-b:=by unfold qsub; rw [qo_eq]
theorem qmul_eq (a b):qmul a b=a*b:=by unfold qmul; rw [qo_eq]
theorem qdiv_eq (a b):qdiv a b=a / b:=by unfold qdiv; rw [qo_eq]
theorem qlow_eq (z d):qlow z d=mkRat z d:=by unfold qlow; rw [qo_eq]
theorem qneg_eq (a):qneg a = -a:=by unfold qneg; rw [qo_eq]
theorem fl_qadd {a b:Rat} {n m:Nat} (h:fl a≤n) (h':fl b≤m):fl (qadd a b)≤n+m+1:=qadd_eq a b ▸ fl_add h h'
theorem fl_qsub {a b:Rat} {n m:Nat} (h:fl a≤n) (h':fl b≤m):fl (qsub a b)≤n+m+1:=qsub_eq a b ▸ fl_sub h h'
theorem fl_qmul {a b:Rat} {n m:Nat} (h:fl a≤n) (h':fl b≤m):fl (qmul a b)≤n+m:=qmul_eq a b ▸ fl_mul h h'
theorem fl_qdiv {a b:Rat} {n m:Nat} (h:fl a≤n) (h':fl b≤m):fl (qdiv a b)≤n+m+1:=qdiv_eq a b ▸ fl_div h h'
theorem fl_qneg {a:Rat} {n:Nat} (h:fl a≤n):fl (qneg a)≤n:=qneg_eq a ▸ fl_neg h
def qtS (q:Rat):ByteArray:=if q.den=1 then itS q.num else itS q.num++⟨#[47]⟩++decS q.den
end Go.Proofs.YtmahhmdeocnlgaaGreatDoor.AM
/- Fractions: their cells; in lowest terms. -/
namespace Go.Proofs.YtmahhmdeocnlgaaGreatDoor.AM
set_option linter.all false
set_option autoImplicit true
set_option relaxedAutoImplicit true
open Go Go.Proofs
set_option maxRecDepth 100000
set_option maxHeartbeats 8000000
set_option linter.unusedSimpArgs false
variable {P:Program}
def fC (q:Rat):List AV:=[.opq (.whole q.num),.pad,.pad,.opq (.nat (q.den-1)),.pad]
theorem CvL.fracIn (q:Rat) {xs bs} (h:CvL xs bs):CvL ((.agg [.opq (.frac (q)),.pad,.pad,.pad,.pad])::xs) (.agg (fC q)::bs):=.agg (by simpa [Pay.open,Pay.width,fC] using CvL.unfold (.frac q) []) h
theorem CvL.fracOut (q:Rat) {xs bs} (h:CvL xs bs):CvL (.agg (fC q)::xs) ((.agg [.opq (.frac (q)),.pad,.pad,.pad,.pad])::bs):=.agg (by simpa [Pay.open,Pay.width,fC] using CvL.fold (.frac q) [] rfl) h
theorem Conv.frac (q:Rat):Conv (.agg (fC q)) (.agg [.opq (.frac (q)),.pad,.pad,.pad,.pad]):=CvL.conv (.fracOut q .nil)
noncomputable def rawF:AV→Option (Prop × Rat)
 | .agg [.opq (.frac q),.pad,.pad,.pad,.pad]=>some (True,q)
 | .agg [.opq (.whole z),.pad,.pad,.opq (.nat l),.pad]=>some (Nat.gcd z.natAbs (l+1)=1,qlow z (l+1))
 | _=>none
theorem rawF_atom (q:Rat):rawF (.agg [.opq (.frac (q)),.pad,.pad,.pad,.pad])=some (True,q):=rfl
theorem rawF_raw (z l):rawF (.agg [.opq (.whole z),.pad,.pad,.opq (.nat l),.pad])=some (Nat.gcd z.natAbs (l+1)=1,qlow z (l+1)):=rfl
theorem q_self' (q:Rat):qlow q.num (q.den-1+1)=q:=by rw [den_eq,qlow_eq]; exact q_self q
theorem q_gcd' (q:Rat):(Nat.gcd q.num.natAbs (q.den-1+1)=1)=True:=by rw [den_eq]; exact eq_true (q_gcd q)
theorem fC_mk {z:Int} {d:Nat} (hd:0<d) (h:Nat.gcd z.natAbs d=1):fC (mkRat z d)=[.opq (.whole z),.pad,.pad,.opq (.nat (d-1)),.pad]:=by
 unfold fC
 rw [mk_num hd,mk_den hd,h,Nat.div_one,Nat.div_one,sg_of]
theorem rawF_cv {v:AV} {p q} (h:rawF v=some (p,q)) (hp:p) {xs bs} (k:CvL xs bs):CvL (v::xs) ((.agg [.opq (.frac (q)),.pad,.pad,.pad,.pad])::bs):=by
 unfold rawF at h
 split at h
 · simp only [Option.some.injEq,Prod.mk.injEq] at h
   obtain ⟨rfl,rfl⟩:=h
   exact .agg (.refl _) k
 · simp only [Option.some.injEq,Prod.mk.injEq] at h
   obtain ⟨rfl,rfl⟩:=h
   rename_i z l
   have e:fC (mkRat z (l+1))=[.opq (.whole z),.pad,.pad,.opq (.nat l),.pad]:=fC_mk (by omega) hp
   rw [← e,qlow_eq]; exact .fracOut _ k
 · simp at h
noncomputable def onF1 (f:Rat→Prop × AV):List AV→Option (Prop × AV)
 | [x]=>(rawF x).map fun a=>(a.1∧(f a.2).1,(f a.2).2)
 | _=>none
noncomputable def onF2 (f:Rat→Rat→Prop × AV):List AV→Option (Prop × AV)
 | [x,y]=>(rawF x).bind fun a=>(rawF y).map fun b=>(a.1∧b.1∧(f a.2 b.2).1,(f a.2 b.2).2)
 | _=>none
theorem onF1_ok {fi:Nat} {f:Rat→Prop × AV} (h:∀ a,(f a).1→CSpec P fi [(.agg [.opq (.frac (a)),.pad,.pad,.pad,.pad])] (f a).2) (args p r) (he:onF1 f args=some (p,r)) (hp:p):CSpec P fi args r:=by
 unfold onF1 at he
 split at he
 · simp only [Option.map_eq_some_iff,Prod.exists,Prod.mk.injEq] at he
   obtain ⟨q,a,h1,rfl,rfl⟩:=he
   exact (h a hp.2).cv (rawF_cv h1 hp.1 .nil)
 · simp at he
theorem onF2_ok {fi:Nat} {f:Rat→Rat→Prop × AV} (h:∀ a b,(f a b).1→CSpec P fi [(.agg [.opq (.frac (a)),.pad,.pad,.pad,.pad]),(.agg [.opq (.frac (b)),.pad,.pad,.pad,.pad])] (f a b).2) (args p r) (he:onF2 f args=some (p,r)) (hp:p):CSpec P fi args r:=by
 unfold onF2 at he
 split at he
 · simp only [Option.bind_eq_some_iff,Option.map_eq_some_iff,Prod.exists,Prod.mk.injEq] at he
   obtain ⟨q,a,h1,q',b,h2,rfl,rfl⟩:=he
   exact (h a b hp.2.2).cv (rawF_cv h1 hp.1 (rawF_cv h2 hp.2.1 .nil))
 · simp at he
theorem onF1_eq (f x):onF1 f [x]=(rawF x).map fun a=>(a.1∧(f a.2).1,(f a.2).2):=rfl
theorem onF2_eq (f x y):onF2 f [x,y]=(rawF x).bind fun a=>(rawF y).map fun b=>(a.1∧b.1∧(f a.2 b.2).1,(f a.2 b.2).2):=rfl
attribute [go_sem] rawF_atom rawF_raw onF1_eq onF2_eq q_self' q_gcd'
abbrev FB:Nat:=1073741824
theorem one_spec (hP:PrgOk P):CSpec P 136 [] (.agg [.opq (.nat (1)),.pad]):=by
 have HE:=Wt3_all hP T2 hP.t2
 have h1:(1:Int).toNat=1:=rfl
 refine CSpec_go (E:=⟨T2,Wt3⟩) (fn136 hP) HE hP.mix ?_
 simp only [go_sem,h1]
 exact fin_z
def oneS:List AV→Option (Prop × AV)
 | []=>some (True,(.agg [.opq (.nat (1)),.pad]))
 | _=>none
theorem oneS_ok (hP:PrgOk P) (args p r) (h:oneS args=some (p,r)) (hp:p):CSpec P 136 args r:=by
 unfold oneS at h
 split at h
 · simp only [Option.some.injEq,Prod.mk.injEq] at h
   obtain ⟨rfl,rfl⟩:=h
   exact one_spec hP
 · simp at h
attribute [go_sem] oneS
theorem part_spec (hP:PrgOk P) (x g:Nat) (hx:blen x≤68719476736) (hg:blen g≤34359738368) (h0:0<g):CSpec P 157 [(.agg [.opq (.nat (x)),.pad]),.fref [.opq (.nat g),.pad]] (.agg [.opq (.nat (x / g)),.pad]):=by
 have HE:=Wt3_all hP T2 hP.t2
 have hz:(g=0)=False:=eq_false (by omega)
 refine CSpec_go (E:=⟨T2,Wt3⟩) (fn157 hP) HE hP.mix ?_
 simp only [go_sem,hx,hg,hz]
 exact fin_z
def partS:List AV→Option (Prop × AV)
 | [x,.fref [.opq (.nat g),.pad]]=>(rawN x).map fun a=>(a.1∧blen a.2≤68719476736∧blen g≤34359738368∧0<g,(.agg [.opq (.nat (a.2 / g)),.pad]))
 | _=>none
theorem partS_eq (x g):partS [x,.fref [.opq (.nat g),.pad]]=(rawN x).map fun a=>(a.1∧blen a.2≤68719476736∧blen g≤34359738368∧0<g,(.agg [.opq (.nat (a.2 / g)),.pad])):=rfl
theorem partS_ok (hP:PrgOk P) (args p r) (he:partS args=some (p,r)) (hp:p):CSpec P 157 args r:=by
 unfold partS at he
 split at he
 · simp only [Option.map_eq_some_iff,Prod.exists,Prod.mk.injEq] at he
   obtain ⟨q,a,h1,rfl,rfl⟩:=he
   exact (part_spec hP a _ hp.2.1 hp.2.2.1 hp.2.2.2).cv (rawN_cv h1 hp.1 (.refl _))
 · simp at he
attribute [go_sem] partS_eq
noncomputable def Ft0:Nat→List AV→Option (Prop × AV):=addS (addS Wt3 136 oneS) 157 partS
theorem Ft0_all (hP:PrgOk P) (T) (hT:TyOk P T):EnvOk P ⟨T,Ft0⟩:=(((Wt3_all hP T hT).add (oneS_ok hP)).add (partS_ok hP))
theorem Ft0_at (f a):Ft0 f a=(addS (addS Wt3 136 oneS) 157 partS) f a:=rfl
attribute [go_sem] Ft0_at
theorem fr_live2 (cs):(AObj.live cs).freeze = .ro cs:=rfl
theorem fr_ro (cs):(AObj.ro cs).freeze = .ro cs:=rfl
attribute [go_sem] fr_live2 fr_ro
theorem sgn_neg (z:Int):(sgnZ z<0)=(z<0):=by
 unfold sgnZ; rw [eq_iff_iff]; split
 · omega
 · split<;>omega
theorem blen_one_iff (d:Nat):blen d=1 ↔ d=1:=by
 constructor
 · intro h
   have h1:d<2^1:=(blen_le_iff d 1).1 (by omega)
   have h2:d ≠ 0:=fun e=>by rw [e] at h; exact absurd h (by decide)
   omega
 · intro h; rw [h]; decide
theorem blen_two {d:Nat} (h0:0<d) (h:d ≠ 1):1<blen d:=by
 have h1:blen d ≠ 0:=by rw [Ne,blen_zero_iff]; omega
 have h2:=mt (blen_one_iff d).1 h
 omega
theorem low_spec (hP:PrgOk P) (z:Int) (d:Nat) (hz:wl z≤34359738368) (hd:blen d≤34359738368) (h0:0<d):CSpec P 119 [(.agg [.opq (.whole (z)),.pad,.pad]),(.agg [.opq (.nat (d)),.pad])] (.agg [.opq (.frac (qlow z d)),.pad,.pad,.pad,.pad]):=by
 have HE:=Ft0_all hP T2 hP.t2
 rw [qlow_eq]
 refine CSpec.conv (r:=.agg (fC (mkRat z d))) ?_ (.frac _)
 have hz':=Nat.le_trans hz (show _≤68719476736 by decide)
 have hd':=Nat.le_trans hd (show _≤68719476736 by decide)
 refine CSpec_go (E:=⟨T2,Ft0⟩) (fn119 hP) HE hP.mix ?_
 by_cases h1:d=1
 · subst h1
   have hb:(blen 1 == 1)=true:=by decide
   rw [fC_mk (by decide) (Nat.gcd_one_right _)]
   simp only [go_sem,hz',hd',hb]
   exact fin_z
 · have hb:(blen d == 1)=false:=beq_eq_false_iff_ne.2 (mt (blen_one_iff d).1 h1)
   have hg0:0<Nat.gcd z.natAbs d:=Nat.gcd_pos_of_pos_right _ h0
   have hgb:blen (Nat.gcd z.natAbs d)≤34359738368:=gcd_blen hz hd
   have hgb':=Nat.le_trans hgb (show _≤68719476736 by decide)
   by_cases h2:Nat.gcd z.natAbs d=1
   · have hb2:(1<blen 1)=False:=eq_false (by decide)
     have hlt:(d<1)=False:=eq_false (by omega)
     rw [fC_mk h0 h2]
     simp only [go_sem,hz,hd,hz',hd',hb,h2,hb2,hlt]
     exact fin_z
   · have hb2:(1<blen (Nat.gcd z.natAbs d))=True:=eq_true (blen_two hg0 h2)
     have hgz:(Nat.gcd z.natAbs d=0)=False:=eq_false (by omega)
     have hq1:=blen_le_of (Nat.div_le_self z.natAbs (Nat.gcd z.natAbs d)) hz'
     have hq2:=blen_le_of (Nat.div_le_self d (Nat.gcd z.natAbs d)) hd'
     have hdg:0<d / Nat.gcd z.natAbs d:=Nat.div_pos (Nat.le_of_dvd h0 (Nat.gcd_dvd_right _ _)) hg0
     have hlt:(d / Nat.gcd z.natAbs d<1)=False:=eq_false (by omega)
     have e:fC (mkRat z d)=[.opq (.whole (sg (decide (z<0)) (z.natAbs / Nat.gcd z.natAbs d))),.pad,.pad,.opq (.nat (d / Nat.gcd z.natAbs d-1)),.pad]:=by
      unfold fC; rw [mk_num h0,mk_den h0]
     rw [e]
     simp only [go_sem,hz,hd,hz',hd',hb,hb2,hgb,hgb',sgn_neg,hg0,hq1,hq2,hlt]
     exact fin_z
noncomputable def lowS:List AV→Option (Prop × AV)
 | [x,y]=>(rawW x).bind fun z=>(rawN y).map fun d=>(z.1∧d.1∧wl z.2≤34359738368∧blen d.2≤34359738368∧0<d.2,(.agg [.opq (.frac (qlow z.2 d.2)),.pad,.pad,.pad,.pad]))
 | _=>none
theorem lowS_eq (x y):lowS [x,y]=(rawW x).bind fun z=>(rawN y).map fun d=>(z.1∧d.1∧wl z.2≤34359738368∧blen d.2≤34359738368∧0<d.2,(.agg [.opq (.frac (qlow z.2 d.2)),.pad,.pad,.pad,.pad])):=rfl
theorem lowS_ok (hP:PrgOk P) (args p r) (he:lowS args=some (p,r)) (hp:p):CSpec P 119 args r:=by
 unfold lowS at he
 split at he
 · simp only [Option.bind_eq_some_iff,Option.map_eq_some_iff,Prod.exists,Prod.mk.injEq] at he
   obtain ⟨q,a,h1,q',b,h2,rfl,rfl⟩:=he
   exact (low_spec hP a b hp.2.2.1 hp.2.2.2.1 hp.2.2.2.2).cv (rawW_cv h1 hp.1 (rawN_cv h2 hp.2.1 .nil))
 · simp at he
attribute [go_sem] lowS_eq
theorem fDen_spec (hP:PrgOk P) (q:Rat) (h:blen q.den≤34359738368):CSpec P 87 [(.agg [.opq (.frac (q)),.pad,.pad,.pad,.pad])] (.agg [.opq (.nat (q.den)),.pad]):=by
 have HE:=Ft0_all hP T2 hP.t2
 refine CSpec.cv ?_ (.fracIn q .nil)
 have hl:blen (q.den-1)≤68719476736:=blen_le_of (Nat.sub_le _ _) (Nat.le_trans h (by decide))
 have h1:blen 1≤68719476736:=by decide
 have e:=den_eq q
 unfold fC
 refine CSpec_go (E:=⟨T2,Ft0⟩) (fn87 hP) HE hP.mix ?_
 simp only [go_sem,hl,h1,e]
 exact fin_z
noncomputable def fDenS:List AV→Option (Prop × AV):=onF1 fun q=>(blen q.den≤34359738368,(.agg [.opq (.nat (q.den)),.pad]))
theorem fDenS_ok (hP:PrgOk P) (args p r):fDenS args=some (p,r)→p→CSpec P 87 args r:=onF1_ok (fun a h=>by exact fDen_spec hP a h) args p r
theorem fNum_spec (hP:PrgOk P) (q:Rat):CSpec P 109 [(.agg [.opq (.frac (q)),.pad,.pad,.pad,.pad])] (.agg [.opq (.whole (q.num)),.pad,.pad]):=by
 have HE:=Ft0_all hP T2 hP.t2
 refine CSpec.cv ?_ (.fracIn q .nil)
 unfold fC
 refine CSpec_go (E:=⟨T2,Ft0⟩) (fn109 hP) HE hP.mix ?_
 simp only [go_sem]
 exact fin_z
noncomputable def fNumS:List AV→Option (Prop × AV):=onF1 fun q=>(True,(.agg [.opq (.whole (q.num)),.pad,.pad]))
theorem fNumS_ok (hP:PrgOk P) (args p r):fNumS args=some (p,r)→p→CSpec P 109 args r:=onF1_ok (fun a _=>by exact fNum_spec hP a) args p r
theorem fSign_spec (hP:PrgOk P) (q:Rat) (h:wl q.num≤68719476736):CSpec P 24 [(.agg [.opq (.frac (q)),.pad,.pad,.pad,.pad])] (.int .i64 (cmpQ q 0)):=by
 have HE:=Ft0_all hP T2 hP.t2
 refine CSpec.cv ?_ (.fracIn q .nil)
 rw [← sgn_cmp]
 unfold fC
 refine CSpec_go (E:=⟨T2,Ft0⟩) (fn24 hP) HE hP.mix ?_
 simp only [go_sem,h]
 exact fin_z
noncomputable def fSignS:List AV→Option (Prop × AV):=onF1 fun q=>(wl q.num≤68719476736,.int .i64 (cmpQ q 0))
theorem fSignS_ok (hP:PrgOk P) (args p r):fSignS args=some (p,r)→p→CSpec P 24 args r:=onF1_ok (fun a h=>by exact fSign_spec hP a h) args p r
theorem ent_spec (hP:PrgOk P) (q:Rat) (h:blen q.den≤34359738368):CSpec P 84 [(.agg [.opq (.frac (q)),.pad,.pad,.pad,.pad])] (.bool (decide (q.den=1))):=by
 have HE:=Ft0_all hP T2 hP.t2
 refine CSpec.cv ?_ (.fracIn q .nil)
 have hl:blen (q.den-1)≤68719476736:=blen_le_of (Nat.sub_le _ _) (Nat.le_trans h (by decide))
 have hp:=q.den_pos
 have e:(blen (q.den-1) == 0)=decide (q.den=1):=by
  rw [Bool.eq_iff_iff]; simp only [beq_iff_eq,decide_eq_true_eq,blen_zero_iff]; omega
 unfold fC
 refine CSpec_go (E:=⟨T2,Ft0⟩) (fn84 hP) HE hP.mix ?_
 simp only [go_sem,hl,e]
 exact fin_z
noncomputable def entS:List AV→Option (Prop × AV):=onF1 fun q=>(blen q.den≤34359738368,.bool (decide (q.den=1)))
theorem entS_ok (hP:PrgOk P) (args p r):entS args=some (p,r)→p→CSpec P 84 args r:=onF1_ok (fun a h=>by exact ent_spec hP a h) args p r
theorem by_spec (hP:PrgOk P) (z:Int) (d:Nat) (hz:wl z≤34359738368) (hd:blen d≤34359738368):CSpec P 86 [(.agg [.opq (.whole (z)),.pad,.pad]),(.agg [.opq (.nat (d)),.pad])] (.agg [.opq (.whole (z*d)),.pad,.pad]):=by
 have HE:=Ft0_all hP T2 hP.t2
 have hd':=Nat.le_trans hd (show _≤68719476736 by decide)
 have hdz:wl (d:Int)≤34359738368:=hd
 refine CSpec_go (E:=⟨T2,Ft0⟩) (fn86 hP) HE hP.mix ?_
 simp only [go_sem,hz,hd',hdz,sg_abs,sg_f]
 exact fin_z
def byS:List AV→Option (Prop × AV)
 | [x,y]=>(rawW x).bind fun z=>(rawN y).map fun d=>(z.1∧d.1∧wl z.2≤34359738368∧blen d.2≤34359738368,(.agg [.opq (.whole (z.2*d.2)),.pad,.pad]))
 | _=>none
theorem byS_eq (x y):byS [x,y]=(rawW x).bind fun z=>(rawN y).map fun d=>(z.1∧d.1∧wl z.2≤34359738368∧blen d.2≤34359738368,(.agg [.opq (.whole (z.2*d.2)),.pad,.pad])):=rfl
theorem byS_ok (hP:PrgOk P) (args p r) (he:byS args=some (p,r)) (hp:p):CSpec P 86 args r:=by
 unfold byS at he
 split at he
 · simp only [Option.bind_eq_some_iff,Option.map_eq_some_iff,Prod.exists,Prod.mk.injEq] at he
   obtain ⟨q,a,h1,q',b,h2,rfl,rfl⟩:=he
   exact (by_spec hP a b hp.2.2.1 hp.2.2.2).cv (rawW_cv h1 hp.1 (rawN_cv h2 hp.2.1 .nil))
 · simp at he
theorem fOf_spec (hP:PrgOk P) (z:Int):CSpec P 113 [(.agg [.opq (.whole (z)),.pad,.pad])] (.agg [.opq (.frac ((z:Rat))),.pad,.pad,.pad,.pad]):=by
 have HE:=Ft0_all hP T2 hP.t2
 refine CSpec.conv (r:=.agg (fC (z:Rat))) ?_ (.frac _)
 have e:fC (z:Rat)=[.opq (.whole z),.pad,.pad,.opq (.nat 0),.pad]:=rfl
 rw [e]
 refine CSpec_go (E:=⟨T2,Ft0⟩) (fn113 hP) HE hP.mix ?_
 simp only [go_sem]
 exact fin_z
def fOfS:List AV→Option (Prop × AV):=onW1 fun z=>(True,(.agg [.opq (.frac ((z:Rat))),.pad,.pad,.pad,.pad]))
theorem fOfS_ok (hP:PrgOk P) (args p r):fOfS args=some (p,r)→p→CSpec P 113 args r:=onW1_ok (fun a _=>by exact fOf_spec hP a) args p r
theorem fInt_spec (hP:PrgOk P) (n:Int) (h1 : -9223372036854775808≤n) (h2:n≤9223372036854775807):CSpec P 25 [.int .i64 n] (.agg [.opq (.frac ((n:Rat))),.pad,.pad,.pad,.pad]):=by
 have HE:=Ft0_all hP T2 hP.t2
 refine CSpec.conv (r:=.agg (fC (n:Rat))) ?_ (.frac _)
 have e:fC (n:Rat)=[.opq (.whole n),.pad,.pad,.opq (.nat 0),.pad]:=rfl
 rw [e]
 refine CSpec_go (E:=⟨T2,Ft0⟩) (fn25 hP) HE hP.mix ?_
 simp only [go_sem,h1,h2]
 exact fin_z
def fIntS:List AV→Option (Prop × AV)
 | [.int .i64 n]=>some (-9223372036854775808≤n∧n≤9223372036854775807,(.agg [.opq (.frac ((n:Rat))),.pad,.pad,.pad,.pad]))
 | _=>none
theorem fIntS_ok (hP:PrgOk P) (args p r) (h:fIntS args=some (p,r)) (hp:p):CSpec P 25 args r:=by
 unfold fIntS at h
 split at h
 · simp only [Option.some.injEq,Prod.mk.injEq] at h
   obtain ⟨rfl,rfl⟩:=h
   exact fInt_spec hP _ hp.1 hp.2
 · simp at h
theorem fNeg_spec (hP:PrgOk P) (q:Rat) (h:wl q.num≤68719476736):CSpec P 99 [(.agg [.opq (.frac (q)),.pad,.pad,.pad,.pad])] (.agg [.opq (.frac (qneg q)),.pad,.pad,.pad,.pad]):=by
 have HE:=Ft0_all hP T2 hP.t2
 rw [qneg_eq]
 refine CSpec.cv ?_ (.fracIn q .nil)
 refine CSpec.conv (r:=.agg (fC (-q))) ?_ (.frac _)
 unfold fC
 rw [(neg_nd q).1,(neg_nd q).2]
 refine CSpec_go (E:=⟨T2,Ft0⟩) (fn99 hP) HE hP.mix ?_
 simp only [go_sem,h]
 exact fin_z
noncomputable def fNegS:List AV→Option (Prop × AV):=onF1 fun q=>(wl q.num≤68719476736,(.agg [.opq (.frac (qneg q)),.pad,.pad,.pad,.pad]))
theorem fNegS_ok (hP:PrgOk P) (args p r):fNegS args=some (p,r)→p→CSpec P 99 args r:=onF1_ok (fun a h=>by exact fNeg_spec hP a h) args p r
attribute [go_sem] fDenS fNumS fSignS entS byS_eq fOfS fIntS fNegS
noncomputable def Ft1:Nat→List AV→Option (Prop × AV):=addS (addS (addS (addS (addS (addS (addS (addS (addS Ft0 119 lowS) 87 fDenS) 109 fNumS) 24 fSignS) 84 entS) 86 byS) 113 fOfS) 25 fIntS) 99 fNegS
theorem Ft1_all (hP:PrgOk P) (T) (hT:TyOk P T):EnvOk P ⟨T,Ft1⟩:=((((((((((Ft0_all hP T hT).add (lowS_ok hP)).add (fDenS_ok hP)).add (fNumS_ok hP)).add (fSignS_ok hP)).add (entS_ok hP)).add (byS_ok hP)).add (fOfS_ok hP)).add (fIntS_ok hP)).add (fNegS_ok hP))
theorem Ft1_at (f a):Ft1 f a=(addS (addS (addS (addS (addS (addS (addS (addS (addS Ft0 119 lowS) 87 fDenS) 109 fNumS) 24 fSignS) 84 entS) 86 byS) 113 fOfS) 25 fIntS) 99 fNegS) f a:=rfl
attribute [go_sem] Ft1_at
theorem fl_num {q:Rat} {n:Nat} (h:fl q≤n):wl q.num≤n:=(fl_le.1 h).1
theorem fl_den {q:Rat} {n:Nat} (h:fl q≤n):blen q.den≤n:=(fl_le.1 h).2
theorem fl_denZ {q:Rat} {n:Nat} (h:fl q≤n):wl (q.den:Int)≤n:=(fl_le.1 h).2
theorem fCmp_spec (hP:PrgOk P) (a b:Rat) (ha:fl a≤FB) (hb:fl b≤FB):CSpec P 30 [(.agg [.opq (.frac (a)),.pad,.pad,.pad,.pad]),(.agg [.opq (.frac (b)),.pad,.pad,.pad,.pad])] (.int .i64 (cmpQ a b)):=by
 have HE:=Ft1_all hP T2 hP.t2
 refine CSpec.cv ?_ (.fracIn a (.fracIn b .nil))
 have a1:wl a.num≤34359738368:=Nat.le_trans (fl_num ha) (by decide)
 have a2:blen a.den≤34359738368:=Nat.le_trans (fl_den ha) (by decide)
 have a3:wl a.num≤68719476736:=Nat.le_trans (fl_num ha) (by decide)
 have a4:blen a.den≤68719476736:=Nat.le_trans (fl_den ha) (by decide)
 have a5:0<a.den:=a.den_pos
 have b1:wl b.num≤34359738368:=Nat.le_trans (fl_num hb) (by decide)
 have b2:blen b.den≤34359738368:=Nat.le_trans (fl_den hb) (by decide)
 have b3:wl b.num≤68719476736:=Nat.le_trans (fl_num hb) (by decide)
 have b4:blen b.den≤68719476736:=Nat.le_trans (fl_den hb) (by decide)
 have b5:0<b.den:=b.den_pos
 have m1:wl (a.num*b.den)≤68719476736:=Nat.le_trans (wl_mul (fl_num ha) (fl_denZ hb)) (by decide)
 have m2:wl (b.num*a.den)≤68719476736:=Nat.le_trans (wl_mul (fl_num hb) (fl_denZ ha)) (by decide)
 rw [cmpQ_mk]
 unfold fC
 refine CSpec_go (E:=⟨T2,Ft1⟩) (fn30 hP) HE hP.mix ?_
 by_cases h1:a.den=1
 · by_cases h2:b.den=1
   · have h1':decide (a.den=1)=true:=decide_eq_true h1
     have h2':decide (b.den=1)=true:=decide_eq_true h2
     have e:cmpZ (a.num*b.den) (b.num*a.den)=cmpZ a.num b.num:=by rw [h1,h2,Int.natCast_one,Int.mul_one,Int.mul_one]
     rw [e]
     simp only [go_sem,a1,a2,a3,b1,b2,b3,m1,m2,h1',h2']
     exact fin_z
   · have h1':decide (a.den=1)=true:=decide_eq_true h1
     have h2':decide (b.den=1)=false:=decide_eq_false h2
     simp only [go_sem,a1,a2,a3,b1,b2,b3,m1,m2,h1',h2']
     exact fin_z
 · have h1':decide (a.den=1)=false:=decide_eq_false h1
   simp only [go_sem,a1,a2,a3,b1,b2,b3,m1,m2,h1']
   exact fin_z
noncomputable def fCmpS:List AV→Option (Prop × AV):=onF2 fun a b=>(fl a≤FB∧fl b≤FB,.int .i64 (cmpQ a b))
theorem fCmpS_ok (hP:PrgOk P) (args p r):fCmpS args=some (p,r)→p→CSpec P 30 args r:=onF2_ok (fun a b h=>by exact fCmp_spec hP a b h.1 h.2) args p r
theorem jAdd_spec (hP:PrgOk P) (a b:Rat) (ha:fl a≤FB) (hb:fl b≤FB):CSpec P 137 [(.agg [.opq (.frac (a)),.pad,.pad,.pad,.pad]),(.agg [.opq (.frac (b)),.pad,.pad,.pad,.pad]),.fn 138 [] []] (.agg [.opq (.frac (qadd a b)),.pad,.pad,.pad,.pad]):=by
 have HE:=Ft1_all hP T2 hP.t2
 rw [qadd_eq]
 refine CSpec.cv ?_ (.fracIn a (.fracIn b (.refl _)))
 have a1:wl a.num≤34359738368:=Nat.le_trans (fl_num ha) (by decide)
 have a2:blen a.den≤34359738368:=Nat.le_trans (fl_den ha) (by decide)
 have a3:wl a.num≤68719476736:=Nat.le_trans (fl_num ha) (by decide)
 have a4:blen a.den≤68719476736:=Nat.le_trans (fl_den ha) (by decide)
 have a5:0<a.den:=a.den_pos
 have b1:wl b.num≤34359738368:=Nat.le_trans (fl_num hb) (by decide)
 have b2:blen b.den≤34359738368:=Nat.le_trans (fl_den hb) (by decide)
 have b3:wl b.num≤68719476736:=Nat.le_trans (fl_num hb) (by decide)
 have b4:blen b.den≤68719476736:=Nat.le_trans (fl_den hb) (by decide)
 have b5:0<b.den:=b.den_pos
 have m0:wl (a.num+b.num)≤34359738368:=Nat.le_trans (wl_add (fl_num ha) (fl_num hb)) (by decide)
 have m1:wl (a.num*b.den)≤34359738368:=Nat.le_trans (wl_mul (fl_num ha) (fl_denZ hb)) (by decide)
 have m2:wl (b.num*a.den)≤34359738368:=Nat.le_trans (wl_mul (fl_num hb) (fl_denZ ha)) (by decide)
 have m3:wl (a.num*b.den+b.num*a.den)≤34359738368:=Nat.le_trans (wl_add (wl_mul (fl_num ha) (fl_denZ hb)) (wl_mul (fl_num hb) (fl_denZ ha))) (by decide)
 have m4:blen (a.den*b.den)≤34359738368:=Nat.le_trans (blen_mul_le (fl_den ha) (fl_den hb)) (by decide)
 have m5:0<a.den*b.den:=Nat.mul_pos a5 b5
 by_cases h:a.den=1∧b.den=1
 · refine CSpec.conv (r:=.agg (fC (a+b))) ?_ (.frac _)
   have e:fC (a+b)=[.opq (.whole (a.num+b.num)),.pad,.pad,.opq (.nat 0),.pad]:=by
    rw [add_mk,h.1,h.2,fC_mk (by decide) (Nat.gcd_one_right _),Int.natCast_one,Int.mul_one,Int.mul_one]
   have h1':decide (a.den=1)=true:=decide_eq_true h.1
   have h2':decide (b.den=1)=true:=decide_eq_true h.2
   rw [e]
   unfold fC
   refine CSpec_go (E:=⟨T2,Ft1⟩) (fn137 hP) HE hP.mix ?_
   simp only [go_sem,a1,a2,b1,b2,m0,h1',h2']
   exact fin_z
 · rw [add_mk,← qlow_eq]
   unfold fC
   refine CSpec_go (E:=⟨T2,Ft1⟩) (fn137 hP) HE hP.mix ?_
   by_cases h1:a.den=1
   · have h2:¬ b.den=1:=fun e=>h ⟨h1,e⟩
     have h1':decide (a.den=1)=true:=decide_eq_true h1
     have h2':decide (b.den=1)=false:=decide_eq_false h2
     simp only [go_sem,a1,a2,a4,b1,b2,b4,m1,m2,m3,m4,m5,h1',h2']
     exact fin_z
   · have h1':decide (a.den=1)=false:=decide_eq_false h1
     simp only [go_sem,a1,a2,a4,b1,b2,b4,m1,m2,m3,m4,m5,h1']
     exact fin_z
theorem jSub_spec (hP:PrgOk P) (a b:Rat) (ha:fl a≤FB) (hb:fl b≤FB):CSpec P 137 [(.agg [.opq (.frac (a)),.pad,.pad,.pad,.pad]),(.agg [.opq (.frac (b)),.pad,.pad,.pad,.pad]),.fn 159 [] []] (.agg [.opq (.frac (qsub a b)),.pad,.pad,.pad,.pad]):=by
 have HE:=Ft1_all hP T2 hP.t2
 rw [qsub_eq]
 refine CSpec.cv ?_ (.fracIn a (.fracIn b (.refl _)))
 have a1:wl a.num≤34359738368:=Nat.le_trans (fl_num ha) (by decide)
 have a2:blen a.den≤34359738368:=Nat.le_trans (fl_den ha) (by decide)
 have a3:wl a.num≤68719476736:=Nat.le_trans (fl_num ha) (by decide)
 have a4:blen a.den≤68719476736:=Nat.le_trans (fl_den ha) (by decide)
 have a5:0<a.den:=a.den_pos
 have b1:wl b.num≤34359738368:=Nat.le_trans (fl_num hb) (by decide)
 have b2:blen b.den≤34359738368:=Nat.le_trans (fl_den hb) (by decide)
 have b3:wl b.num≤68719476736:=Nat.le_trans (fl_num hb) (by decide)
 have b4:blen b.den≤68719476736:=Nat.le_trans (fl_den hb) (by decide)
 have b5:0<b.den:=b.den_pos
 have m0:wl (a.num-b.num)≤34359738368:=Nat.le_trans (wl_sub (fl_num ha) (fl_num hb)) (by decide)
 have m1:wl (a.num*b.den)≤34359738368:=Nat.le_trans (wl_mul (fl_num ha) (fl_denZ hb)) (by decide)
 have m2:wl (b.num*a.den)≤34359738368:=Nat.le_trans (wl_mul (fl_num hb) (fl_denZ ha)) (by decide)
 have m3:wl (a.num*b.den-b.num*a.den)≤34359738368:=Nat.le_trans (wl_sub (wl_mul (fl_num ha) (fl_denZ hb)) (wl_mul (fl_num hb) (fl_denZ ha))) (by decide)
 have m4:blen (a.den*b.den)≤34359738368:=Nat.le_trans (blen_mul_le (fl_den ha) (fl_den hb)) (by decide)
 have m5:0<a.den*b.den:=Nat.mul_pos a5 b5
 by_cases h:a.den=1∧b.den=1
 · refine CSpec.conv (r:=.agg (fC (a-b))) ?_ (.frac _)
   have e:fC (a-b)=[.opq (.whole (a.num-b.num)),.pad,.pad,.opq (.nat 0),.pad]:=by
    rw [sub_mk,h.1,h.2,fC_mk (by decide) (Nat.gcd_one_right _),Int.natCast_one,Int.mul_one,Int.mul_one]
   have h1':decide (a.den=1)=true:=decide_eq_true h.1
   have h2':decide (b.den=1)=true:=decide_eq_true h.2
   rw [e]
   unfold fC
   refine CSpec_go (E:=⟨T2,Ft1⟩) (fn137 hP) HE hP.mix ?_
   simp only [go_sem,a1,a2,b1,b2,m0,h1',h2']
   exact fin_z
 · rw [sub_mk,← qlow_eq]
   unfold fC
   refine CSpec_go (E:=⟨T2,Ft1⟩) (fn137 hP) HE hP.mix ?_
   by_cases h1:a.den=1
   · have h2:¬ b.den=1:=fun e=>h ⟨h1,e⟩
     have h1':decide (a.den=1)=true:=decide_eq_true h1
     have h2':decide (b.den=1)=false:=decide_eq_false h2
     simp only [go_sem,a1,a2,a4,b1,b2,b4,m1,m2,m3,m4,m5,h1',h2']
     exact fin_z
   · have h1':decide (a.den=1)=false:=decide_eq_false h1
     simp only [go_sem,a1,a2,a4,b1,b2,b4,m1,m2,m3,m4,m5,h1']
     exact fin_z
noncomputable def joinS:List AV→Option (Prop × AV)
 | [x,y,.fn f [] []]=>(rawF x).bind fun a=>(rawF y).map fun b=>(a.1∧b.1∧fl a.2≤FB∧fl b.2≤FB∧(f=138∨f=159),(.agg [.opq (.frac (if f=138 then qadd a.2 b.2 else qsub a.2 b.2)),.pad,.pad,.pad,.pad]))
 | _=>none
theorem joinS_eq (x y f):joinS [x,y,.fn f [] []]=(rawF x).bind fun a=>(rawF y).map fun b=>(a.1∧b.1∧fl a.2≤FB∧fl b.2≤FB∧(f=138∨f=159),(.agg [.opq (.frac (if f=138 then qadd a.2 b.2 else qsub a.2 b.2)),.pad,.pad,.pad,.pad])):=rfl
theorem joinS_ok (hP:PrgOk P) (args p r) (he:joinS args=some (p,r)) (hp:p):CSpec P 137 args r:=by
 unfold joinS at he
 split at he
 · simp only [Option.bind_eq_some_iff,Option.map_eq_some_iff,Prod.exists,Prod.mk.injEq] at he
   obtain ⟨q,a,h1,q',b,h2,rfl,rfl⟩:=he
   obtain ⟨p1,p2,p3,p4,h|h⟩:=hp
   · subst h
     exact (jAdd_spec hP a b p3 p4).cv (rawF_cv h1 p1 (rawF_cv h2 p2 (.refl _)))
   · subst h
     exact (jSub_spec hP a b p3 p4).cv (rawF_cv h1 p1 (rawF_cv h2 p2 (.refl _)))
 · simp at he
attribute [go_sem] joinS_eq fCmpS
noncomputable def Ft2:Nat→List AV→Option (Prop × AV):=addS (addS Ft1 30 fCmpS) 137 joinS
theorem Ft2_all (hP:PrgOk P) (T) (hT:TyOk P T):EnvOk P ⟨T,Ft2⟩:=(((Ft1_all hP T hT).add (fCmpS_ok hP)).add (joinS_ok hP))
theorem Ft2_at (f a):Ft2 f a=(addS (addS Ft1 30 fCmpS) 137 joinS) f a:=rfl
attribute [go_sem] Ft2_at
theorem fAdd_spec (hP:PrgOk P) (a b:Rat) (ha:fl a≤FB) (hb:fl b≤FB):CSpec P 88 [(.agg [.opq (.frac (a)),.pad,.pad,.pad,.pad]),(.agg [.opq (.frac (b)),.pad,.pad,.pad,.pad])] (.agg [.opq (.frac (qadd a b)),.pad,.pad,.pad,.pad]):=by
 have HE:=Ft2_all hP TF hP.tF
 refine CSpec_go (E:=⟨TF,Ft2⟩) (fn88 hP) HE hP.mix ?_
 simp only [go_sem,ha,hb]
 exact fin_z
noncomputable def fAddS:List AV→Option (Prop × AV):=onF2 fun a b=>(fl a≤FB∧fl b≤FB,(.agg [.opq (.frac (qadd a b)),.pad,.pad,.pad,.pad]))
theorem fAddS_ok (hP:PrgOk P) (args p r):fAddS args=some (p,r)→p→CSpec P 88 args r:=onF2_ok (fun a b h=>by exact fAdd_spec hP a b h.1 h.2) args p r
theorem fSub_spec (hP:PrgOk P) (a b:Rat) (ha:fl a≤FB) (hb:fl b≤FB):CSpec P 122 [(.agg [.opq (.frac (a)),.pad,.pad,.pad,.pad]),(.agg [.opq (.frac (b)),.pad,.pad,.pad,.pad])] (.agg [.opq (.frac (qsub a b)),.pad,.pad,.pad,.pad]):=by
 have HE:=Ft2_all hP TF hP.tF
 refine CSpec_go (E:=⟨TF,Ft2⟩) (fn122 hP) HE hP.mix ?_
 simp only [go_sem,ha,hb]
 exact fin_z
noncomputable def fSubS:List AV→Option (Prop × AV):=onF2 fun a b=>(fl a≤FB∧fl b≤FB,(.agg [.opq (.frac (qsub a b)),.pad,.pad,.pad,.pad]))
theorem fSubS_ok (hP:PrgOk P) (args p r):fSubS args=some (p,r)→p→CSpec P 122 args r:=onF2_ok (fun a b h=>by exact fSub_spec hP a b h.1 h.2) args p r
theorem fMul_spec (hP:PrgOk P) (a b:Rat) (ha:fl a≤FB) (hb:fl b≤FB):CSpec P 83 [(.agg [.opq (.frac (a)),.pad,.pad,.pad,.pad]),(.agg [.opq (.frac (b)),.pad,.pad,.pad,.pad])] (.agg [.opq (.frac (qmul a b)),.pad,.pad,.pad,.pad]):=by
 have HE:=Ft1_all hP T2 hP.t2
 rw [qmul_eq]
 refine CSpec.cv ?_ (.fracIn a (.fracIn b .nil))
 have a1:wl a.num≤34359738368:=Nat.le_trans (fl_num ha) (by decide)
 have a2:blen a.den≤34359738368:=Nat.le_trans (fl_den ha) (by decide)
 have a3:wl a.num≤68719476736:=Nat.le_trans (fl_num ha) (by decide)
 have a4:blen a.den≤68719476736:=Nat.le_trans (fl_den ha) (by decide)
 have a5:0<a.den:=a.den_pos
 have b1:wl b.num≤34359738368:=Nat.le_trans (fl_num hb) (by decide)
 have b2:blen b.den≤34359738368:=Nat.le_trans (fl_den hb) (by decide)
 have b3:wl b.num≤68719476736:=Nat.le_trans (fl_num hb) (by decide)
 have b4:blen b.den≤68719476736:=Nat.le_trans (fl_den hb) (by decide)
 have b5:0<b.den:=b.den_pos
 have m0:wl (a.num*b.num)≤34359738368:=Nat.le_trans (wl_mul (fl_num ha) (fl_num hb)) (by decide)
 have m4:blen (a.den*b.den)≤34359738368:=Nat.le_trans (blen_mul_le (fl_den ha) (fl_den hb)) (by decide)
 have m5:0<a.den*b.den:=Nat.mul_pos a5 b5
 by_cases h:a.den=1∧b.den=1
 · refine CSpec.conv (r:=.agg (fC (a*b))) ?_ (.frac _)
   have e:fC (a*b)=[.opq (.whole (a.num*b.num)),.pad,.pad,.opq (.nat 0),.pad]:=by
    rw [mul_mk,h.1,h.2,fC_mk (by decide) (Nat.gcd_one_right _)]
   have h1':decide (a.den=1)=true:=decide_eq_true h.1
   have h2':decide (b.den=1)=true:=decide_eq_true h.2
   rw [e]
   unfold fC
   refine CSpec_go (E:=⟨T2,Ft1⟩) (fn83 hP) HE hP.mix ?_
   simp only [go_sem,a1,a2,b1,b2,m0,h1',h2']
   exact fin_z
 · rw [mul_mk,← qlow_eq]
   unfold fC
   refine CSpec_go (E:=⟨T2,Ft1⟩) (fn83 hP) HE hP.mix ?_
   by_cases h1:a.den=1
   · have h2:¬ b.den=1:=fun e=>h ⟨h1,e⟩
     have h1':decide (a.den=1)=true:=decide_eq_true h1
     have h2':decide (b.den=1)=false:=decide_eq_false h2
     simp only [go_sem,a1,a2,a4,b1,b2,b4,m0,m4,m5,h1',h2']
     exact fin_z
   · have h1':decide (a.den=1)=false:=decide_eq_false h1
     simp only [go_sem,a1,a2,a4,b1,b2,b4,m0,m4,m5,h1']
     exact fin_z
noncomputable def fMulS:List AV→Option (Prop × AV):=onF2 fun a b=>(fl a≤FB∧fl b≤FB,(.agg [.opq (.frac (qmul a b)),.pad,.pad,.pad,.pad]))
theorem fMulS_ok (hP:PrgOk P) (args p r):fMulS args=some (p,r)→p→CSpec P 83 args r:=onF2_ok (fun a b h=>by exact fMul_spec hP a b h.1 h.2) args p r
theorem sgn_zero (z:Int):(sgnZ z == 0)=decide (z=0):=by
 unfold sgnZ; split
 · rename_i h; rw [decide_eq_true h]; rfl
 · rename_i h; rw [decide_eq_false h]; split<;>rfl
theorem fDiv_spec (hP:PrgOk P) (a b:Rat) (ha:fl a≤FB) (hb:fl b≤FB):CSpec P 57 [(.agg [.opq (.frac (a)),.pad,.pad,.pad,.pad]),(.agg [.opq (.frac (b)),.pad,.pad,.pad,.pad])] (if b=0 then .tup [(.agg [.opq (.frac (0)),.pad,.pad,.pad,.pad]),.int .i64 11] else .tup [(.agg [.opq (.frac (qdiv a b)),.pad,.pad,.pad,.pad]),.int .i64 0]):=by
 have HE:=Ft1_all hP T2 hP.t2
 refine CSpec.cv ?_ (.fracIn a (.fracIn b .nil))
 have a1:wl a.num≤34359738368:=Nat.le_trans (fl_num ha) (by decide)
 have a2:blen a.den≤34359738368:=Nat.le_trans (fl_den ha) (by decide)
 have a3:wl a.num≤68719476736:=Nat.le_trans (fl_num ha) (by decide)
 have a4:blen a.den≤68719476736:=Nat.le_trans (fl_den ha) (by decide)
 have a5:0<a.den:=a.den_pos
 have b1:wl b.num≤34359738368:=Nat.le_trans (fl_num hb) (by decide)
 have b2:blen b.den≤34359738368:=Nat.le_trans (fl_den hb) (by decide)
 have b3:wl b.num≤68719476736:=Nat.le_trans (fl_num hb) (by decide)
 have b4:blen b.den≤68719476736:=Nat.le_trans (fl_den hb) (by decide)
 have b5:0<b.den:=b.den_pos
 by_cases h0:b=0
 · have hs:cmpQ b 0=0:=by rw [h0]; rfl
   rw [if_pos h0]
   refine CSpec.conv (r:=.tup [.agg (fC 0),.int .i64 11]) ?_ (CvL.conv (CvL.tup (.fracOut 0 (.refl _)) .nil))
   have e:fC 0=[.opq (.whole 0),.pad,.pad,.opq (.nat 0),.pad]:=rfl
   rw [e]
   unfold fC
   refine CSpec_go (E:=⟨T2,Ft1⟩) (fn57 hP) HE hP.mix ?_
   simp only [go_sem,b3,hs]
   exact fin_z
 · have hn:b.num ≠ 0:=fun e=>h0 (num_zero.1 e)
   have hs:(sgnZ b.num == 0)=false:=by rw [sgn_zero,decide_eq_false hn]
   have hr : -9223372036854775808≤sgnZ b.num∧sgnZ b.num≤9223372036854775807:=by
    unfold sgnZ; split
    · decide
    · split<;>decide
   have hr1:=hr.1
   have hr2:=hr.2
   have sb:wl (sgnZ b.num)≤34359738368:=Nat.le_trans (wl_sgn _) (by decide)
   have m1:wl (a.num*sgnZ b.num)≤34359738368:=Nat.le_trans (wl_mul (fl_num ha) (wl_sgn _)) (by decide)
   have m2:wl (a.num*sgnZ b.num*b.den)≤34359738368:=Nat.le_trans (wl_mul (wl_mul (fl_num ha) (wl_sgn _)) (fl_denZ hb)) (by decide)
   have m3:blen (a.den*b.num.natAbs)≤34359738368:=Nat.le_trans (blen_mul_le (fl_den ha) (fl_num hb)) (by decide)
   have m4:0<a.den*b.num.natAbs:=Nat.mul_pos a5 (by omega)
   have b6:blen b.num.natAbs≤68719476736:=b3
   rw [if_neg h0,qdiv_eq,div_mk hn,← qlow_eq]
   unfold fC
   refine CSpec_go (E:=⟨T2,Ft1⟩) (fn57 hP) HE hP.mix ?_
   simp only [go_sem,a1,a2,a4,b1,b2,b3,b4,b6,hs,← sgn_cmp,hr1,hr2,sb,m1,m2,m3,m4]
   exact fin_z
noncomputable def fDivS:List AV→Option (Prop × AV):=onF2 fun a b=>(fl a≤FB∧fl b≤FB,if b=0 then .tup [(.agg [.opq (.frac (0)),.pad,.pad,.pad,.pad]),.int .i64 11] else .tup [(.agg [.opq (.frac (qdiv a b)),.pad,.pad,.pad,.pad]),.int .i64 0])
theorem fDivS_ok (hP:PrgOk P) (args p r):fDivS args=some (p,r)→p→CSpec P 57 args r:=onF2_ok (fun a b h=>by exact fDiv_spec hP a b h.1 h.2) args p r
attribute [go_sem] fAddS fSubS fMulS fDivS
noncomputable def Ft3:Nat→List AV→Option (Prop × AV):=addS (addS (addS (addS Ft2 88 fAddS) 122 fSubS) 83 fMulS) 57 fDivS
theorem Ft3_all (hP:PrgOk P) (T) (hT:TyOk P T):EnvOk P ⟨T,Ft3⟩:=(((((Ft2_all hP T hT).add (fAddS_ok hP)).add (fSubS_ok hP)).add (fMulS_ok hP)).add (fDivS_ok hP))
theorem Ft3_at (f a):Ft3 f a=(addS (addS (addS (addS Ft2 88 fAddS) 122 fSubS) 83 fMulS) 57 fDivS) f a:=rfl
attribute [go_sem] Ft3_at
theorem qtS_one {q:Rat} (h:q.den=1):qtS q=itS q.num:=by unfold qtS; rw [if_pos h]
theorem qtS_two {q:Rat} (h:¬ q.den=1):qtS q=itS q.num++⟨#[47]⟩++decS q.den:=by unfold qtS; rw [if_neg h]
theorem fText_spec (hP:PrgOk P) (q:Rat) (h:fl q≤FB):CSpec P 53 [(.agg [.opq (.frac (q)),.pad,.pad,.pad,.pad])] (.str (qtS q)):=by
 have HE:=Ft1_all hP T2 hP.t2
 refine CSpec.cv ?_ (.fracIn q .nil)
 have a1:wl q.num≤34359738368:=Nat.le_trans (fl_num h) (by decide)
 have a2:blen q.den≤34359738368:=Nat.le_trans (fl_den h) (by decide)
 have a3:wl q.num≤68719476736:=Nat.le_trans (fl_num h) (by decide)
 have a4:blen q.den≤68719476736:=Nat.le_trans (fl_den h) (by decide)
 have a5:0<q.den:=q.den_pos
 have hb:(blen (q.den-1) == 0)=decide (q.den=1):=by
  rw [Bool.eq_iff_iff]; simp only [beq_iff_eq,decide_eq_true_eq,blen_zero_iff]; omega
 have hl:blen (q.den-1)≤68719476736:=blen_le_of (Nat.sub_le _ _) a4
 have hb0:(blen 0 == 0)=true:=by decide
 have s1:(itS q.num).size+(#[47]:Array UInt8).size≤9223372036854775807:=by
  have hf:FB=1073741824:=rfl
  rw [size_bl]; have:=itS_len (fl_num h); have:(#[47]:Array UInt8).size=1:=rfl
  omega
 have s2:(itS q.num).size+(#[47]:Array UInt8).size+(decS q.den).size≤9223372036854775807:=by
  have hf:FB=1073741824:=rfl
  rw [size_bl,decS_size]
  have:=itS_len (fl_num h); have:=decL_len q.den; have:=fl_den h; have:(#[47]:Array UInt8).size=1:=rfl
  omega
 unfold fC
 refine CSpec_go (E:=⟨T2,Ft1⟩) (fn53 hP) HE hP.mix ?_
 by_cases h1:q.den=1
 · rw [qtS_one h1]
   simp only [go_sem,a1,a2,a3,a4,hb,hb0,hl,h1]
   exact fin_z
 · rw [qtS_two h1]
   simp only [go_sem,a1,a2,a3,a4,hb,hl,h1,s1,s2]
   exact fin_z
noncomputable def fTextS:List AV→Option (Prop × AV):=onF1 fun q=>(fl q≤FB,.str (qtS q))
theorem fTextS_ok (hP:PrgOk P) (args p r):fTextS args=some (p,r)→p→CSpec P 53 args r:=onF1_ok (fun a h=>by exact fText_spec hP a h) args p r
attribute [go_sem] fTextS
noncomputable def Ft4:Nat→List AV→Option (Prop × AV):=addS Ft3 53 fTextS
theorem Ft4_all (hP:PrgOk P) (T) (hT:TyOk P T):EnvOk P ⟨T,Ft4⟩:=((Ft3_all hP T hT).add (fTextS_ok hP))
theorem Ft4_at (f a):Ft4 f a=(addS Ft3 53 fTextS) f a:=rfl
attribute [go_sem] Ft4_at
end Go.Proofs.YtmahhmdeocnlgaaGreatDoor.AM
/- Texts of fractions: plain facts. -/
namespace Go.Proofs.YtmahhmdeocnlgaaGreatDoor.AM
set_option linter.all false
set_option autoImplicit true
set_option relaxedAutoImplicit true
open Go Go.Proofs
set_option maxRecDepth 100000
def hdL (c:Nat):List Nat→List Nat
 | []=>[]
 | x::t=>if x=c then [] else x::hdL c t
def tlL (c:Nat):List Nat→List Nat
 | []=>[]
 | x::t=>if x=c then t else tlL c t
theorem hd_no {c:Nat}:∀ {l:List Nat},c ∉ l→hdL c l=l∧tlL c l=[]∧ixL c l = -1
 | [],_=>⟨rfl,rfl,rfl⟩
 | x::t,h=>by
   have h1:¬ x=c:=fun e=>h (by simp [e])
   have ih:=hd_no (c:=c) (l:=t) fun e=>h (List.mem_cons_of_mem _ e)
   unfold hdL tlL ixL
   rw [if_neg h1,if_neg h1,if_neg h1,ih.1,ih.2.1,if_pos ih.2.2]
   exact ⟨rfl,rfl,rfl⟩
theorem hd_yes {c:Nat}:∀ {l:List Nat},c ∈ l→l=hdL c l++c::tlL c l∧ixL c l=((hdL c l).length:Int)
 | [],h=>by simp at h
 | x::t,h=>by
   unfold hdL tlL ixL
   by_cases h1:x=c
   · rw [if_pos h1,if_pos h1,if_pos h1,h1]; exact ⟨rfl,rfl⟩
   · have ih:=hd_yes (l:=t) (by
      rcases List.mem_cons.1 h with e|e
      · exact absurd e.symm h1
      · exact e)
     rw [if_neg h1,if_neg h1,if_neg h1,if_neg (by rw [ih.2]; omega),ih.2]
     refine ⟨by rw [List.cons_append,← ih.1],by rw [List.length_cons]; omega⟩
theorem hd_app {c:Nat} {b:List Nat}:∀ {a:List Nat},c ∉ a→hdL c (a++c::b)=a∧tlL c (a++c::b)=b
 | [],_=>by simp [hdL,tlL]
 | x::t,h=>by
   have h1:¬ x=c:=fun e=>h (by simp [e])
   have ih:=hd_app (c:=c) (b:=b) (a:=t) fun e=>h (List.mem_cons_of_mem _ e)
   rw [List.cons_append]
   unfold hdL tlL
   rw [if_neg h1,if_neg h1,ih.1,ih.2]
   exact ⟨rfl,rfl⟩
theorem take_hd (c:Nat):∀ l:List Nat,l.take (hdL c l).length=hdL c l
 | []=>rfl
 | x::t=>by
   have ih:=take_hd c t
   unfold hdL; split
   · rfl
   · rw [List.length_cons,List.take_succ_cons,ih]
theorem drop_hd (c:Nat):∀ l:List Nat,l.drop ((hdL c l).length+1)=tlL c l
 | []=>rfl
 | x::t=>by
   have ih:=drop_hd c t
   unfold hdL tlL; split
   · rfl
   · rw [List.length_cons,List.drop_succ_cons,ih]
theorem hd_le (c:Nat) (l:List Nat):(hdL c l).length≤l.length:=by
 have:=congrArg List.length (take_hd c l)
 rw [List.length_take] at this; omega
theorem hd_lt (c:Nat) (l:List Nat):((hdL c l).length<l.length)=(c ∈ l):=by
 rw [eq_iff_iff]
 constructor
 · intro h
   by_cases hc:c ∈ l
   · exact hc
   · rw [(hd_no hc).1] at h; omega
 · intro h
   have:=congrArg List.length (hd_yes h).1
   rw [List.length_append,List.length_cons] at this; omega
theorem tl_le (c:Nat) (l:List Nat):(tlL c l).length≤l.length:=by
 rw [← drop_hd,List.length_drop]; omega
def cutA (c:Nat) (s:ByteArray):ByteArray:=s.extract 0 (hdL c (bl s)).length
def cutB (c:Nat) (s:ByteArray):ByteArray:=s.extract ((hdL c (bl s)).length+1) s.size
theorem bl_cutA (c s):bl (cutA c s)=hdL c (bl s):=by
 unfold cutA; rw [bl_extract,List.drop_zero,Nat.sub_zero,take_hd]
theorem bl_cutB (c s):bl (cutB c s)=tlL c (bl s):=by
 unfold cutB; rw [bl_extract,drop_hd]
 refine List.take_of_length_le ?_
 have h:=congrArg List.length (drop_hd c (bl s))
 rw [List.length_drop] at h
 rw [size_bl]; omega
theorem cutA_no {c s} (h:c ∉ bl s):cutA c s=s:=bl_inj (by rw [bl_cutA,(hd_no h).1])
theorem cutB_no {c s} (h:c ∉ bl s):cutB c s=⟨#[]⟩:=bl_inj (by rw [bl_cutB,(hd_no h).2.1]; rfl)
def dgs (l:List Nat):Prop:=∀ c ∈ l,48≤c∧c≤57
instance dgs_dec (l:List Nat):Decidable (dgs l):=by unfold dgs; infer_instance
theorem isDg_eq (b:UInt8):isDg b=decide (48≤b.toNat∧b.toNat≤57):=by
 unfold isDg; rw [Bool.eq_iff_iff]; simp
theorem dw_nil {α:Type} {p:α→Bool}:∀ {l:List α},l.dropWhile p=[] ↔ ∀ x ∈ l,p x=true
 | []=>by simp
 | a::l=>by
   rw [List.dropWhile_cons]
   have ih:=dw_nil (p:=p) (l:=l)
   by_cases h:p a=true
   · rw [if_pos h,ih]; simp [h]
   · rw [if_neg h]; simp [h]
theorem trD_nil (s:ByteArray):(bl (trD s)).isEmpty=decide (dgs (bl s)):=by
 rw [Bool.eq_iff_iff,decide_eq_true_eq,List.isEmpty_iff]
 unfold bl trD dgs
 rw [List.map_eq_nil_iff]
 show _=[] ↔ _
 rw [dw_nil]
 constructor
 · intro h c hc
   obtain ⟨b,hb,rfl⟩:=List.mem_map.1 hc
   have hb':b ∈ s.data.toList.reverse:=List.mem_reverse.2 hb
   rw [← List.takeWhile_append_dropWhile (p:=isDg) (l:=s.data.toList.reverse)] at hb'
   have k:isDg b=true:=by
    rcases List.mem_append.1 hb' with hb'|hb'
    · exact List.all_eq_true.1 List.all_takeWhile b hb'
    · exact h b (List.mem_reverse.2 hb')
   rw [isDg_eq] at k; exact of_decide_eq_true k
 · intro h b hb
   have hn:s.data.toList.reverse.dropWhile isDg=[]:=dw_nil.2 fun x hx=>by
    rw [isDg_eq]; exact decide_eq_true (h _ (List.mem_map.2 ⟨x,List.mem_reverse.1 hx,rfl⟩))
   rw [hn] at hb; simp at hb
theorem okD_dgs {l:List Nat}:okD l ↔ l ≠ []∧(dgs l∧(l.length=1∨l.getD 0 0 ≠ 48)):=by
 unfold okD dgs
 constructor
 · rintro ⟨h1,h2,h3⟩
   refine ⟨h1,h3,?_⟩
   by_cases h:l.length=1
   · exact .inl h
   · have:0<l.length:=List.length_pos_iff.2 h1
     exact .inr fun e=>h2 ⟨by omega,e⟩
 · rintro ⟨h1,h3,h2⟩
   refine ⟨h1,?_,h3⟩
   rintro ⟨a,b⟩
   rcases h2 with h2|h2
   · omega
   · exact h2 b
theorem okD_no {l:List Nat} (h:okD l) {c:Nat} (hc:c<48):c ∉ l:=fun e=>by have:=(h.2.2 c e).1; omega
def denL (l:List Nat):List Nat:=if 47 ∈ l then tlL 47 l else [49]
def mnL (l:List Nat):Bool:=decide ((hdL 47 l).getD 0 0=45)
def szL (l:List Nat):List Nat:=if (hdL 47 l).getD 0 0=45 then (hdL 47 l).drop 1 else hdL 47 l
noncomputable def parF (l:List Nat):Rat × Int :=
 if ¬ okD (szL l)∨¬ okD (denL l)∨(mnL l=true∧szL l=[48]) then (0,12)
 else if 256<(szL l).length∨256<(denL l).length then (0,3)
 else if 47 ∈ l∧(valL (denL l)<2∨Nat.gcd (valL (szL l)) (valL (denL l)) ≠ 1) then (0,12)
 else (qlow (sg (mnL l) (valL (szL l))) (valL (denL l)),0)
theorem parF_1 {l} (h:¬ okD (szL l)∨¬ okD (denL l)∨(mnL l=true∧szL l=[48])):parF l=(0,12):=if_pos h
theorem parF_2 {l} (h:¬ (¬ okD (szL l)∨¬ okD (denL l)∨(mnL l=true∧szL l=[48]))) (h2:256<(szL l).length∨256<(denL l).length):parF l=(0,3):=by
 unfold parF; rw [if_neg h,if_pos h2]
theorem parF_3 {l} (h:¬ (¬ okD (szL l)∨¬ okD (denL l)∨(mnL l=true∧szL l=[48]))) (h2:¬ (256<(szL l).length∨256<(denL l).length)) (h3:47 ∈ l∧(valL (denL l)<2∨Nat.gcd (valL (szL l)) (valL (denL l)) ≠ 1)):parF l=(0,12):=by
 unfold parF; rw [if_neg h,if_neg h2,if_pos h3]
theorem parF_4 {l} (h:¬ (¬ okD (szL l)∨¬ okD (denL l)∨(mnL l=true∧szL l=[48]))) (h2:¬ (256<(szL l).length∨256<(denL l).length)) (h3:¬ (47 ∈ l∧(valL (denL l)<2∨Nat.gcd (valL (szL l)) (valL (denL l)) ≠ 1))):parF l=(qlow (sg (mnL l) (valL (szL l))) (valL (denL l)),0):=by
 unfold parF; rw [if_neg h,if_neg h2,if_neg h3]
theorem den_one {l} (h:47 ∉ l):denL l=[49]:=if_neg h
theorem sz_mn {l} (h:mnL l=true):hdL 47 l=45::szL l:=by
 have h':=of_decide_eq_true h
 unfold szL; rw [if_pos h']
 cases hh:hdL 47 l with
 | nil=>rw [hh] at h'; simp at h'
 | cons c t=>rw [hh] at h'; simp at h'; rw [h']; rfl
theorem sz_ps {l} (h:mnL l=false):hdL 47 l=szL l:=by
 have h':=of_decide_eq_false h
 unfold szL; rw [if_neg h']
theorem val_zero {l:List Nat} (h:okD l) (h0:valL l=0):l=[48]:=by
 have:=decL_val h
 rw [h0] at this; rw [← this]; rfl
theorem num_text {l} (h1:okD (szL l)) (h2:¬ (mnL l=true∧szL l=[48])):bl (itS (sg (mnL l) (valL (szL l))))=hdL 47 l:=by
 rw [bl_itS,sg_abs,decL_val h1]
 cases hm:mnL l
 · rw [if_neg (by rw [sg_f]; omega)]; exact (sz_ps hm).symm
 · rw [if_pos]
   · exact (sz_mn hm).symm
   · rw [sg_t]
     have:valL (szL l) ≠ 0:=fun e=>h2 ⟨hm,val_zero h1 e⟩
     omega
theorem bl_qtS (q:Rat):bl (qtS q)=if q.den=1 then bl (itS q.num) else bl (itS q.num)++47::decL q.den:=by
 unfold qtS; split
 · rfl
 · rw [bl_app,bl_app,bl_decS,List.append_assoc]; rfl
theorem no_stroke (z:Int):47 ∉ bl (itS z):=by
 rw [bl_itS]
 have:=okD_no (okD_decL z.natAbs) (c:=47) (by decide)
 split
 · intro e
   rcases List.mem_cons.1 e with e|e
   · exact absurd e (by decide)
   · exact this e
 · exact this
theorem mk_low {m:Bool} {n d:Nat} (hd:0<d) (hg:Nat.gcd n d=1) (h:m=true→0<n):(mkRat (sg m n) d).num=sg m n∧(mkRat (sg m n) d).den=d:=by
 rw [mk_num hd,mk_den hd,sg_abs,hg,Nat.div_one,Nat.div_one]
 refine ⟨?_,rfl⟩
 have e:decide (sg m n<0)=m:=by
  cases m
  · rw [sg_f]; exact decide_eq_false (by omega)
  · rw [sg_t]; have:=h rfl; exact decide_eq_true (by omega)
 rw [e]
theorem text_of {l} (h1:okD (szL l)) (h2:¬ (mnL l=true∧szL l=[48])) (h3:okD (denL l)) (h4:47 ∈ l→2≤valL (denL l)) (h5:47 ∈ l→Nat.gcd (valL (szL l)) (valL (denL l))=1):bl (qtS (qlow (sg (mnL l) (valL (szL l))) (valL (denL l))))=l:=by
 have hn:=num_text h1 h2
 have hm:mnL l=true→0<valL (szL l):=fun hm=>Nat.pos_of_ne_zero fun e=>h2 ⟨hm,val_zero h1 e⟩
 rw [bl_qtS,qlow_eq]
 by_cases hs:47 ∈ l
 · have h4':=h4 hs
   have k:=mk_low (d:=valL (denL l)) (by omega) (h5 hs) hm
   rw [k.1,k.2,if_neg (by omega),hn,decL_val h3,denL,if_pos hs]
   exact (hd_yes hs).1.symm
 · have hd1:valL (denL l)=1:=by rw [den_one hs]; rfl
   rw [hd1]
   have k:=mk_low (d:=1) (by decide) (Nat.gcd_one_right _) hm
   rw [k.1,k.2,if_pos rfl,hn,(hd_no hs).1]
theorem text_no {l} (hs:47 ∈ l) (h4:2≤valL (denL l)) (h5:Nat.gcd (valL (szL l)) (valL (denL l)) ≠ 1):bl (qtS (qlow (sg (mnL l) (valL (szL l))) (valL (denL l)))) ≠ l:=by
 intro e
 rw [bl_qtS,qlow_eq] at e
 split at e
 · exact no_stroke _ (by rw [e]; exact hs)
 · have h:=(hd_app (c:=47) (b:=decL (mkRat (sg (mnL l) (valL (szL l))) (valL (denL l))).den) (no_stroke (mkRat (sg (mnL l) (valL (szL l))) (valL (denL l))).num)).2
   rw [e] at h
   have h6:denL l=decL (mkRat (sg (mnL l) (valL (szL l))) (valL (denL l))).den:=by rw [← h,denL,if_pos hs]
   have h7:=congrArg valL h6
   rw [valL_decL,mk_den (by omega),sg_abs] at h7
   have hg:0<Nat.gcd (valL (szL l)) (valL (denL l)):=Nat.gcd_pos_of_pos_right _ (by omega)
   have h8:valL (denL l) / Nat.gcd (valL (szL l)) (valL (denL l))<valL (denL l):=Nat.div_lt_self (by omega) (by omega)
   omega
theorem parF_cases (l:List Nat):(parF l=(0,12))∨(parF l=(0,3))∨(parF l=(qlow (sg (mnL l) (valL (szL l))) (valL (denL l)),0)∧okD (szL l)∧okD (denL l)∧¬ (mnL l=true∧szL l=[48])∧(szL l).length≤256∧(denL l).length≤256∧(47 ∈ l→2≤valL (denL l))∧(47 ∈ l→Nat.gcd (valL (szL l)) (valL (denL l))=1)):=by
 by_cases h1:¬ okD (szL l)∨¬ okD (denL l)∨(mnL l=true∧szL l=[48])
 · exact .inl (parF_1 h1)
 · by_cases h2:256<(szL l).length∨256<(denL l).length
   · exact .inr (.inl (parF_2 h1 h2))
   · by_cases h3:47 ∈ l∧(valL (denL l)<2∨Nat.gcd (valL (szL l)) (valL (denL l)) ≠ 1)
     · exact .inl (parF_3 h1 h2 h3)
     · simp only [not_or,Decidable.not_not] at h1 h2
       refine .inr (.inr ⟨parF_4 (by simp only [not_or,Decidable.not_not]; exact h1) (by simp only [not_or]; exact h2) h3,h1.1,h1.2.1,h1.2.2,by omega,by omega,fun hs=>?_,fun hs=>?_⟩)
       · exact Decidable.byContradiction fun e=>h3 ⟨hs,.inl (by omega)⟩
       · exact Decidable.byContradiction fun e=>h3 ⟨hs,.inr e⟩
theorem den_pos' {l} (h:47 ∈ l→2≤valL (denL l)):0<valL (denL l):=by
 by_cases hs:47 ∈ l
 · have:=h hs; omega
 · rw [den_one hs]; decide
theorem fl_zero (n:Nat):fl 0≤n+1:=fl_le.2 ⟨Nat.le_trans (Nat.le_of_ble_eq_true rfl:wl (0:Rat).num≤0) (by omega),Nat.le_trans (Nat.le_of_ble_eq_true rfl:blen (0:Rat).den≤1) (by omega)⟩
theorem parF_fl (l:List Nat):fl (parF l).1≤1024:=by
 rcases parF_cases l with h|h|⟨h,h1,h2,_,h4,h5,h6,_⟩
 · rw [h]; exact fl_zero 1023
 · rw [h]; exact fl_zero 1023
 · rw [h,qlow_eq]
   exact fl_mk (by unfold wl; rw [sg_abs]; exact valL_blen h1 h4) (valL_blen h2 h5) (den_pos' h6)
theorem parF_text {s:ByteArray} (h:(parF (bl s)).2=0):qtS (parF (bl s)).1=s:=by
 rcases parF_cases (bl s) with h'|h'|⟨h',h1,h2,h3,_,_,h6,h7⟩
 · rw [h'] at h; exact absurd h (by decide)
 · rw [h'] at h; exact absurd h (by decide)
 · rw [h']; exact bl_inj (text_of h1 h3 h2 h6 h7)
theorem qtS_inj {a b:Rat} (h:qtS a=qtS b):a=b:=by
 have e:=congrArg bl h
 rw [bl_qtS,bl_qtS] at e
 have na:=no_stroke a.num
 have nb:=no_stroke b.num
 by_cases h1:a.den=1
 · rw [if_pos h1] at e
   by_cases h2:b.den=1
   · rw [if_pos h2] at e
     exact Rat.ext (itS_inj (bl_inj e)) (by rw [h1,h2])
   · rw [if_neg h2] at e
     exact absurd (by rw [e]; simp) na
 · rw [if_neg h1] at e
   by_cases h2:b.den=1
   · rw [if_pos h2] at e
     exact absurd (by rw [← e]; simp) nb
   · rw [if_neg h2] at e
     have ha:=hd_app (b:=decL a.den) na
     have hb:=hd_app (b:=decL b.den) nb
     rw [e] at ha
     refine Rat.ext (itS_inj (bl_inj (ha.1.symm.trans hb.1))) ?_
     have:=congrArg valL (ha.2.symm.trans hb.2)
     rwa [valL_decL,valL_decL] at this
theorem qtS_eq (a b:Rat):((qtS a).toList == (qtS b).toList)=decide (a=b):=by
 rw [str_same]; exact decide_eq_decide.2 ⟨qtS_inj,fun h=>h ▸ rfl⟩
end Go.Proofs.YtmahhmdeocnlgaaGreatDoor.AM
/- Fractions: read from texts. -/
namespace Go.Proofs.YtmahhmdeocnlgaaGreatDoor.AM
set_option linter.all false
set_option autoImplicit true
set_option relaxedAutoImplicit true
open Go Go.Proofs
set_option maxRecDepth 100000
set_option maxHeartbeats 8000000
set_option linter.unusedSimpArgs false
variable {P:Program}
def ixbS:List AV→Option (Prop × AV)
 | [.str s,.str ⟨⟨[d]⟩⟩]=>some (True,.int .i64 (ixL d.toNat (bz s)))
 | _=>none
theorem ixbS_eq (s d):ixbS [.str s,.str ⟨#[d]⟩]=some (True,.int .i64 (ixL d.toNat (bz s))):=rfl
theorem ixbS_ok (hP:PrgOk P) (args p r) (h:ixbS args=some (p,r)) (hp:p):CSpec P 176 args r:=by
 unfold ixbS at h
 split at h
 · simp only [Option.some.injEq,Prod.mk.injEq] at h
   obtain ⟨rfl,rfl⟩:=h
   exact hP.ixb _ _
 · simp at h
def trmS:List AV→Option (Prop × AV)
 | [.str s,.str ⟨⟨[48,49,50,51,52,53,54,55,56,57]⟩⟩]=>some (s.size≤9223372036854775807,.str (trD s))
 | _=>none
theorem trmS_eq (s):trmS [.str s,.str ⟨#[48,49,50,51,52,53,54,55,56,57]⟩]=some (s.size≤9223372036854775807,.str (trD s)):=rfl
theorem trmS_ok (hP:PrgOk P) (args p r) (h:trmS args=some (p,r)) (hp:p):CSpec P 167 args r:=by
 unfold trmS at h
 split at h
 · simp only [Option.some.injEq,Prod.mk.injEq] at h
   obtain ⟨rfl,rfl⟩:=h
   exact hP.trm _ hp
 · simp at h
attribute [go_sem] ixbS_eq trmS_eq
noncomputable def Lt0:Nat→List AV→Option (Prop × AV):=addS (addS Ft4 176 ixbS) 167 trmS
theorem Lt0_all (hP:PrgOk P) (T) (hT:TyOk P T):EnvOk P ⟨T,Lt0⟩:=(((Ft4_all hP T hT).add (ixbS_ok hP)).add (trmS_ok hP))
theorem Lt0_at (f a):Lt0 f a=(addS (addS Ft4 176 ixbS) 167 trmS) f a:=rfl
attribute [go_sem] Lt0_at
theorem lcut_spec (hP:PrgOk P) (s:ByteArray) (d:UInt8) (hs:(bl s).length≤281474976710656):CSpec P 165 [.str s,.str ⟨#[d]⟩] (.tup [.str (cutA d.toNat s),.str (cutB d.toNat s),.bool (decide (d.toNat ∈ bl s))]):=by
 have HE:=Lt0_all hP TF hP.tF
 have e1:(#[d]:Array UInt8).size=1:=rfl
 have e2:(ByteArray.mk #[d]).size=1:=rfl
 by_cases h:d.toNat ∈ bl s
 · have hi:ixL d.toNat (bz s)=((hdL d.toNat (bl s)).length:Int):=(hd_yes h).2
   have hl:(hdL d.toNat (bl s)).length<(bl s).length:=by rw [hd_lt]; exact h
   have hd:decide (d.toNat ∈ bl s)=true:=decide_eq_true h
   rw [hd]
   unfold cutA cutB
   generalize (hdL d.toNat (bl s)).length=n at *
   have hw:IntKind.i64.wrap ((n:Int)+((1:Nat):Int))=((n+1:Nat):Int):=wi_add1 n (by omega)
   have h0:((0:Int)≤(n:Int))=True:=eq_true (by omega)
   have h1:(n:Int)≤((bl s).length:Int):=by omega
   have h2:((n+1:Nat):Int)≤((bl s).length:Int):=by omega
   refine CSpec_go (E:=⟨TF,Lt0⟩) (fn165 hP) HE hP.mix ?_
   simp only [go_sem,hi,hw,h0,h1,h2,e1,e2,size_bl,Int.toNat_natCast]
   exact fin_z
 · have hi:ixL d.toNat (bz s) = -1:=(hd_no h).2.2
   have hd:decide (d.toNat ∈ bl s)=false:=decide_eq_false h
   have hm:((0:Int)≤-1)=False:=eq_false (by decide)
   rw [hd,cutA_no h,cutB_no h]
   refine CSpec_go (E:=⟨TF,Lt0⟩) (fn165 hP) HE hP.mix ?_
   simp only [go_sem,hi,hm]
   exact fin_z
def lcutS:List AV→Option (Prop × AV)
 | [.str s,.str ⟨⟨[d]⟩⟩]=>some ((bl s).length≤281474976710656,.tup [.str (cutA d.toNat s),.str (cutB d.toNat s),.bool (decide (d.toNat ∈ bl s))])
 | _=>none
theorem lcutS_eq (s d):lcutS [.str s,.str ⟨#[d]⟩]=some ((bl s).length≤281474976710656,.tup [.str (cutA d.toNat s),.str (cutB d.toNat s),.bool (decide (d.toNat ∈ bl s))]):=rfl
theorem lcutS_ok (hP:PrgOk P) (args p r) (h:lcutS args=some (p,r)) (hp:p):CSpec P 165 args r:=by
 unfold lcutS at h
 split at h
 · simp only [Option.some.injEq,Prod.mk.injEq] at h
   obtain ⟨rfl,rfl⟩:=h
   exact lcut_spec hP _ _ hp
 · simp at h
attribute [go_sem] lcutS_eq
def tpS (d:UInt8) (s:ByteArray):ByteArray:=if (bl s).getD 0 0=d.toNat∧0<(bl s).length then s.extract 1 s.size else s
theorem bl_tpS (s:ByteArray):bl (tpS 45 s)=if (bl s).getD 0 0=45 then (bl s).drop 1 else bl s:=by
 unfold tpS
 have e:(45:UInt8).toNat=45:=rfl
 rw [e]
 by_cases h:(bl s).getD 0 0=45
 · have h0:0<(bl s).length:=by
    cases hb:bl s with
    | nil=>rw [hb] at h; simp at h
    | cons c t=>simp
   rw [if_pos ⟨h,h0⟩,if_pos h,bl_extract]
   exact List.take_of_length_le (by rw [List.length_drop,size_bl]; omega)
 · rw [if_neg (fun e=>h e.1),if_neg h]
theorem hpf_spec (hP:PrgOk P) (s:ByteArray) (d:UInt8):CSpec P 177 [.str s,.str ⟨#[d]⟩] (.bool (decide ((bl s).getD 0 0=d.toNat∧0<(bl s).length))):=by
 have HE:=Lt0_all hP TF hP.tF
 have e1:(#[d]:Array UInt8).size=1:=rfl
 have e2:(ByteArray.mk #[d]).size=1:=rfl
 by_cases h:0<(bl s).length
 · have h1:(1:Nat)≤(bl s).length:=h
   have h1':(1:Int)≤((bl s).length:Int):=by omega
   have h2:((s.extract 0 1).toList == (ByteArray.mk #[d]).toList)=decide ((bl s).getD 0 0=d.toNat∧0<(bl s).length):=by
    rw [str_same]
    refine decide_eq_decide.2 ?_
    have hb:bl (s.extract 0 1)=[(bl s).getD 0 0]:=by
     rw [bl_extract]
     cases hb:bl s with
     | nil=>rw [hb] at h; simp at h
     | cons c t=>rfl
    constructor
    · intro e
      rw [e] at hb
      exact ⟨(List.cons.inj hb).1.symm,h⟩
    · intro e
      exact bl_inj (by rw [hb,e.1]; rfl)
   have i1:(1:Int).toNat=1:=rfl
   refine CSpec_go (E:=⟨TF,Lt0⟩) (fn177 hP) HE hP.mix ?_
   simp only [go_sem,e1,e2,size_bl,h1,h1',h2,i1]
   exact fin_z
 · have h1:(1≤(bl s).length)=False:=eq_false (by omega)
   have h1':((1:Int)≤((bl s).length:Int))=False:=eq_false (by omega)
   rw [decide_eq_false (fun e=>h e.2)]
   refine CSpec_go (E:=⟨TF,Lt0⟩) (fn177 hP) HE hP.mix ?_
   simp only [go_sem,e1,e2,size_bl,h1,h1']
   exact fin_z
def hpfS:List AV→Option (Prop × AV)
 | [.str s,.str ⟨⟨[d]⟩⟩]=>some (True,.bool (decide ((bl s).getD 0 0=d.toNat∧0<(bl s).length)))
 | _=>none
theorem hpfS_eq (s d):hpfS [.str s,.str ⟨#[d]⟩]=some (True,.bool (decide ((bl s).getD 0 0=d.toNat∧0<(bl s).length))):=rfl
theorem hpfS_ok (hP:PrgOk P) (args p r) (h:hpfS args=some (p,r)) (hp:p):CSpec P 177 args r:=by
 unfold hpfS at h
 split at h
 · simp only [Option.some.injEq,Prod.mk.injEq] at h
   obtain ⟨rfl,rfl⟩:=h
   exact hpf_spec hP _ _
 · simp at h
attribute [go_sem] hpfS_eq
noncomputable def Lt1:Nat→List AV→Option (Prop × AV):=addS (addS Lt0 165 lcutS) 177 hpfS
theorem Lt1_all (hP:PrgOk P) (T) (hT:TyOk P T):EnvOk P ⟨T,Lt1⟩:=(((Lt0_all hP T hT).add (lcutS_ok hP)).add (hpfS_ok hP))
theorem Lt1_at (f a):Lt1 f a=(addS (addS Lt0 165 lcutS) 177 hpfS) f a:=rfl
attribute [go_sem] Lt1_at
theorem sCut_spec (hP:PrgOk P) (s:ByteArray) (d:UInt8) (hs:(bl s).length≤281474976710656):CSpec P 143 [.str s,.str ⟨#[d]⟩] (.tup [.str (cutA d.toNat s),.str (cutB d.toNat s),.bool (decide (d.toNat ∈ bl s))]):=by
 have HE:=Lt1_all hP TF hP.tF
 refine CSpec_go (E:=⟨TF,Lt1⟩) (fn143 hP) HE hP.mix ?_
 simp only [go_sem,hs]
 exact fin_z
theorem ltp_spec (hP:PrgOk P) (s:ByteArray) (d:UInt8):CSpec P 166 [.str s,.str ⟨#[d]⟩] (.str (tpS d s)):=by
 have HE:=Lt1_all hP TF hP.tF
 have e1:(#[d]:Array UInt8).size=1:=rfl
 have e2:(ByteArray.mk #[d]).size=1:=rfl
 have i1:(1:Int).toNat=1:=rfl
 by_cases h:(bl s).getD 0 0=d.toNat∧0<(bl s).length
 · have hd:=decide_eq_true h
   have h1:(1:Nat)≤(bl s).length:=h.2
   have h1':(1:Int)≤((bl s).length:Int):=by omega
   unfold tpS
   rw [if_pos h]
   refine CSpec_go (E:=⟨TF,Lt1⟩) (fn166 hP) HE hP.mix ?_
   simp only [go_sem,hd,e1,e2,size_bl,h1,h1',i1]
   exact fin_z
 · have hd:=decide_eq_false h
   unfold tpS
   rw [if_neg h]
   refine CSpec_go (E:=⟨TF,Lt1⟩) (fn166 hP) HE hP.mix ?_
   simp only [go_sem,hd]
   exact fin_z
def tprS:List AV→Option (Prop × AV)
 | [.str s,.str ⟨⟨[d]⟩⟩]=>some (True,.str (tpS d s))
 | _=>none
theorem tprS_eq (s d):tprS [.str s,.str ⟨#[d]⟩]=some (True,.str (tpS d s)):=rfl
theorem tprS_ok (hP:PrgOk P) (args p r) (h:tprS args=some (p,r)) (hp:p):CSpec P 166 args r:=by
 unfold tprS at h
 split at h
 · simp only [Option.some.injEq,Prod.mk.injEq] at h
   obtain ⟨rfl,rfl⟩:=h
   exact ltp_spec hP _ _
 · simp at h
attribute [go_sem] tprS_eq
noncomputable def Lt2:Nat→List AV→Option (Prop × AV):=addS Lt1 166 tprS
theorem Lt2_all (hP:PrgOk P) (T) (hT:TyOk P T):EnvOk P ⟨T,Lt2⟩:=((Lt1_all hP T hT).add (tprS_ok hP))
theorem Lt2_at (f a):Lt2 f a=(addS Lt1 166 tprS) f a:=rfl
attribute [go_sem] Lt2_at
theorem tp_spec (hP:PrgOk P) (s:ByteArray) (d:UInt8):CSpec P 144 [.str s,.str ⟨#[d]⟩] (.str (tpS d s)):=by
 have HE:=Lt2_all hP TF hP.tF
 refine CSpec_go (E:=⟨TF,Lt2⟩) (fn144 hP) HE hP.mix ?_
 simp only [go_sem]
 exact fin_z
def tprS2:List AV→Option (Prop × AV):=tprS
theorem tprS2_ok (hP:PrgOk P) (args p r) (h:tprS2 args=some (p,r)) (hp:p):CSpec P 144 args r:=by
 unfold tprS2 tprS at h
 split at h
 · simp only [Option.some.injEq,Prod.mk.injEq] at h
   obtain ⟨rfl,rfl⟩:=h
   exact tp_spec hP _ _
 · simp at h
def sCutS:List AV→Option (Prop × AV):=lcutS
theorem sCutS_ok (hP:PrgOk P) (args p r) (h:sCutS args=some (p,r)) (hp:p):CSpec P 143 args r:=by
 unfold sCutS lcutS at h
 split at h
 · simp only [Option.some.injEq,Prod.mk.injEq] at h
   obtain ⟨rfl,rfl⟩:=h
   exact sCut_spec hP _ _ hp
 · simp at h
attribute [go_sem] tprS2 sCutS
theorem fdg_spec (hP:PrgOk P) (s:ByteArray) (hs:(bl s).length≤281474976710656):CSpec P 145 [.str s] (.bool (decide (okD (bl s)))):=by
 have HE:=Lt2_all hP TF hP.tF
 have hsz:s.size≤9223372036854775807:=by rw [size_bl]; omega
 have hsz':(bl s).length≤9223372036854775807:=by omega
 have ht:=trD_nil s
 have hg:=get_bl s 0
 refine CSpec_go (E:=⟨TF,Lt2⟩) (fn145 hP) HE hP.mix ?_
 obtain ⟨l,hl⟩:∃ l,bl s=l:=⟨_,rfl⟩
 rw [hl] at hs hsz' ht hg ⊢
 have hk:=okD_dgs (l:=l)
 by_cases h1:l=[]
 · have h1':l.isEmpty=true:=by rw [h1]; rfl
   rw [decide_eq_false (fun e=>(hk.1 e).1 h1)]
   simp only [go_sem,toList_nil,hl,h1']
   exact fin_z
 · have h1':l.isEmpty=false:=by cases l with|nil=>exact absurd rfl h1|cons=>rfl
   by_cases h2:dgs l
   · have h2':=decide_eq_true h2
     have hp:0<l.length:=List.length_pos_iff.2 h1
     by_cases h3:l.length=1
     · have h3':((l.length:Int) == 1)=true:=by rw [h3]; rfl
       have h3n:(l.length == 1)=true:=by rw [h3]; rfl
       rw [decide_eq_true (hk.2 ⟨h1,h2,.inl h3⟩)]
       simp only [go_sem,toList_nil,hl,h1',h2',ht,h3',h3n,size_bl,hsz']
       exact fin_z
     · have h3':((l.length:Int) == 1)=false:=beq_eq_false_iff_ne.2 (by omega)
       have h3n:(l.length == 1)=false:=beq_eq_false_iff_ne.2 h3
       have h4:decide (okD l)=(((l.getD 0 0:Nat):Int) != 48):=by
        rw [Bool.eq_iff_iff,decide_eq_true_eq,bne_iff_ne]
        exact ⟨fun e=>by have:=(hk.1 e).2.2.resolve_left h3; omega,fun e=>hk.2 ⟨h1,h2,.inr (by omega)⟩⟩
       rw [h4]
       simp only [go_sem,toList_nil,hl,h1',h2',ht,h3',h3n,size_bl,hsz',hg,hp]
       exact fin_z
   · have h2':=decide_eq_false h2
     rw [decide_eq_false (fun e=>h2 (hk.1 e).2.1)]
     simp only [go_sem,toList_nil,hl,h1',h2',ht,size_bl,hsz']
     exact fin_z
def fdgS:List AV→Option (Prop × AV)
 | [.str s]=>some ((bl s).length≤281474976710656,.bool (decide (okD (bl s))))
 | _=>none
theorem fdgS_ok (hP:PrgOk P) (args p r) (h:fdgS args=some (p,r)) (hp:p):CSpec P 145 args r:=by
 unfold fdgS at h
 split at h
 · simp only [Option.some.injEq,Prod.mk.injEq] at h
   obtain ⟨rfl,rfl⟩:=h
   exact fdg_spec hP _ hp
 · simp at h
attribute [go_sem] fdgS
noncomputable def Lt3:Nat→List AV→Option (Prop × AV):=addS (addS (addS Lt2 144 tprS2) 143 sCutS) 145 fdgS
theorem Lt3_all (hP:PrgOk P) (T) (hT:TyOk P T):EnvOk P ⟨T,Lt3⟩:=((((Lt2_all hP T hT).add (tprS2_ok hP)).add (sCutS_ok hP)).add (fdgS_ok hP))
theorem Lt3_at (f a):Lt3 f a=(addS (addS (addS Lt2 144 tprS2) 143 sCutS) 145 fdgS) f a:=rfl
attribute [go_sem] Lt3_at
theorem bl_sz (s:ByteArray):bl (tpS 45 (cutA 47 s))=szL (bl s):=by rw [bl_tpS,bl_cutA]; rfl
theorem str_eq (x:ByteArray) (y:ByteArray):(x.toList == y.toList)=decide (bl x=bl y):=by
 rw [str_same]; exact decide_eq_decide.2 ⟨fun h=>h ▸ rfl,bl_inj⟩
theorem mn_lt (l:List Nat):decide ((szL l).length<(hdL 47 l).length)=mnL l:=by
 cases h:mnL l
 · rw [sz_ps h]; exact decide_eq_false (Nat.lt_irrefl _)
 · rw [sz_mn h,List.length_cons]; exact decide_eq_true (by omega)
theorem sz_le (l:List Nat):(szL l).length≤l.length:=by
 have:=hd_le 47 l
 unfold szL; split
 · rw [List.length_drop]; omega
 · exact this
theorem den_le (l:List Nat):(denL l).length≤l.length+1:=by
 have:=tl_le 47 l
 unfold denL; split
 · omega
 · simp
theorem blen_lt2 (d:Nat):(blen d<2)=(d<2):=by
 rw [eq_iff_iff,show (blen d<2)=(blen d≤1) from eq_iff_iff.2 ⟨by omega,by omega⟩,blen_le_iff]
theorem blen_ne1 (d:Nat):((blen d:Int) != 1)=decide (d ≠ 1):=by
 rw [Bool.eq_iff_iff,bne_iff_ne,decide_eq_true_eq,Ne,Ne,← blen_one_iff]; omega
theorem fParse_spec (hP:PrgOk P) (s:ByteArray) (hs:(bl s).length≤140737488355328):CSpec P 97 [.str s] (.tup [(.agg [.opq (.frac ((parF (bl s)).1)),.pad,.pad,.pad,.pad]),.int .i64 (parF (bl s)).2]):=by
 have HE:=Lt3_all hP TF hP.tF
 have e47:(47:UInt8).toNat=47:=rfl
 have b1:=bl_sz s
 have b4:bl ⟨#[48]⟩=[48]:=rfl
 have c1:=bl_cutA 47 s
 have m1:=mn_lt (bl s)
 have hs':(bl s).length≤281474976710656:=by omega
 have l1:(szL (bl s)).length≤281474976710656:=Nat.le_trans (sz_le _) hs'
 have l2:(denL (bl s)).length≤281474976710656:=Nat.le_trans (den_le _) (by omega)
 refine CSpec_go (E:=⟨TF,Lt3⟩) (fn97 hP) HE hP.mix ?_
 by_cases hst:47 ∈ bl s
 · have hst':decide (47 ∈ bl s)=true:=decide_eq_true hst
   have b5:bl (cutB 47 s)=denL (bl s):=by rw [bl_cutB]; unfold denL; rw [if_pos hst]
   by_cases h1:okD (szL (bl s))
   · have h1':=decide_eq_true h1
     by_cases h2:okD (denL (bl s))
     · have h2':=decide_eq_true h2
       by_cases h3:mnL (bl s)=true∧szL (bl s)=[48]
       · have h4':=decide_eq_true h3.2
         rw [parF_1 (.inr (.inr h3))]
         simp only [go_sem,hs',e47,b1,b4,b5,c1,size_bl,m1,hst',l1,l2,h1',h2',h3.1,h4',str_eq]
         exact fin_z
       · have hn:¬ (¬ okD (szL (bl s))∨¬ okD (denL (bl s))∨(mnL (bl s)=true∧szL (bl s)=[48])):=by
          rintro (h|h|h)
          · exact h h1
          · exact h h2
          · exact h3 h
         have hm:mnL (bl s)=false∨(mnL (bl s)=true∧decide (szL (bl s)=[48])=false):=by
          cases hm:mnL (bl s)
          · exact .inl rfl
          · exact .inr ⟨rfl,decide_eq_false fun e=>h3 ⟨hm,e⟩⟩
         have two:(0:Int) != 3:=by decide
         by_cases h5:(szL (bl s)).length≤256
         · have p1:=parse_ok h1 h5
           have v1:=valL_blen h1 h5
           by_cases h6:(denL (bl s)).length≤256
           · have p2:=parse_ok h2 h6
             have v2:=valL_blen h2 h6
             have v1':=Nat.le_trans v1 (show _≤68719476736 by decide)
             have v2':=Nat.le_trans v2 (show _≤68719476736 by decide)
             have v2'':=Nat.le_trans v2 (show _≤34359738368 by decide)
             have g1:blen (Nat.gcd (valL (szL (bl s))) (valL (denL (bl s))))≤68719476736:=gcd_blen v1' v2'
             have w1:wl (sg (mnL (bl s)) (valL (szL (bl s))))≤34359738368:=by unfold wl; rw [sg_abs]; exact Nat.le_trans v1 (by decide)
             have hl:¬ (256<(szL (bl s)).length∨256<(denL (bl s)).length):=by omega
             by_cases h7:47 ∈ bl s∧(valL (denL (bl s))<2∨Nat.gcd (valL (szL (bl s))) (valL (denL (bl s))) ≠ 1)
             · rw [parF_3 hn hl h7]
               by_cases h8:valL (denL (bl s))<2
               · rcases hm with hm|⟨hm,hm2⟩
                 · first
                   | exact absurd h7.1 hst
                   | (simp only [go_sem,hs',e47,b1,b4,b5,c1,size_bl,m1,hst',l1,l2,h1',h2',str_eq,hm,p1,p2,v1',v2',blen_lt2,h8]
                      exact fin_z)
                 · first
                   | exact absurd h7.1 hst
                   | (simp only [go_sem,hs',e47,b1,b4,b5,c1,size_bl,m1,hst',l1,l2,h1',h2',str_eq,hm,hm2,p1,p2,v1',v2',blen_lt2,h8]
                      exact fin_z)
               · have h9:decide (Nat.gcd (valL (szL (bl s))) (valL (denL (bl s))) ≠ 1)=true:=decide_eq_true (h7.2.resolve_left h8)
                 rcases hm with hm|⟨hm,hm2⟩
                 · first
                   | exact absurd h7.1 hst
                   | (simp only [go_sem,hs',e47,b1,b4,b5,c1,size_bl,m1,hst',l1,l2,h1',h2',str_eq,hm,p1,p2,v1',v2',blen_lt2,h8,g1,blen_ne1,h9]
                      exact fin_z)
                 · first
                   | exact absurd h7.1 hst
                   | (simp only [go_sem,hs',e47,b1,b4,b5,c1,size_bl,m1,hst',l1,l2,h1',h2',str_eq,hm,hm2,p1,p2,v1',v2',blen_lt2,h8,g1,blen_ne1,h9]
                      exact fin_z)
             · rw [parF_4 hn hl h7]
               have h8:47 ∈ bl s→¬ valL (denL (bl s))<2:=fun k e=>h7 ⟨k,.inl e⟩
               have h9:47 ∈ bl s→decide (Nat.gcd (valL (szL (bl s))) (valL (denL (bl s))) ≠ 1)=false:=fun k=>decide_eq_false fun e=>h7 ⟨k,.inr e⟩
               have hpos:0<valL (denL (bl s)):=den_pos' fun k=>by have:=h8 k; omega
               rcases hm with hm|⟨hm,hm2⟩
               · rw [hm] at w1 ⊢
                 first
                  | (have h8:=h8 hst
                     have h9:=h9 hst
                     simp only [go_sem,hs',e47,b1,b4,b5,c1,size_bl,m1,hst',l1,l2,h1',h2',str_eq,hm,p1,p2,v1',v2',v2'',blen_lt2,h8,g1,blen_ne1,h9,w1,hpos]
                     exact fin_z)
                  | (simp only [go_sem,hs',e47,b1,b4,b5,c1,size_bl,m1,hst',l1,l2,h1',h2',str_eq,hm,p1,p2,v1',v2',v2'',w1,hpos]
                     exact fin_z)
               · rw [hm] at w1 ⊢
                 first
                  | (have h8:=h8 hst
                     have h9:=h9 hst
                     simp only [go_sem,hs',e47,b1,b4,b5,c1,size_bl,m1,hst',l1,l2,h1',h2',str_eq,hm,hm2,p1,p2,v1',v2',v2'',blen_lt2,h8,g1,blen_ne1,h9,w1,hpos]
                     exact fin_z)
                  | (simp only [go_sem,hs',e47,b1,b4,b5,c1,size_bl,m1,hst',l1,l2,h1',h2',str_eq,hm,hm2,p1,p2,v1',v2',v2'',w1,hpos]
                     exact fin_z)
           · have p2:=parse_long h2 (show 256<(denL (bl s)).length by omega)
             rw [parF_2 hn (.inr (by omega))]
             rcases hm with hm|⟨hm,hm2⟩
             · simp only [go_sem,hs',e47,b1,b4,b5,c1,size_bl,m1,hst',l1,l2,h1',h2',str_eq,hm,p1,p2]
               exact fin_z
             · simp only [go_sem,hs',e47,b1,b4,b5,c1,size_bl,m1,hst',l1,l2,h1',h2',str_eq,hm,hm2,p1,p2]
               exact fin_z
         · have p1:=parse_long h1 (show 256<(szL (bl s)).length by omega)
           have p2:∃ n e,parseR (denL (bl s)) = .tup [(.agg [.opq (.nat (n)),.pad]),.int .i64 e]:=by
            by_cases h6:(denL (bl s)).length≤256
            · exact ⟨_,_,parse_ok h2 h6⟩
            · exact ⟨_,_,parse_long h2 (by omega)⟩
           obtain ⟨n2,e2,p2⟩:=p2
           rw [parF_2 hn (.inl (by omega))]
           rcases hm with hm|⟨hm,hm2⟩
           · simp only [go_sem,hs',e47,b1,b4,b5,c1,size_bl,m1,hst',l1,l2,h1',h2',str_eq,hm,p1,p2]
             exact fin_z
           · simp only [go_sem,hs',e47,b1,b4,b5,c1,size_bl,m1,hst',l1,l2,h1',h2',str_eq,hm,hm2,p1,p2]
             exact fin_z
     · have h2':=decide_eq_false h2
       rw [parF_1 (.inr (.inl h2))]
       simp only [go_sem,hs',e47,b1,b4,b5,c1,size_bl,m1,hst',l1,l2,h1',h2',str_eq]
       exact fin_z
   · have h1':=decide_eq_false h1
     rw [parF_1 (.inl h1)]
     simp only [go_sem,hs',e47,b1,b4,b5,c1,size_bl,m1,hst',l1,l2,h1',str_eq]
     exact fin_z
 · have hst':decide (47 ∈ bl s)=false:=decide_eq_false hst
   have b5:bl ⟨#[49]⟩=denL (bl s):=(den_one hst).symm
   by_cases h1:okD (szL (bl s))
   · have h1':=decide_eq_true h1
     by_cases h2:okD (denL (bl s))
     · have h2':=decide_eq_true h2
       by_cases h3:mnL (bl s)=true∧szL (bl s)=[48]
       · have h4':=decide_eq_true h3.2
         rw [parF_1 (.inr (.inr h3))]
         simp only [go_sem,hs',e47,b1,b4,b5,c1,size_bl,m1,hst',l1,l2,h1',h2',h3.1,h4',str_eq]
         exact fin_z
       · have hn:¬ (¬ okD (szL (bl s))∨¬ okD (denL (bl s))∨(mnL (bl s)=true∧szL (bl s)=[48])):=by
          rintro (h|h|h)
          · exact h h1
          · exact h h2
          · exact h3 h
         have hm:mnL (bl s)=false∨(mnL (bl s)=true∧decide (szL (bl s)=[48])=false):=by
          cases hm:mnL (bl s)
          · exact .inl rfl
          · exact .inr ⟨rfl,decide_eq_false fun e=>h3 ⟨hm,e⟩⟩
         have two:(0:Int) != 3:=by decide
         by_cases h5:(szL (bl s)).length≤256
         · have p1:=parse_ok h1 h5
           have v1:=valL_blen h1 h5
           by_cases h6:(denL (bl s)).length≤256
           · have p2:=parse_ok h2 h6
             have v2:=valL_blen h2 h6
             have v1':=Nat.le_trans v1 (show _≤68719476736 by decide)
             have v2':=Nat.le_trans v2 (show _≤68719476736 by decide)
             have v2'':=Nat.le_trans v2 (show _≤34359738368 by decide)
             have g1:blen (Nat.gcd (valL (szL (bl s))) (valL (denL (bl s))))≤68719476736:=gcd_blen v1' v2'
             have w1:wl (sg (mnL (bl s)) (valL (szL (bl s))))≤34359738368:=by unfold wl; rw [sg_abs]; exact Nat.le_trans v1 (by decide)
             have hl:¬ (256<(szL (bl s)).length∨256<(denL (bl s)).length):=by omega
             by_cases h7:47 ∈ bl s∧(valL (denL (bl s))<2∨Nat.gcd (valL (szL (bl s))) (valL (denL (bl s))) ≠ 1)
             · rw [parF_3 hn hl h7]
               by_cases h8:valL (denL (bl s))<2
               · rcases hm with hm|⟨hm,hm2⟩
                 · first
                   | exact absurd h7.1 hst
                   | (simp only [go_sem,hs',e47,b1,b4,b5,c1,size_bl,m1,hst',l1,l2,h1',h2',str_eq,hm,p1,p2,v1',v2',blen_lt2,h8]
                      exact fin_z)
                 · first
                   | exact absurd h7.1 hst
                   | (simp only [go_sem,hs',e47,b1,b4,b5,c1,size_bl,m1,hst',l1,l2,h1',h2',str_eq,hm,hm2,p1,p2,v1',v2',blen_lt2,h8]
                      exact fin_z)
               · have h9:decide (Nat.gcd (valL (szL (bl s))) (valL (denL (bl s))) ≠ 1)=true:=decide_eq_true (h7.2.resolve_left h8)
                 rcases hm with hm|⟨hm,hm2⟩
                 · first
                   | exact absurd h7.1 hst
                   | (simp only [go_sem,hs',e47,b1,b4,b5,c1,size_bl,m1,hst',l1,l2,h1',h2',str_eq,hm,p1,p2,v1',v2',blen_lt2,h8,g1,blen_ne1,h9]
                      exact fin_z)
                 · first
                   | exact absurd h7.1 hst
                   | (simp only [go_sem,hs',e47,b1,b4,b5,c1,size_bl,m1,hst',l1,l2,h1',h2',str_eq,hm,hm2,p1,p2,v1',v2',blen_lt2,h8,g1,blen_ne1,h9]
                      exact fin_z)
             · rw [parF_4 hn hl h7]
               have h8:47 ∈ bl s→¬ valL (denL (bl s))<2:=fun k e=>h7 ⟨k,.inl e⟩
               have h9:47 ∈ bl s→decide (Nat.gcd (valL (szL (bl s))) (valL (denL (bl s))) ≠ 1)=false:=fun k=>decide_eq_false fun e=>h7 ⟨k,.inr e⟩
               have hpos:0<valL (denL (bl s)):=den_pos' fun k=>by have:=h8 k; omega
               rcases hm with hm|⟨hm,hm2⟩
               · rw [hm] at w1 ⊢
                 first
                  | (have h8:=h8 hst
                     have h9:=h9 hst
                     simp only [go_sem,hs',e47,b1,b4,b5,c1,size_bl,m1,hst',l1,l2,h1',h2',str_eq,hm,p1,p2,v1',v2',v2'',blen_lt2,h8,g1,blen_ne1,h9,w1,hpos]
                     exact fin_z)
                  | (simp only [go_sem,hs',e47,b1,b4,b5,c1,size_bl,m1,hst',l1,l2,h1',h2',str_eq,hm,p1,p2,v1',v2',v2'',w1,hpos]
                     exact fin_z)
               · rw [hm] at w1 ⊢
                 first
                  | (have h8:=h8 hst
                     have h9:=h9 hst
                     simp only [go_sem,hs',e47,b1,b4,b5,c1,size_bl,m1,hst',l1,l2,h1',h2',str_eq,hm,hm2,p1,p2,v1',v2',v2'',blen_lt2,h8,g1,blen_ne1,h9,w1,hpos]
                     exact fin_z)
                  | (simp only [go_sem,hs',e47,b1,b4,b5,c1,size_bl,m1,hst',l1,l2,h1',h2',str_eq,hm,hm2,p1,p2,v1',v2',v2'',w1,hpos]
                     exact fin_z)
           · have p2:=parse_long h2 (show 256<(denL (bl s)).length by omega)
             rw [parF_2 hn (.inr (by omega))]
             rcases hm with hm|⟨hm,hm2⟩
             · simp only [go_sem,hs',e47,b1,b4,b5,c1,size_bl,m1,hst',l1,l2,h1',h2',str_eq,hm,p1,p2]
               exact fin_z
             · simp only [go_sem,hs',e47,b1,b4,b5,c1,size_bl,m1,hst',l1,l2,h1',h2',str_eq,hm,hm2,p1,p2]
               exact fin_z
         · have p1:=parse_long h1 (show 256<(szL (bl s)).length by omega)
           have p2:∃ n e,parseR (denL (bl s)) = .tup [(.agg [.opq (.nat (n)),.pad]),.int .i64 e]:=by
            by_cases h6:(denL (bl s)).length≤256
            · exact ⟨_,_,parse_ok h2 h6⟩
            · exact ⟨_,_,parse_long h2 (by omega)⟩
           obtain ⟨n2,e2,p2⟩:=p2
           rw [parF_2 hn (.inl (by omega))]
           rcases hm with hm|⟨hm,hm2⟩
           · simp only [go_sem,hs',e47,b1,b4,b5,c1,size_bl,m1,hst',l1,l2,h1',h2',str_eq,hm,p1,p2]
             exact fin_z
           · simp only [go_sem,hs',e47,b1,b4,b5,c1,size_bl,m1,hst',l1,l2,h1',h2',str_eq,hm,hm2,p1,p2]
             exact fin_z
     · have h2':=decide_eq_false h2
       rw [parF_1 (.inr (.inl h2))]
       simp only [go_sem,hs',e47,b1,b4,b5,c1,size_bl,m1,hst',l1,l2,h1',h2',str_eq]
       exact fin_z
   · have h1':=decide_eq_false h1
     rw [parF_1 (.inl h1)]
     simp only [go_sem,hs',e47,b1,b4,b5,c1,size_bl,m1,hst',l1,l2,h1',str_eq]
     exact fin_z
noncomputable def fParseS:List AV→Option (Prop × AV)
 | [.str s]=>some ((bl s).length≤140737488355328,.tup [(.agg [.opq (.frac ((parF (bl s)).1)),.pad,.pad,.pad,.pad]),.int .i64 (parF (bl s)).2])
 | _=>none
theorem fParseS_ok (hP:PrgOk P) (args p r) (h:fParseS args=some (p,r)) (hp:p):CSpec P 97 args r:=by
 unfold fParseS at h
 split at h
 · simp only [Option.some.injEq,Prod.mk.injEq] at h
   obtain ⟨rfl,rfl⟩:=h
   exact fParse_spec hP _ hp
 · simp at h
attribute [go_sem] fParseS
noncomputable def Lt4:Nat→List AV→Option (Prop × AV):=addS Lt3 97 fParseS
theorem Lt4_all (hP:PrgOk P) (T) (hT:TyOk P T):EnvOk P ⟨T,Lt4⟩:=((Lt3_all hP T hT).add (fParseS_ok hP))
theorem Lt4_at (f a):Lt4 f a=(addS Lt3 97 fParseS) f a:=rfl
attribute [go_sem] Lt4_at
noncomputable def Lt5:Nat→List AV→Option (Prop × AV):=Lt4
theorem Lt5_all (hP:PrgOk P) (T) (hT:TyOk P T):EnvOk P ⟨T,Lt5⟩:=(Lt4_all hP T hT)
attribute [go_sem] Lt5
def rC (z:Int):List AV:=[.bool (decide (z<0)),.opq (.rnat z.natAbs)]
theorem CvL.rintOut (z:Int) {xs bs} (h:CvL xs bs):CvL (.agg (rC z)::xs) ((.agg [.opq (.rint (z)),.pad])::bs):=.agg (by simpa [Pay.open,Pay.width,rC] using CvL.fold (.rint z) [] rfl) h
theorem Conv.rint (z:Int):Conv (.agg (rC z)) (.agg [.opq (.rint (z)),.pad]):=CvL.conv (.rintOut z .nil)
theorem cmp_ge' {a b:Nat} (h:b≤a):decide (0≤cmpI a b)=true:=by
 rcases Nat.lt_or_eq_of_le h with h|h
 · rw [cmpI_gt h]; rfl
 · rw [h,cmpI_eq]; rfl
end Go.Proofs.YtmahhmdeocnlgaaGreatDoor.AM
