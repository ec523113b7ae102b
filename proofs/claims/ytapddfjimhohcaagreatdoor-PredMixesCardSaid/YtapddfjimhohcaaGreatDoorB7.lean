/- Fractions: rounded down, told az texts, made of two. -/
import Derived.Test.YtapddfjimhohcaaGreatDoorB6
import Derived.Test.YtapddfjimhohcaaGreatDoorB2
import Derived.Test.YtapddfjimhohcaaGreatDoorB5
namespace Go.Proofs.YtapddfjimhohcaaGreatDoor.AM
set_option linter.all false
set_option autoImplicit true
set_option relaxedAutoImplicit true
open Go Go.Proofs
set_option maxRecDepth 100000
set_option maxHeartbeats 8000000
set_option linter.unusedSimpArgs false
variable {P:Program}
noncomputable def Ft3:Nat→List AV→Option (Prop × AV):=addS (addS (addS (addS Ft2 53 fAddS) 69 fSubS) 55 fMulS) 26 fDivS
theorem Ft3_all (hP:PrgOk P) (T) (hT:TyOk P T):EnvOk P ⟨T,Ft3⟩:=(((((Ft2_all hP T hT).add (fAddS_ok hP)).add (fSubS_ok hP)).add (fMulS_ok hP)).add (fDivS_ok hP))
theorem Ft3_at (f a):Ft3 f a=(addS (addS (addS (addS Ft2 53 fAddS) 69 fSubS) 55 fMulS) 26 fDivS) f a:=rfl
attribute [go_sem] Ft3_at
theorem qtS_one {q:Rat} (h:q.den=1):qtS q=itS q.num:=by unfold qtS; rw [if_pos h]
theorem qtS_two {q:Rat} (h:¬ q.den=1):qtS q=itS q.num++⟨#[47]⟩++decS q.den:=by unfold qtS; rw [if_neg h]
theorem int_div {a b:Int} (h:b ≠ 0):(a:Rat) / (b:Rat)=mkRat (a*sgnZ b) b.natAbs:=by
 have:=div_mk (a:=(a:Rat)) (b:=(b:Rat)) (by simpa using h)
 rw [this]
 show mkRat (a*sgnZ b*1) (1*b.natAbs)=_
 rw [Int.mul_one,Nat.one_mul]
theorem fMake_spec (hP:PrgOk P) (a b:Int) (ha:wl a≤FB) (hb:wl b≤FB):CSpec P 81 [(.agg [.opq (.whole (a)),.pad,.pad]),(.agg [.opq (.whole (b)),.pad,.pad])] (if b=0 then .tup [(.agg [.opq (.frac (0)),.pad,.pad,.pad,.pad]),.int .i64 11] else .tup [(.agg [.opq (.frac (qdiv (a:Rat) (b:Rat))),.pad,.pad,.pad,.pad]),.int .i64 0]):=by
 have HE:=Ft1_all hP TF hP.tF
 have a1:wl a≤34359738368:=Nat.le_trans ha (by decide)
 have a2:wl a≤68719476736:=Nat.le_trans ha (by decide)
 have b2:wl b≤68719476736:=Nat.le_trans hb (by decide)
 have b1:blen b.natAbs≤34359738368:=Nat.le_trans hb (by decide)
 have n1:wl (-a)≤34359738368:=wl_neg' a1
 refine CSpec_go (E:=⟨TF,Ft1⟩) (fn81 hP) HE hP.mix ?_
 by_cases h0:b=0
 · have hs:sgnZ b=0:=by rw [h0]; rfl
   rw [if_pos h0]
   simp only [go_sem,b2,hs]
   exact fin_z
 · have hs:(sgnZ b == 0)=false:=by rw [sgn_zero,decide_eq_false h0]
   have hp:0<b.natAbs:=by omega
   rw [if_neg h0,qdiv_eq,int_div h0,← qlow_eq]
   by_cases h1:b<0
   · have e:a*sgnZ b = -a:=by
      unfold sgnZ; rw [if_neg h0,if_pos h1]; omega
     rw [e]
     simp only [go_sem,a1,a2,b1,b2,hs,sgn_neg,h1,n1,hp]
     exact fin_z
   · have e:a*sgnZ b=a:=by
      unfold sgnZ; rw [if_neg h0,if_neg h1]; omega
     rw [e]
     simp only [go_sem,a1,a2,b1,b2,hs,sgn_neg,h1,n1,hp]
     exact fin_z
noncomputable def fMakeS:List AV→Option (Prop × AV):=onW2 fun a b=>(wl a≤FB∧wl b≤FB,if b=0 then .tup [(.agg [.opq (.frac (0)),.pad,.pad,.pad,.pad]),.int .i64 11] else .tup [(.agg [.opq (.frac (qdiv (a:Rat) (b:Rat))),.pad,.pad,.pad,.pad]),.int .i64 0])
theorem fMakeS_ok (hP:PrgOk P) (args p r):fMakeS args=some (p,r)→p→CSpec P 81 args r:=onW2_ok (fun a b h=>by exact fMake_spec hP a b h.1 h.2) args p r
attribute [go_sem] fMakeS
noncomputable def Ft4:Nat→List AV→Option (Prop × AV):=addS Ft3 81 fMakeS
theorem Ft4_all (hP:PrgOk P) (T) (hT:TyOk P T):EnvOk P ⟨T,Ft4⟩:=((Ft3_all hP T hT).add (fMakeS_ok hP))
theorem Ft4_at (f a):Ft4 f a=(addS Ft3 81 fMakeS) f a:=rfl
attribute [go_sem] Ft4_at
end Go.Proofs.YtapddfjimhohcaaGreatDoor.AM
/- Texts of fractions: plain facts. -/
namespace Go.Proofs.YtapddfjimhohcaaGreatDoor.AM
set_option linter.all false
set_option autoImplicit true
set_option relaxedAutoImplicit true
open Go Go.Proofs
set_option maxRecDepth 100000
def hdL (c:Nat):List Nat→List Nat
 | []=>[]
 | x::t=>if x=c then [] else x::hdL c t
def tlL (c:Nat):List Nat→List Nat
 | []=>[]
 | x::t=>if x=c then t else tlL c t
theorem hd_no {c:Nat}:∀ {l:List Nat},c ∉ l→hdL c l=l∧tlL c l=[]∧ixL c l = -1
 | [],_=>⟨rfl,rfl,rfl⟩
 | x::t,h=>by
   have h1:¬ x=c:=fun e=>h (by simp [e])
   have ih:=hd_no (c:=c) (l:=t) fun e=>h (List.mem_cons_of_mem _ e)
   unfold hdL tlL ixL
   rw [if_neg h1,if_neg h1,if_neg h1,ih.1,ih.2.1,if_pos ih.2.2]
   exact ⟨rfl,rfl,rfl⟩
theorem hd_yes {c:Nat}:∀ {l:List Nat},c ∈ l→l=hdL c l++c::tlL c l∧ixL c l=((hdL c l).length:Int)
 | [],h=>by simp at h
 | x::t,h=>by
   unfold hdL tlL ixL
   by_cases h1:x=c
   · rw [if_pos h1,if_pos h1,if_pos h1,h1]; exact ⟨rfl,rfl⟩
   · have ih:=hd_yes (l:=t) (by
      rcases List.mem_cons.1 h with e|e
      · exact absurd e.symm h1
      · exact e)
     rw [if_neg h1,if_neg h1,if_neg h1,if_neg (by rw [ih.2]; omega),ih.2]
     refine ⟨by rw [List.cons_append,← ih.1],by rw [List.length_cons]; omega⟩
theorem hd_app {c:Nat} {b:List Nat}:∀ {a:List Nat},c ∉ a→hdL c (a++c::b)=a∧tlL c (a++c::b)=b
 | [],_=>by simp [hdL,tlL]
 | x::t,h=>by
   have h1:¬ x=c:=fun e=>h (by simp [e])
   have ih:=hd_app (c:=c) (b:=b) (a:=t) fun e=>h (List.mem_cons_of_mem _ e)
   rw [List.cons_append]
   unfold hdL tlL
   rw [if_neg h1,if_neg h1,ih.1,ih.2]
   exact ⟨rfl,rfl⟩
theorem take_hd (c:Nat):∀ l:List Nat,l.take (hdL c l).length=hdL c l
 | []=>rfl
 | x::t=>by
   have ih:=take_hd c t
   unfold hdL; split
   · rfl
   · rw [List.length_cons,List.take_succ_cons,ih]
theorem drop_hd (c:Nat):∀ l:List Nat,l.drop ((hdL c l).length+1)=tlL c l
 | []=>rfl
 | x::t=>by
   have ih:=drop_hd c t
   unfold hdL tlL; split
   · rfl
   · rw [List.length_cons,List.drop_succ_cons,ih]
theorem hd_le (c:Nat) (l:List Nat):(hdL c l).length≤l.length:=by
 have:=congrArg List.length (take_hd c l)
 rw [List.length_take] at this; omega
theorem hd_lt (c:Nat) (l:List Nat):((hdL c l).length<l.length)=(c ∈ l):=by
 rw [eq_iff_iff]
 constructor
 · intro h
   by_cases hc:c ∈ l
   · exact hc
   · rw [(hd_no hc).1] at h; omega
 · intro h
   have:=congrArg List.length (hd_yes h).1
   rw [List.length_append,List.length_cons] at this; omega
theorem tl_le (c:Nat) (l:List Nat):(tlL c l).length≤l.length:=by
 rw [← drop_hd,List.length_drop]; omega
def cutA (c:Nat) (s:ByteArray):ByteArray:=s.extract 0 (hdL c (bl s)).length
def cutB (c:Nat) (s:ByteArray):ByteArray:=s.extract ((hdL c (bl s)).length+1) s.size
theorem bl_cutA (c s):bl (cutA c s)=hdL c (bl s):=by
 unfold cutA; rw [bl_extract,List.drop_zero,Nat.sub_zero,take_hd]
theorem bl_cutB (c s):bl (cutB c s)=tlL c (bl s):=by
 unfold cutB; rw [bl_extract,drop_hd]
 refine List.take_of_length_le ?_
 have h:=congrArg List.length (drop_hd c (bl s))
 rw [List.length_drop] at h
 rw [size_bl]; omega
theorem cutA_no {c s} (h:c ∉ bl s):cutA c s=s:=bl_inj (by rw [bl_cutA,(hd_no h).1])
theorem cutB_no {c s} (h:c ∉ bl s):cutB c s=⟨#[]⟩:=bl_inj (by rw [bl_cutB,(hd_no h).2.1]; rfl)
def dgs (l:List Nat):Prop:=∀ c ∈ l,48≤c∧c≤57
instance dgs_dec (l:List Nat):Decidable (dgs l):=by unfold dgs; infer_instance
theorem isDg_eq (b:UInt8):isDg b=decide (48≤b.toNat∧b.toNat≤57):=by
 unfold isDg; rw [Bool.eq_iff_iff]; simp
theorem dw_nil {α:Type} {p:α→Bool}:∀ {l:List α},l.dropWhile p=[] ↔ ∀ x ∈ l,p x=true
 | []=>by simp
 | a::l=>by
   rw [List.dropWhile_cons]
   have ih:=dw_nil (p:=p) (l:=l)
   by_cases h:p a=true
   · rw [if_pos h,ih]; simp [h]
   · rw [if_neg h]; simp [h]
theorem trD_nil (s:ByteArray):(bl (trD s)).isEmpty=decide (dgs (bl s)):=by
 rw [Bool.eq_iff_iff,decide_eq_true_eq,List.isEmpty_iff]
 unfold bl trD dgs
 rw [List.map_eq_nil_iff]
 show _=[] ↔ _
 rw [dw_nil]
 constructor
 · intro h c hc
   obtain ⟨b,hb,rfl⟩:=List.mem_map.1 hc
   have hb':b ∈ s.data.toList.reverse:=List.mem_reverse.2 hb
   rw [← List.takeWhile_append_dropWhile (p:=isDg) (l:=s.data.toList.reverse)] at hb'
   have k:isDg b=true:=by
    rcases List.mem_append.1 hb' with hb'|hb'
    · exact List.all_eq_true.1 List.all_takeWhile b hb'
    · exact h b (List.mem_reverse.2 hb')
   rw [isDg_eq] at k; exact of_decide_eq_true k
 · intro h b hb
   have hn:s.data.toList.reverse.dropWhile isDg=[]:=dw_nil.2 fun x hx=>by
    rw [isDg_eq]; exact decide_eq_true (h _ (List.mem_map.2 ⟨x,List.mem_reverse.1 hx,rfl⟩))
   rw [hn] at hb; simp at hb
theorem okD_dgs {l:List Nat}:okD l ↔ l ≠ []∧(dgs l∧(l.length=1∨l.getD 0 0 ≠ 48)):=by
 unfold okD dgs
 constructor
 · rintro ⟨h1,h2,h3⟩
   refine ⟨h1,h3,?_⟩
   by_cases h:l.length=1
   · exact .inl h
   · have:0<l.length:=List.length_pos_iff.2 h1
     exact .inr fun e=>h2 ⟨by omega,e⟩
 · rintro ⟨h1,h3,h2⟩
   refine ⟨h1,?_,h3⟩
   rintro ⟨a,b⟩
   rcases h2 with h2|h2
   · omega
   · exact h2 b
theorem okD_no {l:List Nat} (h:okD l) {c:Nat} (hc:c<48):c ∉ l:=fun e=>by have:=(h.2.2 c e).1; omega
def denL (l:List Nat):List Nat:=if 47 ∈ l then tlL 47 l else [49]
def mnL (l:List Nat):Bool:=decide ((hdL 47 l).getD 0 0=45)
def szL (l:List Nat):List Nat:=if (hdL 47 l).getD 0 0=45 then (hdL 47 l).drop 1 else hdL 47 l
noncomputable def parF (l:List Nat):Rat × Int :=
 if ¬ okD (szL l)∨¬ okD (denL l)∨(mnL l=true∧szL l=[48]) then (0,12)
 else if 256<(szL l).length∨256<(denL l).length then (0,3)
 else if 47 ∈ l∧(valL (denL l)<2∨Nat.gcd (valL (szL l)) (valL (denL l)) ≠ 1) then (0,12)
 else (qlow (sg (mnL l) (valL (szL l))) (valL (denL l)),0)
theorem parF_1 {l} (h:¬ okD (szL l)∨¬ okD (denL l)∨(mnL l=true∧szL l=[48])):parF l=(0,12):=if_pos h
theorem parF_2 {l} (h:¬ (¬ okD (szL l)∨¬ okD (denL l)∨(mnL l=true∧szL l=[48]))) (h2:256<(szL l).length∨256<(denL l).length):parF l=(0,3):=by
 unfold parF; rw [if_neg h,if_pos h2]
theorem parF_3 {l} (h:¬ (¬ okD (szL l)∨¬ okD (denL l)∨(mnL l=true∧szL l=[48]))) (h2:¬ (256<(szL l).length∨256<(denL l).length)) (h3:47 ∈ l∧(valL (denL l)<2∨Nat.gcd (valL (szL l)) (valL (denL l)) ≠ 1)):parF l=(0,12):=by
 unfold parF; rw [if_neg h,if_neg h2,if_pos h3]
theorem parF_4 {l} (h:¬ (¬ okD (szL l)∨¬ okD (denL l)∨(mnL l=true∧szL l=[48]))) (h2:¬ (256<(szL l).length∨256<(denL l).length)) (h3:¬ (47 ∈ l∧(valL (denL l)<2∨Nat.gcd (valL (szL l)) (valL (denL l)) ≠ 1))):parF l=(qlow (sg (mnL l) (valL (szL l))) (valL (denL l)),0):=by
 unfold parF; rw [if_neg h,if_neg h2,if_neg h3]
theorem den_one {l} (h:47 ∉ l):denL l=[49]:=if_neg h
theorem sz_mn {l} (h:mnL l=true):hdL 47 l=45::szL l:=by
 have h':=of_decide_eq_true h
 unfold szL; rw [if_pos h']
 cases hh:hdL 47 l with
 | nil=>rw [hh] at h'; simp at h'
 | cons c t=>rw [hh] at h'; simp at h'; rw [h']; rfl
theorem sz_ps {l} (h:mnL l=false):hdL 47 l=szL l:=by
 have h':=of_decide_eq_false h
 unfold szL; rw [if_neg h']
theorem val_zero {l:List Nat} (h:okD l) (h0:valL l=0):l=[48]:=by
 have:=decL_val h
 rw [h0] at this; rw [← this]; rfl
theorem num_text {l} (h1:okD (szL l)) (h2:¬ (mnL l=true∧szL l=[48])):bl (itS (sg (mnL l) (valL (szL l))))=hdL 47 l:=by
 rw [bl_itS,sg_abs,decL_val h1]
 cases hm:mnL l
 · rw [if_neg (by rw [sg_f]; omega)]; exact (sz_ps hm).symm
 · rw [if_pos]
   · exact (sz_mn hm).symm
   · rw [sg_t]
     have:valL (szL l) ≠ 0:=fun e=>h2 ⟨hm,val_zero h1 e⟩
     omega
theorem bl_qtS (q:Rat):bl (qtS q)=if q.den=1 then bl (itS q.num) else bl (itS q.num)++47::decL q.den:=by
 unfold qtS; split
 · rfl
 · rw [bl_app,bl_app,bl_decS,List.append_assoc]; rfl
theorem no_stroke (z:Int):47 ∉ bl (itS z):=by
 rw [bl_itS]
 have:=okD_no (okD_decL z.natAbs) (c:=47) (by decide)
 split
 · intro e
   rcases List.mem_cons.1 e with e|e
   · exact absurd e (by decide)
   · exact this e
 · exact this
theorem mk_low {m:Bool} {n d:Nat} (hd:0<d) (hg:Nat.gcd n d=1) (h:m=true→0<n):(mkRat (sg m n) d).num=sg m n∧(mkRat (sg m n) d).den=d:=by
 rw [mk_num hd,mk_den hd,sg_abs,hg,Nat.div_one,Nat.div_one]
 refine ⟨?_,rfl⟩
 have e:decide (sg m n<0)=m:=by
  cases m
  · rw [sg_f]; exact decide_eq_false (by omega)
  · rw [sg_t]; have:=h rfl; exact decide_eq_true (by omega)
 rw [e]
theorem text_of {l} (h1:okD (szL l)) (h2:¬ (mnL l=true∧szL l=[48])) (h3:okD (denL l)) (h4:47 ∈ l→2≤valL (denL l)) (h5:47 ∈ l→Nat.gcd (valL (szL l)) (valL (denL l))=1):bl (qtS (qlow (sg (mnL l) (valL (szL l))) (valL (denL l))))=l:=by
 have hn:=num_text h1 h2
 have hm:mnL l=true→0<valL (szL l):=fun hm=>Nat.pos_of_ne_zero fun e=>h2 ⟨hm,val_zero h1 e⟩
 rw [bl_qtS,qlow_eq]
 by_cases hs:47 ∈ l
 · have h4':=h4 hs
   have k:=mk_low (d:=valL (denL l)) (by omega) (h5 hs) hm
   rw [k.1,k.2,if_neg (by omega),hn,decL_val h3,denL,if_pos hs]
   exact (hd_yes hs).1.symm
 · have hd1:valL (denL l)=1:=by rw [den_one hs]; rfl
   rw [hd1]
   have k:=mk_low (d:=1) (by decide) (Nat.gcd_one_right _) hm
   rw [k.1,k.2,if_pos rfl,hn,(hd_no hs).1]
theorem text_no {l} (hs:47 ∈ l) (h4:2≤valL (denL l)) (h5:Nat.gcd (valL (szL l)) (valL (denL l)) ≠ 1):bl (qtS (qlow (sg (mnL l) (valL (szL l))) (valL (denL l)))) ≠ l:=by
 intro e
 rw [bl_qtS,qlow_eq] at e
 split at e
 · exact no_stroke _ (by rw [e]; exact hs)
 · have h:=(hd_app (c:=47) (b:=decL (mkRat (sg (mnL l) (valL (szL l))) (valL (denL l))).den) (no_stroke (mkRat (sg (mnL l) (valL (szL l))) (valL (denL l))).num)).2
   rw [e] at h
   have h6:denL l=decL (mkRat (sg (mnL l) (valL (szL l))) (valL (denL l))).den:=by rw [← h,denL,if_pos hs]
   have h7:=congrArg valL h6
   rw [valL_decL,mk_den (by omega),sg_abs] at h7
   have hg:0<Nat.gcd (valL (szL l)) (valL (denL l)):=Nat.gcd_pos_of_pos_right _ (by omega)
   have h8:valL (denL l) / Nat.gcd (valL (szL l)) (valL (denL l))<valL (denL l):=Nat.div_lt_self (by omega) (by omega)
   omega
theorem parF_cases (l:List Nat):(parF l=(0,12))∨(parF l=(0,3))∨(parF l=(qlow (sg (mnL l) (valL (szL l))) (valL (denL l)),0)∧okD (szL l)∧okD (denL l)∧¬ (mnL l=true∧szL l=[48])∧(szL l).length≤256∧(denL l).length≤256∧(47 ∈ l→2≤valL (denL l))∧(47 ∈ l→Nat.gcd (valL (szL l)) (valL (denL l))=1)):=by
 by_cases h1:¬ okD (szL l)∨¬ okD (denL l)∨(mnL l=true∧szL l=[48])
 · exact .inl (parF_1 h1)
 · by_cases h2:256<(szL l).length∨256<(denL l).length
   · exact .inr (.inl (parF_2 h1 h2))
   · by_cases h3:47 ∈ l∧(valL (denL l)<2∨Nat.gcd (valL (szL l)) (valL (denL l)) ≠ 1)
     · exact .inl (parF_3 h1 h2 h3)
     · simp only [not_or,Decidable.not_not] at h1 h2
       refine .inr (.inr ⟨parF_4 (by simp only [not_or,Decidable.not_not]; exact h1) (by simp only [not_or]; exact h2) h3,h1.1,h1.2.1,h1.2.2,by omega,by omega,fun hs=>?_,fun hs=>?_⟩)
       · exact Decidable.byContradiction fun e=>h3 ⟨hs,.inl (by omega)⟩
       · exact Decidable.byContradiction fun e=>h3 ⟨hs,.inr e⟩
theorem den_pos' {l} (h:47 ∈ l→2≤valL (denL l)):0<valL (denL l):=by
 by_cases hs:47 ∈ l
 · have:=h hs; omega
 · rw [den_one hs]; decide
theorem fl_zero (n:Nat):fl 0≤n+1:=fl_le.2 ⟨Nat.le_trans (Nat.le_of_ble_eq_true rfl:wl (0:Rat).num≤0) (by omega),Nat.le_trans (Nat.le_of_ble_eq_true rfl:blen (0:Rat).den≤1) (by omega)⟩
theorem parF_fl (l:List Nat):fl (parF l).1≤1024:=by
 rcases parF_cases l with h|h|⟨h,h1,h2,_,h4,h5,h6,_⟩
 · rw [h]; exact fl_zero 1023
 · rw [h]; exact fl_zero 1023
 · rw [h,qlow_eq]
   exact fl_mk (by unfold wl; rw [sg_abs]; exact valL_blen h1 h4) (valL_blen h2 h5) (den_pos' h6)
end Go.Proofs.YtapddfjimhohcaaGreatDoor.AM
/- Fractions: read from texts. -/
namespace Go.Proofs.YtapddfjimhohcaaGreatDoor.AM
set_option linter.all false
set_option autoImplicit true
set_option relaxedAutoImplicit true
open Go Go.Proofs
set_option maxRecDepth 100000
set_option maxHeartbeats 8000000
set_option linter.unusedSimpArgs false
variable {P:Program}
def ixbS:List AV→Option (Prop × AV)
 | [.str s,.str ⟨⟨[d]⟩⟩]=>some (True,.int .i64 (ixL d.toNat (bz s)))
 | _=>none
theorem ixbS_eq (s d):ixbS [.str s,.str ⟨#[d]⟩]=some (True,.int .i64 (ixL d.toNat (bz s))):=rfl
theorem ixbS_ok (hP:PrgOk P) (args p r) (h:ixbS args=some (p,r)) (hp:p):CSpec P 161 args r:=by
 unfold ixbS at h
 split at h
 · simp only [Option.some.injEq,Prod.mk.injEq] at h
   obtain ⟨rfl,rfl⟩:=h
   exact hP.ixb _ _
 · simp at h
def trmS:List AV→Option (Prop × AV)
 | [.str s,.str ⟨⟨[48,49,50,51,52,53,54,55,56,57]⟩⟩]=>some (s.size≤9223372036854775807,.str (trD s))
 | _=>none
theorem trmS_eq (s):trmS [.str s,.str ⟨#[48,49,50,51,52,53,54,55,56,57]⟩]=some (s.size≤9223372036854775807,.str (trD s)):=rfl
theorem trmS_ok (hP:PrgOk P) (args p r) (h:trmS args=some (p,r)) (hp:p):CSpec P 154 args r:=by
 unfold trmS at h
 split at h
 · simp only [Option.some.injEq,Prod.mk.injEq] at h
   obtain ⟨rfl,rfl⟩:=h
   exact hP.trm _ hp
 · simp at h
attribute [go_sem] ixbS_eq trmS_eq
noncomputable def Lt0:Nat→List AV→Option (Prop × AV):=addS (addS Ft4 161 ixbS) 154 trmS
theorem Lt0_all (hP:PrgOk P) (T) (hT:TyOk P T):EnvOk P ⟨T,Lt0⟩:=(((Ft4_all hP T hT).add (ixbS_ok hP)).add (trmS_ok hP))
theorem Lt0_at (f a):Lt0 f a=(addS (addS Ft4 161 ixbS) 154 trmS) f a:=rfl
attribute [go_sem] Lt0_at
theorem lcut_spec (hP:PrgOk P) (s:ByteArray) (d:UInt8) (hs:(bl s).length≤281474976710656):CSpec P 152 [.str s,.str ⟨#[d]⟩] (.tup [.str (cutA d.toNat s),.str (cutB d.toNat s),.bool (decide (d.toNat ∈ bl s))]):=by
 have HE:=Lt0_all hP TF hP.tF
 have e1:(#[d]:Array UInt8).size=1:=rfl
 have e2:(ByteArray.mk #[d]).size=1:=rfl
 by_cases h:d.toNat ∈ bl s
 · have hi:ixL d.toNat (bz s)=((hdL d.toNat (bl s)).length:Int):=(hd_yes h).2
   have hl:(hdL d.toNat (bl s)).length<(bl s).length:=by rw [hd_lt]; exact h
   have hd:decide (d.toNat ∈ bl s)=true:=decide_eq_true h
   rw [hd]
   unfold cutA cutB
   generalize (hdL d.toNat (bl s)).length=n at *
   have hw:IntKind.i64.wrap ((n:Int)+((1:Nat):Int))=((n+1:Nat):Int):=wi_add1 n (by omega)
   have h0:((0:Int)≤(n:Int))=True:=eq_true (by omega)
   have h1:(n:Int)≤((bl s).length:Int):=by omega
   have h2:((n+1:Nat):Int)≤((bl s).length:Int):=by omega
   refine CSpec_go (E:=⟨TF,Lt0⟩) (fn152 hP) HE hP.mix ?_
   simp only [go_sem,hi,hw,h0,h1,h2,e1,e2,size_bl,Int.toNat_natCast]
   exact fin_z
 · have hi:ixL d.toNat (bz s) = -1:=(hd_no h).2.2
   have hd:decide (d.toNat ∈ bl s)=false:=decide_eq_false h
   have hm:((0:Int)≤-1)=False:=eq_false (by decide)
   rw [hd,cutA_no h,cutB_no h]
   refine CSpec_go (E:=⟨TF,Lt0⟩) (fn152 hP) HE hP.mix ?_
   simp only [go_sem,hi,hm]
   exact fin_z
def lcutS:List AV→Option (Prop × AV)
 | [.str s,.str ⟨⟨[d]⟩⟩]=>some ((bl s).length≤281474976710656,.tup [.str (cutA d.toNat s),.str (cutB d.toNat s),.bool (decide (d.toNat ∈ bl s))])
 | _=>none
theorem lcutS_eq (s d):lcutS [.str s,.str ⟨#[d]⟩]=some ((bl s).length≤281474976710656,.tup [.str (cutA d.toNat s),.str (cutB d.toNat s),.bool (decide (d.toNat ∈ bl s))]):=rfl
theorem lcutS_ok (hP:PrgOk P) (args p r) (h:lcutS args=some (p,r)) (hp:p):CSpec P 152 args r:=by
 unfold lcutS at h
 split at h
 · simp only [Option.some.injEq,Prod.mk.injEq] at h
   obtain ⟨rfl,rfl⟩:=h
   exact lcut_spec hP _ _ hp
 · simp at h
attribute [go_sem] lcutS_eq
def tpS (d:UInt8) (s:ByteArray):ByteArray:=if (bl s).getD 0 0=d.toNat∧0<(bl s).length then s.extract 1 s.size else s
theorem bl_tpS (s:ByteArray):bl (tpS 45 s)=if (bl s).getD 0 0=45 then (bl s).drop 1 else bl s:=by
 unfold tpS
 have e:(45:UInt8).toNat=45:=rfl
 rw [e]
 by_cases h:(bl s).getD 0 0=45
 · have h0:0<(bl s).length:=by
    cases hb:bl s with
    | nil=>rw [hb] at h; simp at h
    | cons c t=>simp
   rw [if_pos ⟨h,h0⟩,if_pos h,bl_extract]
   exact List.take_of_length_le (by rw [List.length_drop,size_bl]; omega)
 · rw [if_neg (fun e=>h e.1),if_neg h]
theorem hpf_spec (hP:PrgOk P) (s:ByteArray) (d:UInt8):CSpec P 162 [.str s,.str ⟨#[d]⟩] (.bool (decide ((bl s).getD 0 0=d.toNat∧0<(bl s).length))):=by
 have HE:=Lt0_all hP TF hP.tF
 have e1:(#[d]:Array UInt8).size=1:=rfl
 have e2:(ByteArray.mk #[d]).size=1:=rfl
 by_cases h:0<(bl s).length
 · have h1:(1:Nat)≤(bl s).length:=h
   have h1':(1:Int)≤((bl s).length:Int):=by omega
   have h2:((s.extract 0 1).toList == (ByteArray.mk #[d]).toList)=decide ((bl s).getD 0 0=d.toNat∧0<(bl s).length):=by
    rw [str_same]
    refine decide_eq_decide.2 ?_
    have hb:bl (s.extract 0 1)=[(bl s).getD 0 0]:=by
     rw [bl_extract]
     cases hb:bl s with
     | nil=>rw [hb] at h; simp at h
     | cons c t=>rfl
    constructor
    · intro e
      rw [e] at hb
      exact ⟨(List.cons.inj hb).1.symm,h⟩
    · intro e
      exact bl_inj (by rw [hb,e.1]; rfl)
   have i1:(1:Int).toNat=1:=rfl
   refine CSpec_go (E:=⟨TF,Lt0⟩) (fn162 hP) HE hP.mix ?_
   simp only [go_sem,e1,e2,size_bl,h1,h1',h2,i1]
   exact fin_z
 · have h1:(1≤(bl s).length)=False:=eq_false (by omega)
   have h1':((1:Int)≤((bl s).length:Int))=False:=eq_false (by omega)
   rw [decide_eq_false (fun e=>h e.2)]
   refine CSpec_go (E:=⟨TF,Lt0⟩) (fn162 hP) HE hP.mix ?_
   simp only [go_sem,e1,e2,size_bl,h1,h1']
   exact fin_z
def hpfS:List AV→Option (Prop × AV)
 | [.str s,.str ⟨⟨[d]⟩⟩]=>some (True,.bool (decide ((bl s).getD 0 0=d.toNat∧0<(bl s).length)))
 | _=>none
theorem hpfS_eq (s d):hpfS [.str s,.str ⟨#[d]⟩]=some (True,.bool (decide ((bl s).getD 0 0=d.toNat∧0<(bl s).length))):=rfl
theorem hpfS_ok (hP:PrgOk P) (args p r) (h:hpfS args=some (p,r)) (hp:p):CSpec P 162 args r:=by
 unfold hpfS at h
 split at h
 · simp only [Option.some.injEq,Prod.mk.injEq] at h
   obtain ⟨rfl,rfl⟩:=h
   exact hpf_spec hP _ _
 · simp at h
attribute [go_sem] hpfS_eq
noncomputable def Lt1:Nat→List AV→Option (Prop × AV):=addS (addS Lt0 152 lcutS) 162 hpfS
theorem Lt1_all (hP:PrgOk P) (T) (hT:TyOk P T):EnvOk P ⟨T,Lt1⟩:=(((Lt0_all hP T hT).add (lcutS_ok hP)).add (hpfS_ok hP))
theorem Lt1_at (f a):Lt1 f a=(addS (addS Lt0 152 lcutS) 162 hpfS) f a:=rfl
attribute [go_sem] Lt1_at
theorem sCut_spec (hP:PrgOk P) (s:ByteArray) (d:UInt8) (hs:(bl s).length≤281474976710656):CSpec P 131 [.str s,.str ⟨#[d]⟩] (.tup [.str (cutA d.toNat s),.str (cutB d.toNat s),.bool (decide (d.toNat ∈ bl s))]):=by
 have HE:=Lt1_all hP TF hP.tF
 refine CSpec_go (E:=⟨TF,Lt1⟩) (fn131 hP) HE hP.mix ?_
 simp only [go_sem,hs]
 exact fin_z
theorem ltp_spec (hP:PrgOk P) (s:ByteArray) (d:UInt8):CSpec P 153 [.str s,.str ⟨#[d]⟩] (.str (tpS d s)):=by
 have HE:=Lt1_all hP TF hP.tF
 have e1:(#[d]:Array UInt8).size=1:=rfl
 have e2:(ByteArray.mk #[d]).size=1:=rfl
 have i1:(1:Int).toNat=1:=rfl
 by_cases h:(bl s).getD 0 0=d.toNat∧0<(bl s).length
 · have hd:=decide_eq_true h
   have h1:(1:Nat)≤(bl s).length:=h.2
   have h1':(1:Int)≤((bl s).length:Int):=by omega
   unfold tpS
   rw [if_pos h]
   refine CSpec_go (E:=⟨TF,Lt1⟩) (fn153 hP) HE hP.mix ?_
   simp only [go_sem,hd,e1,e2,size_bl,h1,h1',i1]
   exact fin_z
 · have hd:=decide_eq_false h
   unfold tpS
   rw [if_neg h]
   refine CSpec_go (E:=⟨TF,Lt1⟩) (fn153 hP) HE hP.mix ?_
   simp only [go_sem,hd]
   exact fin_z
def tprS:List AV→Option (Prop × AV)
 | [.str s,.str ⟨⟨[d]⟩⟩]=>some (True,.str (tpS d s))
 | _=>none
theorem tprS_eq (s d):tprS [.str s,.str ⟨#[d]⟩]=some (True,.str (tpS d s)):=rfl
theorem tprS_ok (hP:PrgOk P) (args p r) (h:tprS args=some (p,r)) (hp:p):CSpec P 153 args r:=by
 unfold tprS at h
 split at h
 · simp only [Option.some.injEq,Prod.mk.injEq] at h
   obtain ⟨rfl,rfl⟩:=h
   exact ltp_spec hP _ _
 · simp at h
attribute [go_sem] tprS_eq
noncomputable def Lt2:Nat→List AV→Option (Prop × AV):=addS Lt1 153 tprS
theorem Lt2_all (hP:PrgOk P) (T) (hT:TyOk P T):EnvOk P ⟨T,Lt2⟩:=((Lt1_all hP T hT).add (tprS_ok hP))
theorem Lt2_at (f a):Lt2 f a=(addS Lt1 153 tprS) f a:=rfl
attribute [go_sem] Lt2_at
theorem tp_spec (hP:PrgOk P) (s:ByteArray) (d:UInt8):CSpec P 132 [.str s,.str ⟨#[d]⟩] (.str (tpS d s)):=by
 have HE:=Lt2_all hP TF hP.tF
 refine CSpec_go (E:=⟨TF,Lt2⟩) (fn132 hP) HE hP.mix ?_
 simp only [go_sem]
 exact fin_z
def tprS2:List AV→Option (Prop × AV):=tprS
theorem tprS2_ok (hP:PrgOk P) (args p r) (h:tprS2 args=some (p,r)) (hp:p):CSpec P 132 args r:=by
 unfold tprS2 tprS at h
 split at h
 · simp only [Option.some.injEq,Prod.mk.injEq] at h
   obtain ⟨rfl,rfl⟩:=h
   exact tp_spec hP _ _
 · simp at h
def sCutS:List AV→Option (Prop × AV):=lcutS
theorem sCutS_ok (hP:PrgOk P) (args p r) (h:sCutS args=some (p,r)) (hp:p):CSpec P 131 args r:=by
 unfold sCutS lcutS at h
 split at h
 · simp only [Option.some.injEq,Prod.mk.injEq] at h
   obtain ⟨rfl,rfl⟩:=h
   exact sCut_spec hP _ _ hp
 · simp at h
attribute [go_sem] tprS2 sCutS
theorem fdg_spec (hP:PrgOk P) (s:ByteArray) (hs:(bl s).length≤281474976710656):CSpec P 133 [.str s] (.bool (decide (okD (bl s)))):=by
 have HE:=Lt2_all hP TF hP.tF
 have hsz:s.size≤9223372036854775807:=by rw [size_bl]; omega
 have hsz':(bl s).length≤9223372036854775807:=by omega
 have ht:=trD_nil s
 have hg:=get_bl s 0
 refine CSpec_go (E:=⟨TF,Lt2⟩) (fn133 hP) HE hP.mix ?_
 obtain ⟨l,hl⟩:∃ l,bl s=l:=⟨_,rfl⟩
 rw [hl] at hs hsz' ht hg ⊢
 have hk:=okD_dgs (l:=l)
 by_cases h1:l=[]
 · have h1':l.isEmpty=true:=by rw [h1]; rfl
   rw [decide_eq_false (fun e=>(hk.1 e).1 h1)]
   simp only [go_sem,toList_nil,hl,h1']
   exact fin_z
 · have h1':l.isEmpty=false:=by cases l with|nil=>exact absurd rfl h1|cons=>rfl
   by_cases h2:dgs l
   · have h2':=decide_eq_true h2
     have hp:0<l.length:=List.length_pos_iff.2 h1
     by_cases h3:l.length=1
     · have h3':((l.length:Int) == 1)=true:=by rw [h3]; rfl
       have h3n:(l.length == 1)=true:=by rw [h3]; rfl
       rw [decide_eq_true (hk.2 ⟨h1,h2,.inl h3⟩)]
       simp only [go_sem,toList_nil,hl,h1',h2',ht,h3',h3n,size_bl,hsz']
       exact fin_z
     · have h3':((l.length:Int) == 1)=false:=beq_eq_false_iff_ne.2 (by omega)
       have h3n:(l.length == 1)=false:=beq_eq_false_iff_ne.2 h3
       have h4:decide (okD l)=(((l.getD 0 0:Nat):Int) != 48):=by
        rw [Bool.eq_iff_iff,decide_eq_true_eq,bne_iff_ne]
        exact ⟨fun e=>by have:=(hk.1 e).2.2.resolve_left h3; omega,fun e=>hk.2 ⟨h1,h2,.inr (by omega)⟩⟩
       rw [h4]
       simp only [go_sem,toList_nil,hl,h1',h2',ht,h3',h3n,size_bl,hsz',hg,hp]
       exact fin_z
   · have h2':=decide_eq_false h2
     rw [decide_eq_false (fun e=>h2 (hk.1 e).2.1)]
     simp only [go_sem,toList_nil,hl,h1',h2',ht,size_bl,hsz']
     exact fin_z
def fdgS:List AV→Option (Prop × AV)
 | [.str s]=>some ((bl s).length≤281474976710656,.bool (decide (okD (bl s))))
 | _=>none
theorem fdgS_ok (hP:PrgOk P) (args p r) (h:fdgS args=some (p,r)) (hp:p):CSpec P 133 args r:=by
 unfold fdgS at h
 split at h
 · simp only [Option.some.injEq,Prod.mk.injEq] at h
   obtain ⟨rfl,rfl⟩:=h
   exact fdg_spec hP _ hp
 · simp at h
attribute [go_sem] fdgS
noncomputable def Lt3:Nat→List AV→Option (Prop × AV):=addS (addS (addS Lt2 132 tprS2) 131 sCutS) 133 fdgS
theorem Lt3_all (hP:PrgOk P) (T) (hT:TyOk P T):EnvOk P ⟨T,Lt3⟩:=((((Lt2_all hP T hT).add (tprS2_ok hP)).add (sCutS_ok hP)).add (fdgS_ok hP))
theorem Lt3_at (f a):Lt3 f a=(addS (addS (addS Lt2 132 tprS2) 131 sCutS) 133 fdgS) f a:=rfl
attribute [go_sem] Lt3_at
theorem bl_sz (s:ByteArray):bl (tpS 45 (cutA 47 s))=szL (bl s):=by rw [bl_tpS,bl_cutA]; rfl
theorem str_eq (x:ByteArray) (y:ByteArray):(x.toList == y.toList)=decide (bl x=bl y):=by
 rw [str_same]; exact decide_eq_decide.2 ⟨fun h=>h ▸ rfl,bl_inj⟩
theorem mn_lt (l:List Nat):decide ((szL l).length<(hdL 47 l).length)=mnL l:=by
 cases h:mnL l
 · rw [sz_ps h]; exact decide_eq_false (Nat.lt_irrefl _)
 · rw [sz_mn h,List.length_cons]; exact decide_eq_true (by omega)
theorem sz_le (l:List Nat):(szL l).length≤l.length:=by
 have:=hd_le 47 l
 unfold szL; split
 · rw [List.length_drop]; omega
 · exact this
theorem den_le (l:List Nat):(denL l).length≤l.length+1:=by
 have:=tl_le 47 l
 unfold denL; split
 · omega
 · simp
theorem blen_lt2 (d:Nat):(blen d<2)=(d<2):=by
 rw [eq_iff_iff,show (blen d<2)=(blen d≤1) from eq_iff_iff.2 ⟨by omega,by omega⟩,blen_le_iff]
theorem blen_ne1 (d:Nat):((blen d:Int) != 1)=decide (d ≠ 1):=by
 rw [Bool.eq_iff_iff,bne_iff_ne,decide_eq_true_eq,Ne,Ne,← blen_one_iff]; omega
theorem fParse_spec (hP:PrgOk P) (s:ByteArray) (hs:(bl s).length≤140737488355328):CSpec P 115 [.str s] (.tup [(.agg [.opq (.frac ((parF (bl s)).1)),.pad,.pad,.pad,.pad]),.int .i64 (parF (bl s)).2]):=by
 have HE:=Lt3_all hP TF hP.tF
 have e47:(47:UInt8).toNat=47:=rfl
 have b1:=bl_sz s
 have b4:bl ⟨#[48]⟩=[48]:=rfl
 have c1:=bl_cutA 47 s
 have m1:=mn_lt (bl s)
 have hs':(bl s).length≤281474976710656:=by omega
 have l1:(szL (bl s)).length≤281474976710656:=Nat.le_trans (sz_le _) hs'
 have l2:(denL (bl s)).length≤281474976710656:=Nat.le_trans (den_le _) (by omega)
 refine CSpec_go (E:=⟨TF,Lt3⟩) (fn115 hP) HE hP.mix ?_
 by_cases hst:47 ∈ bl s
 · have hst':decide (47 ∈ bl s)=true:=decide_eq_true hst
   have b5:bl (cutB 47 s)=denL (bl s):=by rw [bl_cutB]; unfold denL; rw [if_pos hst]
   by_cases h1:okD (szL (bl s))
   · have h1':=decide_eq_true h1
     by_cases h2:okD (denL (bl s))
     · have h2':=decide_eq_true h2
       by_cases h3:mnL (bl s)=true∧szL (bl s)=[48]
       · have h4':=decide_eq_true h3.2
         rw [parF_1 (.inr (.inr h3))]
         simp only [go_sem,hs',e47,b1,b4,b5,c1,size_bl,m1,hst',l1,l2,h1',h2',h3.1,h4',str_eq]
         exact fin_z
       · have hn:¬ (¬ okD (szL (bl s))∨¬ okD (denL (bl s))∨(mnL (bl s)=true∧szL (bl s)=[48])):=by
          rintro (h|h|h)
          · exact h h1
          · exact h h2
          · exact h3 h
         have hm:mnL (bl s)=false∨(mnL (bl s)=true∧decide (szL (bl s)=[48])=false):=by
          cases hm:mnL (bl s)
          · exact .inl rfl
          · exact .inr ⟨rfl,decide_eq_false fun e=>h3 ⟨hm,e⟩⟩
         have two:(0:Int) != 3:=by decide
         by_cases h5:(szL (bl s)).length≤256
         · have p1:=parse_ok h1 h5
           have v1:=valL_blen h1 h5
           by_cases h6:(denL (bl s)).length≤256
           · have p2:=parse_ok h2 h6
             have v2:=valL_blen h2 h6
             have v1':=Nat.le_trans v1 (show _≤68719476736 by decide)
             have v2':=Nat.le_trans v2 (show _≤68719476736 by decide)
             have v2'':=Nat.le_trans v2 (show _≤34359738368 by decide)
             have g1:blen (Nat.gcd (valL (szL (bl s))) (valL (denL (bl s))))≤68719476736:=gcd_blen v1' v2'
             have w1:wl (sg (mnL (bl s)) (valL (szL (bl s))))≤34359738368:=by unfold wl; rw [sg_abs]; exact Nat.le_trans v1 (by decide)
             have hl:¬ (256<(szL (bl s)).length∨256<(denL (bl s)).length):=by omega
             by_cases h7:47 ∈ bl s∧(valL (denL (bl s))<2∨Nat.gcd (valL (szL (bl s))) (valL (denL (bl s))) ≠ 1)
             · rw [parF_3 hn hl h7]
               by_cases h8:valL (denL (bl s))<2
               · rcases hm with hm|⟨hm,hm2⟩
                 · first
                   | exact absurd h7.1 hst
                   | (simp only [go_sem,hs',e47,b1,b4,b5,c1,size_bl,m1,hst',l1,l2,h1',h2',str_eq,hm,p1,p2,v1',v2',blen_lt2,h8]
                      exact fin_z)
                 · first
                   | exact absurd h7.1 hst
                   | (simp only [go_sem,hs',e47,b1,b4,b5,c1,size_bl,m1,hst',l1,l2,h1',h2',str_eq,hm,hm2,p1,p2,v1',v2',blen_lt2,h8]
                      exact fin_z)
               · have h9:decide (Nat.gcd (valL (szL (bl s))) (valL (denL (bl s))) ≠ 1)=true:=decide_eq_true (h7.2.resolve_left h8)
                 rcases hm with hm|⟨hm,hm2⟩
                 · first
                   | exact absurd h7.1 hst
                   | (simp only [go_sem,hs',e47,b1,b4,b5,c1,size_bl,m1,hst',l1,l2,h1',h2',str_eq,hm,p1,p2,v1',v2',blen_lt2,h8,g1,blen_ne1,h9]
                      exact fin_z)
                 · first
                   | exact absurd h7.1 hst
                   | (simp only [go_sem,hs',e47,b1,b4,b5,c1,size_bl,m1,hst',l1,l2,h1',h2',str_eq,hm,hm2,p1,p2,v1',v2',blen_lt2,h8,g1,blen_ne1,h9]
                      exact fin_z)
             · rw [parF_4 hn hl h7]
               have h8:47 ∈ bl s→¬ valL (denL (bl s))<2:=fun k e=>h7 ⟨k,.inl e⟩
               have h9:47 ∈ bl s→decide (Nat.gcd (valL (szL (bl s))) (valL (denL (bl s))) ≠ 1)=false:=fun k=>decide_eq_false fun e=>h7 ⟨k,.inr e⟩
               have hpos:0<valL (denL (bl s)):=den_pos' fun k=>by have:=h8 k; omega
               rcases hm with hm|⟨hm,hm2⟩
               · rw [hm] at w1 ⊢
                 first
                  | (have h8:=h8 hst
                     have h9:=h9 hst
                     simp only [go_sem,hs',e47,b1,b4,b5,c1,size_bl,m1,hst',l1,l2,h1',h2',str_eq,hm,p1,p2,v1',v2',v2'',blen_lt2,h8,g1,blen_ne1,h9,w1,hpos]
                     exact fin_z)
                  | (simp only [go_sem,hs',e47,b1,b4,b5,c1,size_bl,m1,hst',l1,l2,h1',h2',str_eq,hm,p1,p2,v1',v2',v2'',w1,hpos]
                     exact fin_z)
               · rw [hm] at w1 ⊢
                 first
                  | (have h8:=h8 hst
                     have h9:=h9 hst
                     simp only [go_sem,hs',e47,b1,b4,b5,c1,size_bl,m1,hst',l1,l2,h1',h2',str_eq,hm,hm2,p1,p2,v1',v2',v2'',blen_lt2,h8,g1,blen_ne1,h9,w1,hpos]
                     exact fin_z)
                  | (simp only [go_sem,hs',e47,b1,b4,b5,c1,size_bl,m1,hst',l1,l2,h1',h2',str_eq,hm,hm2,p1,p2,v1',v2',v2'',w1,hpos]
                     exact fin_z)
           · have p2:=parse_long h2 (show 256<(denL (bl s)).length by omega)
             rw [parF_2 hn (.inr (by omega))]
             rcases hm with hm|⟨hm,hm2⟩
             · simp only [go_sem,hs',e47,b1,b4,b5,c1,size_bl,m1,hst',l1,l2,h1',h2',str_eq,hm,p1,p2]
               exact fin_z
             · simp only [go_sem,hs',e47,b1,b4,b5,c1,size_bl,m1,hst',l1,l2,h1',h2',str_eq,hm,hm2,p1,p2]
               exact fin_z
         · have p1:=parse_long h1 (show 256<(szL (bl s)).length by omega)
           have p2:∃ n e,parseR (denL (bl s)) = .tup [(.agg [.opq (.nat (n)),.pad]),.int .i64 e]:=by
            by_cases h6:(denL (bl s)).length≤256
            · exact ⟨_,_,parse_ok h2 h6⟩
            · exact ⟨_,_,parse_long h2 (by omega)⟩
           obtain ⟨n2,e2,p2⟩:=p2
           rw [parF_2 hn (.inl (by omega))]
           rcases hm with hm|⟨hm,hm2⟩
           · simp only [go_sem,hs',e47,b1,b4,b5,c1,size_bl,m1,hst',l1,l2,h1',h2',str_eq,hm,p1,p2]
             exact fin_z
           · simp only [go_sem,hs',e47,b1,b4,b5,c1,size_bl,m1,hst',l1,l2,h1',h2',str_eq,hm,hm2,p1,p2]
             exact fin_z
     · have h2':=decide_eq_false h2
       rw [parF_1 (.inr (.inl h2))]
       simp only [go_sem,hs',e47,b1,b4,b5,c1,size_bl,m1,hst',l1,l2,h1',h2',str_eq]
       exact fin_z
   · have h1':=decide_eq_false h1
     rw [parF_1 (.inl h1)]
     simp only [go_sem,hs',e47,b1,b4,b5,c1,size_bl,m1,hst',l1,l2,h1',str_eq]
     exact fin_z
 · have hst':decide (47 ∈ bl s)=false:=decide_eq_false hst
   have b5:bl ⟨#[49]⟩=denL (bl s):=(den_one hst).symm
   by_cases h1:okD (szL (bl s))
   · have h1':=decide_eq_true h1
     by_cases h2:okD (denL (bl s))
     · have h2':=decide_eq_true h2
       by_cases h3:mnL (bl s)=true∧szL (bl s)=[48]
       · have h4':=decide_eq_true h3.2
         rw [parF_1 (.inr (.inr h3))]
         simp only [go_sem,hs',e47,b1,b4,b5,c1,size_bl,m1,hst',l1,l2,h1',h2',h3.1,h4',str_eq]
         exact fin_z
       · have hn:¬ (¬ okD (szL (bl s))∨¬ okD (denL (bl s))∨(mnL (bl s)=true∧szL (bl s)=[48])):=by
          rintro (h|h|h)
          · exact h h1
          · exact h h2
          · exact h3 h
         have hm:mnL (bl s)=false∨(mnL (bl s)=true∧decide (szL (bl s)=[48])=false):=by
          cases hm:mnL (bl s)
          · exact .inl rfl
          · exact .inr ⟨rfl,decide_eq_false fun e=>h3 ⟨hm,e⟩⟩
         have two:(0:Int) != 3:=by decide
         by_cases h5:(szL (bl s)).length≤256
         · have p1:=parse_ok h1 h5
           have v1:=valL_blen h1 h5
           by_cases h6:(denL (bl s)).length≤256
           · have p2:=parse_ok h2 h6
             have v2:=valL_blen h2 h6
             have v1':=Nat.le_trans v1 (show _≤68719476736 by decide)
             have v2':=Nat.le_trans v2 (show _≤68719476736 by decide)
             have v2'':=Nat.le_trans v2 (show _≤34359738368 by decide)
             have g1:blen (Nat.gcd (valL (szL (bl s))) (valL (denL (bl s))))≤68719476736:=gcd_blen v1' v2'
             have w1:wl (sg (mnL (bl s)) (valL (szL (bl s))))≤34359738368:=by unfold wl; rw [sg_abs]; exact Nat.le_trans v1 (by decide)
             have hl:¬ (256<(szL (bl s)).length∨256<(denL (bl s)).length):=by omega
             by_cases h7:47 ∈ bl s∧(valL (denL (bl s))<2∨Nat.gcd (valL (szL (bl s))) (valL (denL (bl s))) ≠ 1)
             · rw [parF_3 hn hl h7]
               by_cases h8:valL (denL (bl s))<2
               · rcases hm with hm|⟨hm,hm2⟩
                 · first
                   | exact absurd h7.1 hst
                   | (simp only [go_sem,hs',e47,b1,b4,b5,c1,size_bl,m1,hst',l1,l2,h1',h2',str_eq,hm,p1,p2,v1',v2',blen_lt2,h8]
                      exact fin_z)
                 · first
                   | exact absurd h7.1 hst
                   | (simp only [go_sem,hs',e47,b1,b4,b5,c1,size_bl,m1,hst',l1,l2,h1',h2',str_eq,hm,hm2,p1,p2,v1',v2',blen_lt2,h8]
                      exact fin_z)
               · have h9:decide (Nat.gcd (valL (szL (bl s))) (valL (denL (bl s))) ≠ 1)=true:=decide_eq_true (h7.2.resolve_left h8)
                 rcases hm with hm|⟨hm,hm2⟩
                 · first
                   | exact absurd h7.1 hst
                   | (simp only [go_sem,hs',e47,b1,b4,b5,c1,size_bl,m1,hst',l1,l2,h1',h2',str_eq,hm,p1,p2,v1',v2',blen_lt2,h8,g1,blen_ne1,h9]
                      exact fin_z)
                 · first
                   | exact absurd h7.1 hst
                   | (simp only [go_sem,hs',e47,b1,b4,b5,c1,size_bl,m1,hst',l1,l2,h1',h2',str_eq,hm,hm2,p1,p2,v1',v2',blen_lt2,h8,g1,blen_ne1,h9]
                      exact fin_z)
             · rw [parF_4 hn hl h7]
               have h8:47 ∈ bl s→¬ valL (denL (bl s))<2:=fun k e=>h7 ⟨k,.inl e⟩
               have h9:47 ∈ bl s→decide (Nat.gcd (valL (szL (bl s))) (valL (denL (bl s))) ≠ 1)=false:=fun k=>decide_eq_false fun e=>h7 ⟨k,.inr e⟩
               have hpos:0<valL (denL (bl s)):=den_pos' fun k=>by have:=h8 k; omega
               rcases hm with hm|⟨hm,hm2⟩
               · rw [hm] at w1 ⊢
                 first
                  | (have h8:=h8 hst
                     have h9:=h9 hst
                     simp only [go_sem,hs',e47,b1,b4,b5,c1,size_bl,m1,hst',l1,l2,h1',h2',str_eq,hm,p1,p2,v1',v2',v2'',blen_lt2,h8,g1,blen_ne1,h9,w1,hpos]
                     exact fin_z)
                  | (simp only [go_sem,hs',e47,b1,b4,b5,c1,size_bl,m1,hst',l1,l2,h1',h2',str_eq,hm,p1,p2,v1',v2',v2'',w1,hpos]
                     exact fin_z)
               · rw [hm] at w1 ⊢
                 first
                  | (have h8:=h8 hst
                     have h9:=h9 hst
                     simp only [go_sem,hs',e47,b1,b4,b5,c1,size_bl,m1,hst',l1,l2,h1',h2',str_eq,hm,hm2,p1,p2,v1',v2',v2'',blen_lt2,h8,g1,blen_ne1,h9,w1,hpos]
                     exact fin_z)
                  | (simp only [go_sem,hs',e47,b1,b4,b5,c1,size_bl,m1,hst',l1,l2,h1',h2',str_eq,hm,hm2,p1,p2,v1',v2',v2'',w1,hpos]
                     exact fin_z)
           · have p2:=parse_long h2 (show 256<(denL (bl s)).length by omega)
             rw [parF_2 hn (.inr (by omega))]
             rcases hm with hm|⟨hm,hm2⟩
             · simp only [go_sem,hs',e47,b1,b4,b5,c1,size_bl,m1,hst',l1,l2,h1',h2',str_eq,hm,p1,p2]
               exact fin_z
             · simp only [go_sem,hs',e47,b1,b4,b5,c1,size_bl,m1,hst',l1,l2,h1',h2',str_eq,hm,hm2,p1,p2]
               exact fin_z
         · have p1:=parse_long h1 (show 256<(szL (bl s)).length by omega)
           have p2:∃ n e,parseR (denL (bl s)) = .tup [(.agg [.opq (.nat (n)),.pad]),.int .i64 e]:=by
            by_cases h6:(denL (bl s)).length≤256
            · exact ⟨_,_,parse_ok h2 h6⟩
            · exact ⟨_,_,parse_long h2 (by omega)⟩
           obtain ⟨n2,e2,p2⟩:=p2
           rw [parF_2 hn (.inl (by omega))]
           rcases hm with hm|⟨hm,hm2⟩
           · simp only [go_sem,hs',e47,b1,b4,b5,c1,size_bl,m1,hst',l1,l2,h1',h2',str_eq,hm,p1,p2]
             exact fin_z
           · simp only [go_sem,hs',e47,b1,b4,b5,c1,size_bl,m1,hst',l1,l2,h1',h2',str_eq,hm,hm2,p1,p2]
             exact fin_z
     · have h2':=decide_eq_false h2
       rw [parF_1 (.inr (.inl h2))]
       simp only [go_sem,hs',e47,b1,b4,b5,c1,size_bl,m1,hst',l1,l2,h1',h2',str_eq]
       exact fin_z
   · have h1':=decide_eq_false h1
     rw [parF_1 (.inl h1)]
     simp only [go_sem,hs',e47,b1,b4,b5,c1,size_bl,m1,hst',l1,l2,h1',str_eq]
     exact fin_z
noncomputable def fParseS:List AV→Option (Prop × AV)
 | [.str s]=>some ((bl s).length≤140737488355328,.tup [(.agg [.opq (.frac ((parF (bl s)).1)),.pad,.pad,.pad,.pad]),.int .i64 (parF (bl s)).2])
 | _=>none
theorem fParseS_ok (hP:PrgOk P) (args p r) (h:fParseS args=some (p,r)) (hp:p):CSpec P 115 args r:=by
 unfold fParseS at h
 split at h
 · simp only [Option.some.injEq,Prod.mk.injEq] at h
   obtain ⟨rfl,rfl⟩:=h
   exact fParse_spec hP _ hp
 · simp at h
attribute [go_sem] fParseS
noncomputable def Lt4:Nat→List AV→Option (Prop × AV):=addS Lt3 115 fParseS
theorem Lt4_all (hP:PrgOk P) (T) (hT:TyOk P T):EnvOk P ⟨T,Lt4⟩:=((Lt3_all hP T hT).add (fParseS_ok hP))
theorem Lt4_at (f a):Lt4 f a=(addS Lt3 115 fParseS) f a:=rfl
attribute [go_sem] Lt4_at
noncomputable def Lt5:Nat→List AV→Option (Prop × AV):=Lt4
theorem Lt5_all (hP:PrgOk P) (T) (hT:TyOk P T):EnvOk P ⟨T,Lt5⟩:=(Lt4_all hP T hT)
attribute [go_sem] Lt5
theorem CvL.rnatOut (n:Nat) {xs bs} (k:CvL xs bs):CvL ((.imm (digs 65536 (n)).length (List.map (fun d:Nat=>AV.int .u32 (d:Int)) (digs 65536 (n))))::xs) ((.opq (.rnat (n)))::bs):=fun W φ w l hl=>by
 obtain ⟨v,vs,rfl,h1,h2⟩:=hl.uncons rfl
 exact (Conv.rnat n _ _ _ _ h1).app (k _ _ _ _ h2)
def rG (q:Rat):List AV:=[.bool (decide (q.num<0)),(.imm (digs 65536 (q.num.natAbs)).length (List.map (fun d:Nat=>AV.int .u32 (d:Int)) (digs 65536 (q.num.natAbs)))),(.imm (digs 65536 (q.den)).length (List.map (fun d:Nat=>AV.int .u32 (d:Int)) (digs 65536 (q.den))))]
theorem CvL.rfIn (q:Rat) {xs bs} (h:CvL xs bs):CvL ((.agg [.opq (.rfrac (q)),.pad,.pad])::xs) (.agg (rG q)::bs):=by
 refine .agg (fun W φ w l hl=>?_) h
 have h1:CvL [.opq (.rfrac q),.pad,.pad] [.bool (decide (q.num<0)),(.opq (.rnat (q.num.natAbs))),(.opq (.rnat (q.den)))]:=by simpa [Pay.open,Pay.width] using CvL.unfold (.rfrac q) []
 have h2:CvL [.bool (decide (q.num<0)),(.opq (.rnat (q.num.natAbs))),(.opq (.rnat (q.den)))] (rG q):=CvL.cons rfl (CvL.rnatIn _ (CvL.rnatIn _ .nil))
 exact h2 _ _ _ _ (h1 _ _ _ _ hl)
theorem CvL.rfOut (q:Rat) {xs bs} (h:CvL xs bs):CvL (.agg (rG q)::xs) ((.agg [.opq (.rfrac (q)),.pad,.pad])::bs):=by
 refine .agg (fun W φ w l hl=>?_) h
 have h1:CvL [.bool (decide (q.num<0)),(.opq (.rnat (q.num.natAbs))),(.opq (.rnat (q.den)))] [.opq (.rfrac q),.pad,.pad]:=by simpa [Pay.open,Pay.width] using CvL.fold (.rfrac q) [] rfl
 have h2:CvL (rG q) [.bool (decide (q.num<0)),(.opq (.rnat (q.num.natAbs))),(.opq (.rnat (q.den)))]:=CvL.cons rfl (CvL.rnatOut _ (CvL.rnatOut _ .nil))
 exact h1 _ _ _ _ (h2 _ _ _ _ hl)
theorem Conv.rf (q:Rat):Conv (.agg (rG q)) (.agg [.opq (.rfrac (q)),.pad,.pad]):=CvL.conv (.rfOut q .nil)
theorem sg_lt {m:Bool} {n:Nat} (h:m=true→0<n):decide (sg m n<0)=m:=by
 rw [sg_neg]; cases m
 · rfl
 · rw [decide_eq_true (h rfl)]; rfl
theorem rG_mk {m:Bool} {n d:Nat} (h:m=true→0<n) (hd:0<d) (hg:Nat.gcd n d=1):rG (mkRat (sg m n) d)=[.bool m,(.imm (digs 65536 (n)).length (List.map (fun d:Nat=>AV.int .u32 (d:Int)) (digs 65536 (n)))),(.imm (digs 65536 (d)).length (List.map (fun d:Nat=>AV.int .u32 (d:Int)) (digs 65536 (d))))]:=by
 unfold rG
 rw [mk_num hd,mk_den hd,sg_abs,hg,Nat.div_one,Nat.div_one,sg_lt h,sg_lt h,sg_abs]
noncomputable def rawRF:AV→Option (Prop × Rat)
 | .agg [.opq (.rfrac q),.pad,.pad]=>some (True,q)
 | .agg [.bool m,x,y]=>(rawR x).bind fun n=>(rawR y).map fun d=>(n.1∧d.1∧(m=true→0<n.2)∧0<d.2∧Nat.gcd n.2 d.2=1,qlow (sg m n.2) d.2)
 | _=>none
theorem rawRF_atom (q:Rat):rawRF (.agg [.opq (.rfrac (q)),.pad,.pad])=some (True,q):=rfl
theorem rawRF_raw (m x y):rawRF (.agg [.bool m,x,y])=(rawR x).bind fun n=>(rawR y).map fun d=>(n.1∧d.1∧(m=true→0<n.2)∧0<d.2∧Nat.gcd n.2 d.2=1,qlow (sg m n.2) d.2):=rfl
theorem rawRF_G (q:Rat):rawRF (.agg [.bool (decide ((q).num<0)),(.imm (digs 65536 ((q).num.natAbs)).length (List.map (fun d:Nat=>AV.int .u32 (d:Int)) (digs 65536 ((q).num.natAbs)))),(.imm (digs 65536 ((q).den)).length (List.map (fun d:Nat=>AV.int .u32 (d:Int)) (digs 65536 ((q).den))))])=some (True,q):=by
 rw [rawRF_raw,rawR_imm,rawR_imm]
 simp only [Option.bind_some,Option.map_some,isR_digs,map_ud32,dOf_digs16,true_and]
 rw [sg_of,qlow_eq,q_self]
 congr 2
 refine eq_true ⟨fun h=>?_,q.den_pos,q_gcd q⟩
 have:=of_decide_eq_true h
 omega
theorem rawRF_cv {v:AV} {p q} (h:rawRF v=some (p,q)) (hp:p) {xs bs} (k:CvL xs bs):CvL (v::xs) ((.agg [.opq (.rfrac (q)),.pad,.pad])::bs):=by
 unfold rawRF at h
 split at h
 · simp only [Option.some.injEq,Prod.mk.injEq] at h
   obtain ⟨rfl,rfl⟩:=h
   exact .agg (.refl _) k
 · rename_i m x y
   simp only [Option.bind_eq_some_iff,Option.map_eq_some_iff,Prod.exists,Prod.mk.injEq] at h
   obtain ⟨p1,n,h1,p2,d,h2,rfl,rfl⟩:=h
   obtain ⟨c1,c2,c3,c4,c5⟩:=hp
   have e:=rG_mk c3 c4 c5
   rw [qlow_eq]
   have h3:CvL (.agg [.bool m,x,y]::xs) (.agg (rG (mkRat (sg m n) d))::xs):=by
    rw [e]
    exact .agg (CvL.cons rfl (rawR_cv h1 c1 (rawR_cv h2 c2 .nil))) (.refl _)
   exact fun W φ w l hl=>CvL.rfOut _ k _ _ _ _ (h3 _ _ _ _ hl)
 · simp at h
noncomputable def onQ1 (f:Rat→Prop × AV):List AV→Option (Prop × AV)
 | [x]=>(rawRF x).map fun a=>(a.1∧(f a.2).1,(f a.2).2)
 | _=>none
noncomputable def onQ2 (f:Rat→Rat→Prop × AV):List AV→Option (Prop × AV)
 | [x,y]=>(rawRF x).bind fun a=>(rawRF y).map fun b=>(a.1∧b.1∧(f a.2 b.2).1,(f a.2 b.2).2)
 | _=>none
theorem onQ1_ok {fi:Nat} {f:Rat→Prop × AV} (h:∀ a,(f a).1→CSpec P fi [(.agg [.opq (.rfrac (a)),.pad,.pad])] (f a).2) (args p r) (he:onQ1 f args=some (p,r)) (hp:p):CSpec P fi args r:=by
 unfold onQ1 at he
 split at he
 · simp only [Option.map_eq_some_iff,Prod.exists,Prod.mk.injEq] at he
   obtain ⟨q,a,h1,rfl,rfl⟩:=he
   exact (h a hp.2).cv (rawRF_cv h1 hp.1 .nil)
 · simp at he
theorem onQ2_ok {fi:Nat} {f:Rat→Rat→Prop × AV} (h:∀ a b,(f a b).1→CSpec P fi [(.agg [.opq (.rfrac (a)),.pad,.pad]),(.agg [.opq (.rfrac (b)),.pad,.pad])] (f a b).2) (args p r) (he:onQ2 f args=some (p,r)) (hp:p):CSpec P fi args r:=by
 unfold onQ2 at he
 split at he
 · simp only [Option.bind_eq_some_iff,Option.map_eq_some_iff,Prod.exists,Prod.mk.injEq] at he
   obtain ⟨q,a,h1,q',b,h2,rfl,rfl⟩:=he
   exact (h a b hp.2.2).cv (rawRF_cv h1 hp.1 (rawRF_cv h2 hp.2.1 .nil))
 · simp at he
theorem onQ1_eq (f x):onQ1 f [x]=(rawRF x).map fun a=>(a.1∧(f a.2).1,(f a.2).2):=rfl
theorem onQ2_eq (f x y):onQ2 f [x,y]=(rawRF x).bind fun a=>(rawRF y).map fun b=>(a.1∧b.1∧(f a.2 b.2).1,(f a.2 b.2).2):=rfl
attribute [go_sem] rawRF_atom rawRF_G onQ1_eq onQ2_eq
theorem digs0 (n:Nat):((digs 65536 n).length == 0)=decide (n=0):=by
 rw [Bool.eq_iff_iff]; simp only [beq_iff_eq,decide_eq_true_eq]
 constructor
 · intro h
   have:=dOf_digs16 n
   rw [List.length_eq_zero_iff.1 h] at this
   exact this.symm
 · intro h; rw [h,digs_zero]; rfl
theorem digs1 (n:Nat):(0<(digs 65536 n).length)=(0<n):=by
 have:=digs0 n
 rw [Bool.eq_iff_iff] at this; simp only [beq_iff_eq,decide_eq_true_eq] at this
 rw [eq_iff_iff]; omega
theorem digs1' {n:Nat} (h:(digs 65536 n).length=1):digs 65536 n=[n]:=by
 have hd:=dOf_digs16 n
 cases hl:digs 65536 n with
 | nil=>rw [hl] at h; simp at h
 | cons c t =>
   rw [hl] at h hd
   have ht:t=[]:=List.length_eq_zero_iff.1 (by simpa using h)
   subst ht
   simp [dOf] at hd
   rw [hd]
theorem rOne_spec (hP:PrgOk P) (n:Nat) (h:blen n≤68719476736):CSpec P 156 [(.imm (digs 65536 (n)).length (List.map (fun d:Nat=>AV.int .u32 (d:Int)) (digs 65536 (n))))] (.bool (decide (n=1))):=by
 have HE:=Sp_ok hP
 by_cases h1:(digs 65536 n).length=1
 · rw [digs1' h1]
   have e:((n:Int) == 1)=decide (n=1):=by
    rw [Bool.eq_iff_iff]; simp only [beq_iff_eq,decide_eq_true_eq]; omega
   refine CSpec_go (E:=⟨T0,Sp⟩) (fn156 hP) HE hP.mix ?_
   simp only [go_sem,h,List.map_cons,List.map_nil,List.length_cons,List.length_nil,e]
   exact fin_z
 · have e1:((digs 65536 n).length == 1)=false:=beq_eq_false_iff_ne.2 h1
   have e2:decide (n=1)=false:=decide_eq_false fun e=>h1 (by rw [e,digs_small 65536 1 (by decide) (by decide) (by decide)]; rfl)
   rw [e2]
   refine CSpec_go (E:=⟨T0,Sp⟩) (fn156 hP) HE hP.mix ?_
   simp only [go_sem,h,e1]
   exact fin_z
def rOneS:List AV→Option (Prop × AV):=onR1 fun a=>(blen a≤68719476736,.bool (decide (a=1)))
theorem rOneS_ok (hP:PrgOk P) (args p r):rOneS args=some (p,r)→p→CSpec P 156 args r:=onR1_ok (fun a h=>by exact rOne_spec hP a h) args p r
attribute [go_sem] rOneS
noncomputable def Fr0:Nat→List AV→Option (Prop × AV):=addS Sp 156 rOneS
theorem Fr0_ok (hP:PrgOk P):EnvOk P ⟨T0,Fr0⟩:=((Sp_ok hP).add (rOneS_ok hP))
theorem Fr0_at (f a):Fr0 f a=(addS Sp 156 rOneS) f a:=rfl
attribute [go_sem] Fr0_at
theorem rLow_spec (hP:PrgOk P) (m:Bool) (n d:Nat) (hn:blen n≤34359738368) (hd:blen d≤34359738368) (h0:0<d):CSpec P 113 [.bool m,(.imm (digs 65536 (n)).length (List.map (fun d:Nat=>AV.int .u32 (d:Int)) (digs 65536 (n)))),(.imm (digs 65536 (d)).length (List.map (fun d:Nat=>AV.int .u32 (d:Int)) (digs 65536 (d))))] (.agg [.opq (.rfrac (qlow (sg m n) d)),.pad,.pad]):=by
 have HE:=Fr0_ok hP
 rw [qlow_eq]
 refine CSpec.conv (r:=.agg (rG (mkRat (sg m n) d))) ?_ (.rf _)
 have hn':=Nat.le_trans hn (show _≤68719476736 by decide)
 have hd':=Nat.le_trans hd (show _≤68719476736 by decide)
 refine CSpec_go (E:=⟨T0,Fr0⟩) (fn113 hP) HE hP.mix ?_
 by_cases h:n=0
 · have e:rG (mkRat (sg m n) d)=[.bool false,(.imm (digs 65536 (0)).length (List.map (fun d:Nat=>AV.int .u32 (d:Int)) (digs 65536 (0)))),(.imm (digs 65536 (1)).length (List.map (fun d:Nat=>AV.int .u32 (d:Int)) (digs 65536 (1))))]:=by
    have:mkRat (sg m n) d=0:=by rw [h,sg_zero]; exact Rat.zero_mkRat _
    rw [this]; rfl
   have hb:decide (n=0)=true:=decide_eq_true h
   have i1:(1:Int).toNat=1:=rfl
   rw [e]
   simp only [go_sem,digs0,hb,i1]
   rw [digs_zero]
   exact ⟨by omega,CvL.conv (.agg (CvL.cons (a:=.bool false) rfl (.nilR (.refl _))) .nil)⟩
 · have hb:decide (n=0)=false:=decide_eq_false h
   have hg:0<Nat.gcd n d:=Nat.gcd_pos_of_pos_right _ h0
   have hgb:=gcd_blen hn hd
   have hp:0<n / Nat.gcd n d:=Nat.div_pos (Nat.le_of_dvd (by omega) (Nat.gcd_dvd_left _ _)) hg
   have e:rG (mkRat (sg m n) d)=[.bool m,(.imm (digs 65536 (n / Nat.gcd n d)).length (List.map (fun d:Nat=>AV.int .u32 (d:Int)) (digs 65536 (n / Nat.gcd n d)))),(.imm (digs 65536 (d / Nat.gcd n d)).length (List.map (fun d:Nat=>AV.int .u32 (d:Int)) (digs 65536 (d / Nat.gcd n d))))]:=by
    unfold rG
    rw [mk_num h0,mk_den h0,sg_abs,sg_lt (m:=m) (n:=n) (fun _=>by omega),sg_lt (m:=m) (n:=n / Nat.gcd n d) (fun _=>hp),sg_abs]
   rw [e]
   simp only [go_sem,digs0,hb,hn,hd,hn',hd',hg,hgb]
   exact fin_z
noncomputable def rLowS:List AV→Option (Prop × AV)
 | [.bool m,x,y]=>(rawR x).bind fun n=>(rawR y).map fun d=>(n.1∧d.1∧blen n.2≤34359738368∧blen d.2≤34359738368∧0<d.2,(.agg [.opq (.rfrac (qlow (sg m n.2) d.2)),.pad,.pad]))
 | _=>none
theorem rLowS_eq (m x y):rLowS [.bool m,x,y]=(rawR x).bind fun n=>(rawR y).map fun d=>(n.1∧d.1∧blen n.2≤34359738368∧blen d.2≤34359738368∧0<d.2,(.agg [.opq (.rfrac (qlow (sg m n.2) d.2)),.pad,.pad])):=rfl
theorem rLowS_ok (hP:PrgOk P) (args p r) (he:rLowS args=some (p,r)) (hp:p):CSpec P 113 args r:=by
 unfold rLowS at he
 split at he
 · simp only [Option.bind_eq_some_iff,Option.map_eq_some_iff,Prod.exists,Prod.mk.injEq] at he
   obtain ⟨q,a,h1,q',b,h2,rfl,rfl⟩:=he
   exact (rLow_spec hP _ a b hp.2.2.1 hp.2.2.2.1 hp.2.2.2.2).cv (.cons rfl (rawR_cv h1 hp.1 (rawR_cv h2 hp.2.1 .nil)))
 · simp at he
attribute [go_sem] rLowS_eq
def smB (m:Bool) (n:Nat) (k:Bool) (l:Nat):Bool:=if m=k then m else if l≤n then m else k
def smN (m:Bool) (n:Nat) (k:Bool) (l:Nat):Nat:=if m=k then n+l else if l≤n then n-l else l-n
theorem sm_sg (m n k l):sg (smB m n k l) (smN m n k l)=sg m n+sg k l:=by
 unfold smB smN
 cases m<;>cases k<;>simp [sg]<;>(repeat' split)<;>omega
theorem smN_blen {m n k l c} (h:blen n≤c) (h':blen l≤c):blen (smN m n k l)≤c+1:=by
 have hs:=wl_add2 (a:=sg m n) (b:=sg k l) (n:=c) (by unfold wl; rw [sg_abs]; exact h) (by unfold wl; rw [sg_abs]; exact h')
 rw [← sm_sg] at hs; unfold wl at hs; rw [sg_abs] at hs; exact hs
theorem cmp_lt' {a b:Nat} (h:¬ b≤a):decide (0≤cmpI a b)=false:=by
 rw [cmpI_lt (by omega)]; rfl
theorem rSum_spec (hP:PrgOk P) (m:Bool) (n:Nat) (k:Bool) (l:Nat) (hn:blen n≤34359738368) (hl:blen l≤34359738368):CSpec P 118 [.bool m,(.imm (digs 65536 (n)).length (List.map (fun d:Nat=>AV.int .u32 (d:Int)) (digs 65536 (n)))),.bool k,(.imm (digs 65536 (l)).length (List.map (fun d:Nat=>AV.int .u32 (d:Int)) (digs 65536 (l))))] (.tup [.bool (smB m n k l),(.imm (digs 65536 (smN m n k l)).length (List.map (fun d:Nat=>AV.int .u32 (d:Int)) (digs 65536 (smN m n k l))))]):=by
 have HE:=Fr0_ok hP
 have hn':=Nat.le_trans hn (show _≤68719476736 by decide)
 have hl':=Nat.le_trans hl (show _≤68719476736 by decide)
 refine CSpec_go (E:=⟨T0,Fr0⟩) (fn118 hP) HE hP.mix ?_
 by_cases h:m=k
 · subst h
   have e1:smB m n m l=m:=if_pos rfl
   have e2:smN m n m l=n+l:=if_pos rfl
   have hb:(m == m)=true:=beq_self_eq_true m
   rw [e1,e2]
   simp only [go_sem,hn',hl',hb]
   exact fin_z
 · have hb:(m == k)=false:=beq_eq_false_iff_ne.2 h
   by_cases h2:l≤n
   · have e1:smB m n k l=m:=by unfold smB; rw [if_neg h,if_pos h2]
     have e2:smN m n k l=n-l:=by unfold smN; rw [if_neg h,if_pos h2]
     rw [e1,e2]
     simp only [go_sem,hn',hl',hb,cmp_ge' h2,h2]
     exact fin_z
   · have e1:smB m n k l=k:=by unfold smB; rw [if_neg h,if_neg h2]
     have e2:smN m n k l=l-n:=by unfold smN; rw [if_neg h,if_neg h2]
     have h3:n≤l:=by omega
     rw [e1,e2]
     simp only [go_sem,hn',hl',hb,cmp_lt' h2,h3]
     exact fin_z
def rSumS:List AV→Option (Prop × AV)
 | [.bool m,x,.bool k,y]=>(rawR x).bind fun n=>(rawR y).map fun l=>(n.1∧l.1∧blen n.2≤34359738368∧blen l.2≤34359738368,.tup [.bool (smB m n.2 k l.2),(.imm (digs 65536 (smN m n.2 k l.2)).length (List.map (fun d:Nat=>AV.int .u32 (d:Int)) (digs 65536 (smN m n.2 k l.2))))])
 | _=>none
theorem rSumS_eq (m x k y):rSumS [.bool m,x,.bool k,y]=(rawR x).bind fun n=>(rawR y).map fun l=>(n.1∧l.1∧blen n.2≤34359738368∧blen l.2≤34359738368,.tup [.bool (smB m n.2 k l.2),(.imm (digs 65536 (smN m n.2 k l.2)).length (List.map (fun d:Nat=>AV.int .u32 (d:Int)) (digs 65536 (smN m n.2 k l.2))))]):=rfl
theorem rSumS_ok (hP:PrgOk P) (args p r) (he:rSumS args=some (p,r)) (hp:p):CSpec P 118 args r:=by
 unfold rSumS at he
 split at he
 · simp only [Option.bind_eq_some_iff,Option.map_eq_some_iff,Prod.exists,Prod.mk.injEq] at he
   obtain ⟨q,a,h1,q',b,h2,rfl,rfl⟩:=he
   exact (rSum_spec hP _ a _ b hp.2.2.1 hp.2.2.2).cv (.cons rfl (rawR_cv h1 hp.1 (.cons rfl (rawR_cv h2 hp.2.1 .nil))))
 · simp at he
attribute [go_sem] rSumS_eq
theorem rNeg_spec (hP:PrgOk P) (q:Rat):CSpec P 119 [(.agg [.opq (.rfrac (q)),.pad,.pad])] (.agg [.opq (.rfrac (qneg q)),.pad,.pad]):=by
 have HE:=Fr0_ok hP
 rw [qneg_eq]
 refine CSpec.cv ?_ (.rfIn q .nil)
 refine CSpec.conv (r:=.agg (rG (-q))) ?_ (.rf _)
 unfold rG
 rw [(neg_nd q).1,(neg_nd q).2,Int.natAbs_neg]
 refine CSpec_go (E:=⟨T0,Fr0⟩) (fn119 hP) HE hP.mix ?_
 by_cases h:q.num<0
 · have e:decide (-q.num<0)=false:=decide_eq_false (by omega)
   rw [e]
   simp only [go_sem,h]
   exact fin_z
 · by_cases h2:q.num=0
   · have e:decide (-q.num<0)=false:=decide_eq_false (by omega)
     have h3:(0<q.num.natAbs)=False:=eq_false (by omega)
     rw [e]
     simp only [go_sem,h,digs1,h3]
     exact fin_z
   · have e:decide (-q.num<0)=true:=decide_eq_true (by omega)
     have h3:(0<q.num.natAbs)=True:=eq_true (by omega)
     rw [e]
     simp only [go_sem,h,digs1,h3]
     exact fin_z
noncomputable def rNegS:List AV→Option (Prop × AV):=onQ1 fun q=>(True,(.agg [.opq (.rfrac (qneg q)),.pad,.pad]))
theorem rNegS_ok (hP:PrgOk P) (args p r):rNegS args=some (p,r)→p→CSpec P 119 args r:=onQ1_ok (fun a _=>by exact rNeg_spec hP a) args p r
theorem rSign_spec (hP:PrgOk P) (q:Rat):CSpec P 41 [(.agg [.opq (.rfrac (q)),.pad,.pad])] (.int .i64 (cmpQ q 0)):=by
 have HE:=Fr0_ok hP
 refine CSpec.cv ?_ (.rfIn q .nil)
 rw [← sgn_cmp]
 unfold rG sgnZ
 refine CSpec_go (E:=⟨T0,Fr0⟩) (fn41 hP) HE hP.mix ?_
 by_cases h:q.num=0
 · have hb:decide (q.num.natAbs=0)=true:=decide_eq_true (by omega)
   rw [if_pos h]
   simp only [go_sem,digs0,hb]
   exact fin_z
 · have hb:decide (q.num.natAbs=0)=false:=decide_eq_false (by omega)
   rw [if_neg h]
   by_cases h2:q.num<0
   · rw [if_pos h2]
     simp only [go_sem,digs0,hb,h2]
     exact fin_z
   · rw [if_neg h2]
     simp only [go_sem,digs0,hb,h2]
     exact fin_z
noncomputable def rSignS:List AV→Option (Prop × AV):=onQ1 fun q=>(True,.int .i64 (cmpQ q 0))
theorem rSignS_ok (hP:PrgOk P) (args p r):rSignS args=some (p,r)→p→CSpec P 41 args r:=onQ1_ok (fun a _=>by exact rSign_spec hP a) args p r
theorem rWhole_spec (hP:PrgOk P) (m:Bool) (n:Nat) (hn:blen n≤34359738368):CSpec P 155 [.bool m,(.imm (digs 65536 (n)).length (List.map (fun d:Nat=>AV.int .u32 (d:Int)) (digs 65536 (n))))] (.str (itS (sg m n))):=by
 have HE:=Fr0_ok hP
 have hn':=Nat.le_trans hn (show _≤68719476736 by decide)
 have hl:=decL_len n
 have hs:(#[45]:Array UInt8).size+(decS n).size≤9223372036854775807:=by
  rw [decS_size]; have:(#[45]:Array UInt8).size=1:=rfl
  omega
 unfold itS
 rw [sg_abs]
 refine CSpec_go (E:=⟨T0,Fr0⟩) (fn155 hP) HE hP.mix ?_
 cases m
 · rw [if_neg (by rw [sg_f]; omega)]
   simp only [go_sem,hn']
   exact fin_z
 · by_cases h:0<n
   · rw [if_pos (by rw [sg_t]; omega)]
     simp only [go_sem,hn',digs1,h,hs]
     exact fin_z
   · rw [if_neg (by rw [sg_t]; omega)]
     simp only [go_sem,hn',digs1,h]
     exact fin_z
def rWholeS:List AV→Option (Prop × AV)
 | [.bool m,x]=>(rawR x).map fun n=>(n.1∧blen n.2≤34359738368,.str (itS (sg m n.2)))
 | _=>none
theorem rWholeS_eq (m x):rWholeS [.bool m,x]=(rawR x).map fun n=>(n.1∧blen n.2≤34359738368,.str (itS (sg m n.2))):=rfl
theorem rWholeS_ok (hP:PrgOk P) (args p r) (he:rWholeS args=some (p,r)) (hp:p):CSpec P 155 args r:=by
 unfold rWholeS at he
 split at he
 · simp only [Option.map_eq_some_iff,Prod.exists,Prod.mk.injEq] at he
   obtain ⟨q,a,h1,rfl,rfl⟩:=he
   exact (rWhole_spec hP _ a hp.2).cv (.cons rfl (rawR_cv h1 hp.1 .nil))
 · simp at he
attribute [go_sem] rNegS rSignS rWholeS_eq
noncomputable def Fr1:Nat→List AV→Option (Prop × AV):=addS (addS (addS (addS (addS Fr0 113 rLowS) 118 rSumS) 119 rNegS) 41 rSignS) 155 rWholeS
theorem Fr1_ok (hP:PrgOk P):EnvOk P ⟨T0,Fr1⟩:=((((((Fr0_ok hP).add (rLowS_ok hP)).add (rSumS_ok hP)).add (rNegS_ok hP)).add (rSignS_ok hP)).add (rWholeS_ok hP))
theorem Fr1_at (f a):Fr1 f a=(addS (addS (addS (addS (addS Fr0 113 rLowS) 118 rSumS) 119 rNegS) 41 rSignS) 155 rWholeS) f a:=rfl
attribute [go_sem] Fr1_at
theorem sgd_mul (z:Int) (d:Nat):sg (decide (z<0)) (z.natAbs*d)=z*d:=by
 have hz:=sg_of z
 by_cases h:z<0
 · rw [decide_eq_true h,sg_t] at *
   rw [Int.natCast_mul,← Int.neg_mul,hz]
 · rw [decide_eq_false h,sg_f] at *
   rw [Int.natCast_mul,hz]
theorem sg_xor (a b:Int):sg (decide (a<0) != decide (b<0)) (a.natAbs*b.natAbs)=a*b:=by
 have ha:=sg_of a
 have hb:=sg_of b
 by_cases h:a<0<;>by_cases h':b<0<;>simp only [h,h',decide_true,decide_false] at ha hb ⊢<;>simp only [sg_t,sg_f] at ha hb<;>rw [← ha,← hb]<;>simp [sg,Int.neg_mul,Int.mul_neg]
theorem sg_xor2 (a b:Int) (d:Nat) (hb:b ≠ 0):sg (decide (a<0) != decide (b<0)) (a.natAbs*d)=a*sgnZ b*d:=by
 have ha:=sg_of a
 by_cases h':b<0
 · have e:sgnZ b = -1:=by unfold sgnZ; rw [if_neg hb,if_pos h']
   rw [e,decide_eq_true h']
   by_cases h:a<0
   · rw [decide_eq_true h,sg_t] at *
     rw [show (true != true)=false from rfl,sg_f,Int.natCast_mul,← ha]; simp
   · rw [decide_eq_false h,sg_f] at *
     rw [show (false != true)=true from rfl,sg_t,Int.natCast_mul,ha]; grind
 · have e:sgnZ b=1:=by unfold sgnZ; rw [if_neg hb,if_neg h']
   rw [e,decide_eq_false h',Int.mul_one,← sgd_mul]
   cases decide (a<0)<;>rfl
theorem rAdd3_spec (hP:PrgOk P) (a b:Rat) (ha:fl a≤FB) (hb:fl b≤FB):CSpec P 88 [(.agg [.opq (.rfrac (a)),.pad,.pad]),(.agg [.opq (.rfrac (b)),.pad,.pad])] (.agg [.opq (.rfrac (qadd a b)),.pad,.pad]):=by
 have HE:=Fr1_ok hP
 refine CSpec.cv ?_ (.rfIn a (.rfIn b .nil))
 have a1:blen a.num.natAbs≤34359738368:=Nat.le_trans (fl_num ha) (by decide)
 have a2:blen a.den≤34359738368:=Nat.le_trans (fl_den ha) (by decide)
 have a3:blen a.num.natAbs≤68719476736:=Nat.le_trans (fl_num ha) (by decide)
 have a4:blen a.den≤68719476736:=Nat.le_trans (fl_den ha) (by decide)
 have a5:0<a.den:=a.den_pos
 have a6:blen a.num.natAbs≤FB:=fl_num ha
 have a7:blen a.den≤FB:=fl_den ha
 have b1:blen b.num.natAbs≤34359738368:=Nat.le_trans (fl_num hb) (by decide)
 have b2:blen b.den≤34359738368:=Nat.le_trans (fl_den hb) (by decide)
 have b3:blen b.num.natAbs≤68719476736:=Nat.le_trans (fl_num hb) (by decide)
 have b4:blen b.den≤68719476736:=Nat.le_trans (fl_den hb) (by decide)
 have b5:0<b.den:=b.den_pos
 have b6:blen b.num.natAbs≤FB:=fl_num hb
 have b7:blen b.den≤FB:=fl_den hb
 have key:a.num*b.den+b.num*a.den=sg (smB (decide (a.num<0)) (a.num.natAbs*b.den) (decide (b.num<0)) (b.num.natAbs*a.den)) (smN (decide (a.num<0)) (a.num.natAbs*b.den) (decide (b.num<0)) (b.num.natAbs*a.den)):=by
  rw [sm_sg,sgd_mul,sgd_mul]
 have m1':blen (a.num.natAbs*b.den)≤FB+FB:=blen_mul_le a6 b7
 have m2':blen (b.num.natAbs*a.den)≤FB+FB:=blen_mul_le b6 a7
 have m1:=Nat.le_trans m1' (show _≤34359738368 by decide)
 have m2:=Nat.le_trans m2' (show _≤34359738368 by decide)
 have m3:blen (a.den*b.den)≤34359738368:=Nat.le_trans (blen_mul_le a7 b7) (by decide)
 have m4:blen (smN (decide (a.num<0)) (a.num.natAbs*b.den) (decide (b.num<0)) (b.num.natAbs*a.den))≤34359738368:=Nat.le_trans (smN_blen m1' m2') (by decide)
 have m5:0<a.den*b.den:=Nat.mul_pos a5 b5
 rw [qadd_eq,add_mk,← qlow_eq,key]
 unfold rG
 refine CSpec_go (E:=⟨T0,Fr1⟩) (fn88 hP) HE hP.mix ?_
 simp only [go_sem,a3,a4,b3,b4,m1,m2,m3,m4,m5]
 exact fin_z
noncomputable def rAdd3S:List AV→Option (Prop × AV):=onQ2 fun a b=>(fl a≤FB∧fl b≤FB,(.agg [.opq (.rfrac (qadd a b)),.pad,.pad]))
theorem rAdd3S_ok (hP:PrgOk P) (args p r):rAdd3S args=some (p,r)→p→CSpec P 88 args r:=onQ2_ok (fun a b h=>by exact rAdd3_spec hP a b h.1 h.2) args p r
theorem rMul3_spec (hP:PrgOk P) (a b:Rat) (ha:fl a≤FB) (hb:fl b≤FB):CSpec P 87 [(.agg [.opq (.rfrac (a)),.pad,.pad]),(.agg [.opq (.rfrac (b)),.pad,.pad])] (.agg [.opq (.rfrac (qmul a b)),.pad,.pad]):=by
 have HE:=Fr1_ok hP
 refine CSpec.cv ?_ (.rfIn a (.rfIn b .nil))
 have a1:blen a.num.natAbs≤34359738368:=Nat.le_trans (fl_num ha) (by decide)
 have a2:blen a.den≤34359738368:=Nat.le_trans (fl_den ha) (by decide)
 have a3:blen a.num.natAbs≤68719476736:=Nat.le_trans (fl_num ha) (by decide)
 have a4:blen a.den≤68719476736:=Nat.le_trans (fl_den ha) (by decide)
 have a5:0<a.den:=a.den_pos
 have a6:blen a.num.natAbs≤FB:=fl_num ha
 have a7:blen a.den≤FB:=fl_den ha
 have b1:blen b.num.natAbs≤34359738368:=Nat.le_trans (fl_num hb) (by decide)
 have b2:blen b.den≤34359738368:=Nat.le_trans (fl_den hb) (by decide)
 have b3:blen b.num.natAbs≤68719476736:=Nat.le_trans (fl_num hb) (by decide)
 have b4:blen b.den≤68719476736:=Nat.le_trans (fl_den hb) (by decide)
 have b5:0<b.den:=b.den_pos
 have b6:blen b.num.natAbs≤FB:=fl_num hb
 have b7:blen b.den≤FB:=fl_den hb
 have m1:blen (a.num.natAbs*b.num.natAbs)≤34359738368:=Nat.le_trans (blen_mul_le a6 b6) (by decide)
 have m3:blen (a.den*b.den)≤34359738368:=Nat.le_trans (blen_mul_le a7 b7) (by decide)
 have m5:0<a.den*b.den:=Nat.mul_pos a5 b5
 rw [qmul_eq,mul_mk,← qlow_eq,← sg_xor]
 unfold rG
 refine CSpec_go (E:=⟨T0,Fr1⟩) (fn87 hP) HE hP.mix ?_
 simp only [go_sem,a3,a4,b3,b4,m1,m3,m5]
 exact fin_z
noncomputable def rMul3S:List AV→Option (Prop × AV):=onQ2 fun a b=>(fl a≤FB∧fl b≤FB,(.agg [.opq (.rfrac (qmul a b)),.pad,.pad]))
theorem rMul3S_ok (hP:PrgOk P) (args p r):rMul3S args=some (p,r)→p→CSpec P 87 args r:=onQ2_ok (fun a b h=>by exact rMul3_spec hP a b h.1 h.2) args p r
theorem rDiv3_spec (hP:PrgOk P) (a b:Rat) (ha:fl a≤FB) (hb:fl b≤FB) (h0:b ≠ 0):CSpec P 75 [(.agg [.opq (.rfrac (a)),.pad,.pad]),(.agg [.opq (.rfrac (b)),.pad,.pad])] (.agg [.opq (.rfrac (qdiv a b)),.pad,.pad]):=by
 have HE:=Fr1_ok hP
 refine CSpec.cv ?_ (.rfIn a (.rfIn b .nil))
 have a1:blen a.num.natAbs≤34359738368:=Nat.le_trans (fl_num ha) (by decide)
 have a2:blen a.den≤34359738368:=Nat.le_trans (fl_den ha) (by decide)
 have a3:blen a.num.natAbs≤68719476736:=Nat.le_trans (fl_num ha) (by decide)
 have a4:blen a.den≤68719476736:=Nat.le_trans (fl_den ha) (by decide)
 have a5:0<a.den:=a.den_pos
 have a6:blen a.num.natAbs≤FB:=fl_num ha
 have a7:blen a.den≤FB:=fl_den ha
 have b1:blen b.num.natAbs≤34359738368:=Nat.le_trans (fl_num hb) (by decide)
 have b2:blen b.den≤34359738368:=Nat.le_trans (fl_den hb) (by decide)
 have b3:blen b.num.natAbs≤68719476736:=Nat.le_trans (fl_num hb) (by decide)
 have b4:blen b.den≤68719476736:=Nat.le_trans (fl_den hb) (by decide)
 have b5:0<b.den:=b.den_pos
 have b6:blen b.num.natAbs≤FB:=fl_num hb
 have b7:blen b.den≤FB:=fl_den hb
 have hn:b.num ≠ 0:=fun e=>h0 (num_zero.1 e)
 have m1:blen (a.num.natAbs*b.den)≤34359738368:=Nat.le_trans (blen_mul_le a6 b7) (by decide)
 have m3:blen (a.den*b.num.natAbs)≤34359738368:=Nat.le_trans (blen_mul_le a7 b6) (by decide)
 have m5:0<a.den*b.num.natAbs:=Nat.mul_pos a5 (by omega)
 rw [qdiv_eq,div_mk hn,← qlow_eq,← sg_xor2 _ _ _ hn]
 unfold rG
 refine CSpec_go (E:=⟨T0,Fr1⟩) (fn75 hP) HE hP.mix ?_
 simp only [go_sem,a3,a4,b3,b4,m1,m3,m5]
 exact fin_z
noncomputable def rDiv3S:List AV→Option (Prop × AV):=onQ2 fun a b=>(fl a≤FB∧fl b≤FB∧b ≠ 0,(.agg [.opq (.rfrac (qdiv a b)),.pad,.pad]))
theorem rDiv3S_ok (hP:PrgOk P) (args p r):rDiv3S args=some (p,r)→p→CSpec P 75 args r:=onQ2_ok (fun a b h=>by exact rDiv3_spec hP a b h.1 h.2.1 h.2.2) args p r
theorem rText3_spec (hP:PrgOk P) (q:Rat) (h:fl q≤FB):CSpec P 137 [(.agg [.opq (.rfrac (q)),.pad,.pad])] (.str (qtS q)):=by
 have HE:=Fr1_ok hP
 refine CSpec.cv ?_ (.rfIn q .nil)
 have a1:blen q.num.natAbs≤34359738368:=Nat.le_trans (fl_num h) (by decide)
 have a2:blen q.den≤34359738368:=Nat.le_trans (fl_den h) (by decide)
 have a3:blen q.num.natAbs≤68719476736:=Nat.le_trans (fl_num h) (by decide)
 have a4:blen q.den≤68719476736:=Nat.le_trans (fl_den h) (by decide)
 have a5:0<q.den:=q.den_pos
 have a6:blen q.num.natAbs≤FB:=fl_num h
 have a7:blen q.den≤FB:=fl_den h
 have hf:FB=1073741824:=rfl
 have s1:(itS q.num).size+(#[47]:Array UInt8).size≤9223372036854775807:=by
  rw [size_bl]; have:=itS_len (fl_num h); have:(#[47]:Array UInt8).size=1:=rfl
  omega
 have s2:(itS q.num).size+(#[47]:Array UInt8).size+(decS q.den).size≤9223372036854775807:=by
  rw [size_bl,decS_size]
  have:=itS_len (fl_num h); have:=decL_len q.den; have:=fl_den h; have:(#[47]:Array UInt8).size=1:=rfl
  omega
 have sgo:=sg_of q.num
 unfold rG
 refine CSpec_go (E:=⟨T0,Fr1⟩) (fn137 hP) HE hP.mix ?_
 by_cases h1:q.den=1
 · have h1':=decide_eq_true h1
   rw [qtS_one h1]
   simp only [go_sem,a1,a2,a3,a4,h1',sgo]
   exact fin_z
 · have h1':=decide_eq_false h1
   rw [qtS_two h1]
   simp only [go_sem,a1,a2,a3,a4,h1',sgo,s1,s2]
   exact fin_z
noncomputable def rText3S:List AV→Option (Prop × AV):=onQ1 fun q=>(fl q≤FB,.str (qtS q))
theorem rText3S_ok (hP:PrgOk P) (args p r):rText3S args=some (p,r)→p→CSpec P 137 args r:=onQ1_ok (fun a h=>by exact rText3_spec hP a h) args p r
theorem rInt3_spec (hP:PrgOk P) (n:Int) (h1 : -9223372036854775808≤n) (h2:n≤9223372036854775807):CSpec P 117 [.int .i64 n] (.agg [.opq (.rfrac ((n:Rat))),.pad,.pad]):=by
 have HE:=Fr1_ok hP
 have b1:blen 1≤34359738368:=by decide
 have i1:(1:Int).toNat=1:=rfl
 have bn:blen n.natAbs≤34359738368:=Nat.le_trans ((blen_le_iff _ _).2 (show n.natAbs<2^64 by omega)) (by decide)
 have key:(n:Rat)=qlow (sg (decide (n<0)) n.natAbs) 1:=by rw [sg_of,qlow_eq,mk_int]
 rw [key]
 refine CSpec_go (E:=⟨T0,Fr1⟩) (fn117 hP) HE hP.mix ?_
 by_cases h:n<0
 · have w1:IntKind.u64.wrap (0-IntKind.u64.wrap n) = -n:=by rw [IntKind.wrap_u64,IntKind.wrap_u64]; omega
   have t1:(-n).toNat=n.natAbs:=by omega
   have p1:((0:Int)≤-n)=True:=eq_true (by omega)
   have p2:(-n<18446744073709551616)=True:=eq_true (by omega)
   simp only [go_sem,h,w1,t1,p1,p2,b1,i1,bn]
   exact fin_z
 · have w1:IntKind.u64.wrap n=n:=by rw [IntKind.wrap_u64]; omega
   have t1:n.toNat=n.natAbs:=by omega
   have p1:((0:Int)≤n)=True:=eq_true (by omega)
   have p2:(n<18446744073709551616)=True:=eq_true (by omega)
   simp only [go_sem,h,w1,t1,p1,p2,b1,i1,bn]
   exact fin_z
def rInt3S:List AV→Option (Prop × AV)
 | [.int .i64 n]=>some (-9223372036854775808≤n∧n≤9223372036854775807,(.agg [.opq (.rfrac ((n:Rat))),.pad,.pad]))
 | _=>none
theorem rInt3S_ok (hP:PrgOk P) (args p r) (h:rInt3S args=some (p,r)) (hp:p):CSpec P 117 args r:=by
 unfold rInt3S at h
 split at h
 · simp only [Option.some.injEq,Prod.mk.injEq] at h
   obtain ⟨rfl,rfl⟩:=h
   exact rInt3_spec hP _ hp.1 hp.2
 · simp at h
attribute [go_sem] rAdd3S rMul3S rDiv3S rText3S rInt3S
noncomputable def Fr2:Nat→List AV→Option (Prop × AV):=addS (addS (addS (addS (addS Fr1 88 rAdd3S) 87 rMul3S) 75 rDiv3S) 137 rText3S) 117 rInt3S
theorem Fr2_ok (hP:PrgOk P):EnvOk P ⟨T0,Fr2⟩:=((((((Fr1_ok hP).add (rAdd3S_ok hP)).add (rMul3S_ok hP)).add (rDiv3S_ok hP)).add (rText3S_ok hP)).add (rInt3S_ok hP))
theorem Fr2_at (f a):Fr2 f a=(addS (addS (addS (addS (addS Fr1 88 rAdd3S) 87 rMul3S) 75 rDiv3S) 137 rText3S) 117 rInt3S) f a:=rfl
attribute [go_sem] Fr2_at
theorem rSub3_spec (hP:PrgOk P) (a b:Rat) (ha:fl a≤FB) (hb:fl b≤FB):CSpec P 126 [(.agg [.opq (.rfrac (a)),.pad,.pad]),(.agg [.opq (.rfrac (b)),.pad,.pad])] (.agg [.opq (.rfrac (qsub a b)),.pad,.pad]):=by
 have HE:=Fr2_ok hP
 have hn:fl (qneg b)≤FB:=fl_qneg hb
 have key:qsub a b=qadd a (qneg b):=by rw [qsub_eq,qadd_eq,qneg_eq,Rat.sub_eq_add_neg]
 rw [key]
 refine CSpec_go (E:=⟨T0,Fr2⟩) (fn126 hP) HE hP.mix ?_
 simp only [go_sem,ha,hb,hn]
 exact fin_z
noncomputable def rSub3S:List AV→Option (Prop × AV):=onQ2 fun a b=>(fl a≤FB∧fl b≤FB,(.agg [.opq (.rfrac (qsub a b)),.pad,.pad]))
theorem rSub3S_ok (hP:PrgOk P) (args p r):rSub3S args=some (p,r)→p→CSpec P 126 args r:=onQ2_ok (fun a b h=>by exact rSub3_spec hP a b h.1 h.2) args p r
attribute [go_sem] rSub3S
noncomputable def Fr3:Nat→List AV→Option (Prop × AV):=addS Fr2 126 rSub3S
theorem Fr3_ok (hP:PrgOk P):EnvOk P ⟨T0,Fr3⟩:=((Fr2_ok hP).add (rSub3S_ok hP))
theorem Fr3_at (f a):Fr3 f a=(addS Fr2 126 rSub3S) f a:=rfl
attribute [go_sem] Fr3_at
noncomputable def Fr4:Nat→List AV→Option (Prop × AV):=Fr3
theorem Fr4_ok (hP:PrgOk P):EnvOk P ⟨T0,Fr4⟩:=(Fr3_ok hP)
attribute [go_sem] Fr4
theorem parts_neg {l tt:List Nat} (h:l=45::tt):szL l=hdL 47 tt∧denL l=(if 47 ∈ tt then tlL 47 tt else [49])∧(47 ∈ l ↔ 47 ∈ tt)∧mnL l=true:=by
 subst h
 have e1:hdL 47 (45::tt)=45::hdL 47 tt:=rfl
 have e2:tlL 47 (45::tt)=tlL 47 tt:=rfl
 have e3:47 ∈ (45::tt) ↔ 47 ∈ tt:=by simp
 refine ⟨?_,?_,e3,?_⟩
 · unfold szL; rw [e1]; rfl
 · unfold denL; rw [e2]; simp only [e3]
 · unfold mnL; rw [e1]; rfl
theorem parts_pos {l:List Nat} (h:l.getD 0 0 ≠ 45):szL l=hdL 47 l∧mnL l=false:=by
 have e:(hdL 47 l).getD 0 0 ≠ 45:=by
  cases l with
  | nil=>exact h
  | cons c t =>
    unfold hdL
    split
    · decide
    · exact h
 exact ⟨by unfold szL; rw [if_neg e],decide_eq_false e⟩
theorem hd_step {tt:List Nat} {k:Nat} (h:k<tt.length):(tt.getD k 0=47→k+(hdL 47 (tt.drop k)).length=k)∧(tt.getD k 0 ≠ 47→k+(hdL 47 (tt.drop k)).length=k+1+(hdL 47 (tt.drop (k+1))).length):=by
 have e:tt.drop k=tt.getD k 0::tt.drop (k+1):=by
  rw [List.drop_eq_getElem_cons h,List.getD_eq_getElem?_getD,List.getElem?_eq_getElem h]; rfl
 have hc:∀ (x:Nat) (t:List Nat),hdL 47 (x::t)=if x=47 then [] else x::hdL 47 t:=fun _ _=>rfl
 rw [e,hc]
 constructor
 · intro h1; rw [if_pos h1]; rfl
 · intro h1; rw [if_neg h1,List.length_cons]; omega
theorem den_dec {l:List Nat} (h:okD l):(valL l<2)=(l=[48]∨l=[49]):=by
 rw [eq_iff_iff]
 constructor
 · intro h1
   have h2:=decL_val h
   have h4:valL l=0∨valL l=1:=by omega
   rcases h4 with h3|h3
   · rw [h3] at h2; exact .inl (h2.symm.trans rfl)
   · rw [h3] at h2
     have:decL 1=[49]:=by
      have:=decL_val (l:=[49]) ⟨by decide,by decide,by decide⟩
      rw [← this]; rfl
     exact .inr (h2.symm.trans this)
 · rintro (h1|h1)<;>rw [h1]<;>decide
theorem rParse3_spec (hP:PrgOk P) (s:ByteArray) (hs:(bl s).length≤140737488355328):CSpec P 116 [.str s] (.tup [(.agg [.opq (.rfrac ((parF (bl s)).1)),.pad,.pad]),.int .i64 (parF (bl s)).2]):=by
 have HE:=Fr4_ok hP
 have hg:=get_bl s 0
 have b8:bl ⟨#[48]⟩=[48]:=rfl
 have b9:bl ⟨#[49]⟩=[49]:=rfl
 have e0:((0:Int):Rat)=0:=rfl
 refine CSpec_go (E:=⟨T0,Fr4⟩) (fn116 hP) HE hP.mix ?_
 by_cases hm:(bl s).getD 0 0=45
 · have hm':((bl s).getD 0 0 == 45)=true:=by rw [hm]; rfl
   obtain ⟨tt,htt⟩:∃ tt,bl s=45::tt:=by
    cases hb:bl s with
    | nil=>rw [hb] at hm; simp at hm
    | cons c t=>rw [hb] at hm; exact ⟨t,by simp at hm; rw [hm]⟩
   have hl0:(0<(bl s).length)=True:=eq_true (by rw [htt]; simp)
   have hl1:((1:Int)≤((bl s).length:Int))=True:=eq_true (by rw [htt,List.length_cons]; omega)
   have hl1':((1:Nat)≤(bl s).length)=True:=eq_true (by rw [htt,List.length_cons]; omega)
   have ht:bl (s.extract 1 (bl s).length)=tt:=by rw [bl_extract,htt]; exact List.take_of_length_le (by simp)
   have htl:(bl (s.extract 1 (bl s).length)).length=tt.length:=by rw [ht]
   obtain ⟨p1,p2,p3,p4⟩:=parts_neg htt
   have hk:tt.length≤(bl s).length:=by rw [htt,List.length_cons]; omega
   have i1:(1:Int).toNat=1:=rfl
   simp only [go_sem,size_bl,hg,hl0,hm',hl1,hl1',htl,i1]
   refine ⟨by decide,?_⟩
   have hzz:¬ (mnL (bl s)=true∧szL (bl s)=[48])→decide (szL (bl s)=[48])=false:=fun h=>decide_eq_false fun e=>h ⟨p4,e⟩
   have cA:bl ((s.extract 1 (bl s).length).extract 0 (hdL 47 tt).length)=szL (bl s):=by
    have e:=bl_extract (s.extract 1 (bl s).length) 0 (hdL 47 tt).length
    rw [ht,List.drop_zero,Nat.sub_zero,take_hd] at e
    exact e.trans p1.symm
   have tle:=tl_le 47 tt
   have hle:=hd_le 47 tt
   have nle:=sz_le (bl s)
   have dle:=den_le (bl s)
   have cB:47 ∈ tt→bl ((s.extract 1 (bl s).length).extract ((hdL 47 tt).length+1) tt.length)=denL (bl s):=fun h=>by
    have e:=bl_extract (s.extract 1 (bl s).length) ((hdL 47 tt).length+1) tt.length
    rw [ht,drop_hd] at e
    refine (e.trans (List.take_of_length_le ?_)).trans (by rw [p2,if_pos h])
    have h2:=congrArg List.length (drop_hd 47 tt)
    rw [List.length_drop] at h2; omega
   have cN:47 ∉ tt→[49]=denL (bl s):=fun h=>by rw [p2,if_neg h]
   have hlen:tt.length≤140737488355328:=by omega
   have wl0:=wi_pred' tt.length (by omega)
   refine trX_loop HE hP.mix [0] (fun k:Nat=>⟨upd (upd (upd (upd (upd (upd (upd (fun _=>.junk) 0 (.str s)) 2 (.ref 0 0)) 3 (.int .i64 0)) 4 (.bool true)) 5 (.str (s.extract 1 (bl s).length))) 6 (.int .i64 ((k+(hdL 47 (tt.drop k)).length:Nat):Int))) 7 (.int .i64 ((k:Int)-1)),upd (fun _=>.unused) 0 (.live [.bool false,.nils,.nils]),102⟩)
    (fun k=>k≤tt.length) (fun k=>k) tt.length 20 Has.z (Kept.of rfl (by
      have hnil:hdL 47 (tt.drop tt.length)=[]:=by rw [List.drop_length]; rfl
      rw [wl0,hnil,List.length_nil,Nat.add_zero]
      exact KT.z) KM.z) (Nat.le_refl _) 102 (by kernel_rfl) ?_
   intro k hk0
   have hk0:k≤tt.length:=hk0
   rcases k with _|k
   · have h00:((0:Int)≤((0:Nat):Int)-1)=False:=eq_false (by decide)
     have h01:((0:Int)≤0-1)=False:=eq_false (by decide)
     have h02:((0:Int)≤-1)=False:=eq_false (by decide)
     by_cases hst:47 ∈ tt
     · have hlt:((hdL 47 tt).length<tt.length)=True:=by rw [hd_lt]; exact eq_true hst
       have hnl:(hdL 47 tt).length<tt.length:=by rw [hlt]; trivial
       have cD:=cB hst
       have hst':47 ∈ bl s:=p3.2 hst
       have hw3:=wi_add1 (hdL 47 tt).length (by omega)
       have hle2:((hdL 47 tt).length+1≤tt.length)=True:=eq_true hnl
       have hle3:(((hdL 47 tt).length+1:Nat):Int)≤(tt.length:Int):=by omega
       have hle4:((hdL 47 tt).length:Int)≤(tt.length:Int):=by omega
       have b9':=b9
       have l1:(szL (bl s)).length≤281474976710656:=by omega
       have l2:(denL (bl s)).length≤281474976710656:=by omega
       by_cases h1:okD (szL (bl s))
       · have h1':=decide_eq_true h1
         by_cases h2:okD (denL (bl s))
         · have h2':=decide_eq_true h2
           by_cases h3:mnL (bl s)=true∧szL (bl s)=[48]
           · rw [parF_1 (.inr (.inr h3))]
             have h4':=decide_eq_true h3.2
             first
              | exact absurd (p4.symm.trans h3.1) (by decide)
              | (simp only [go_sem,h00,h01,h02,htl,size_bl,hlt,hle,hle2,hle3,hle4,hw3,cA,cD,l1,l2,e0,str_eq,b8,b9',h1',h2',h4']
                 exact fin_z)
           · have hn:¬ (¬ okD (szL (bl s))∨¬ okD (denL (bl s))∨(mnL (bl s)=true∧szL (bl s)=[48])):=by
              rintro (h|h|h)
              · exact h h1
              · exact h h2
              · exact h3 h
             have hz:=hzz h3
             by_cases h5:256<(szL (bl s)).length
             · rw [parF_2 hn (.inl h5)]
               simp only [go_sem,h00,h01,h02,htl,size_bl,hlt,hle,hle2,hle3,hle4,hw3,cA,cD,l1,l2,e0,str_eq,b8,b9',h1',h2',hz,h5]
               exact fin_z
             · by_cases h6:256<(denL (bl s)).length
               · rw [parF_2 hn (.inr h6)]
                 simp only [go_sem,h00,h01,h02,htl,size_bl,hlt,hle,hle2,hle3,hle4,hw3,cA,cD,l1,l2,e0,str_eq,b8,b9',h1',h2',hz,h5,h6]
                 exact fin_z
               · have hl:¬ (256<(szL (bl s)).length∨256<(denL (bl s)).length):=by omega
                 by_cases h7:47 ∈ bl s∧valL (denL (bl s))<2
                 · rw [parF_3 hn hl ⟨h7.1,.inl h7.2⟩]
                   first
                    | exact absurd h7.1 hst'
                    | (have h8:=h7.2
                       rw [den_dec h2] at h8
                       rcases h8 with h8|h8
                       · have k1:=decide_eq_true h8
                         simp only [go_sem,h00,h01,h02,htl,size_bl,hlt,hle,hle2,hle3,hle4,hw3,cA,cD,l1,l2,e0,str_eq,b8,b9',h1',h2',hz,h5,h6,k1]
                         exact fin_z
                       · have k1:decide (denL (bl s)=[48])=false:=decide_eq_false fun e=>absurd (e.symm.trans h8) (by decide)
                         have k2:=decide_eq_true h8
                         simp only [go_sem,h00,h01,h02,htl,size_bl,hlt,hle,hle2,hle3,hle4,hw3,cA,cD,l1,l2,e0,str_eq,b8,b9',h1',h2',hz,h5,h6,k1,k2]
                         exact fin_z)
                 · have k12:47 ∈ bl s→decide (denL (bl s)=[48])=false∧decide (denL (bl s)=[49])=false:=fun hh=>by
                    have:=mt (fun e:denL (bl s)=[48]∨denL (bl s)=[49]=>(by rw [den_dec h2]; exact e:valL (denL (bl s))<2)) (fun e=>h7 ⟨hh,e⟩)
                    exact ⟨decide_eq_false fun e=>this (.inl e),decide_eq_false fun e=>this (.inr e)⟩
                   have h2le:47 ∈ bl s→2≤valL (denL (bl s)):=fun hh=>by have:¬ valL (denL (bl s))<2:=fun e=>h7 ⟨hh,e⟩; omega
                   have hpos:0<valL (denL (bl s)):=den_pos' h2le
                   have dsz:(∀ c ∈ szL (bl s),48≤c∧c≤57)=True:=eq_true h1.2.2
                   have dden:(∀ c ∈ denL (bl s),48≤c∧c≤57)=True:=eq_true h2.2.2
                   have l3:(szL (bl s)).length≤8589934592:=by omega
                   have l4:(denL (bl s)).length≤8589934592:=by omega
                   have v1':=valL_blen h1 (by omega)
                   have v2':=valL_blen h2 (by omega)
                   have v1:=Nat.le_trans v1' (show _≤34359738368 by decide)
                   have v2:=Nat.le_trans v2' (show _≤34359738368 by decide)
                   have flq:fl (qlow (sg true (valL (szL (bl s)))) (valL (denL (bl s))))≤FB:=by
                    rw [qlow_eq]
                    exact fl_mk (by unfold wl; rw [sg_abs]; exact Nat.le_trans v1' (by decide)) (Nat.le_trans v2' (by decide)) hpos
                   by_cases h9:47 ∈ bl s∧Nat.gcd (valL (szL (bl s))) (valL (denL (bl s))) ≠ 1
                   · rw [parF_3 hn hl ⟨h9.1,.inr h9.2⟩]
                     first
                      | exact absurd h9.1 hst'
                      | (have tx:=text_no h9.1 (h2le h9.1) h9.2
                         rw [p4] at tx
                         have tx':=decide_eq_false tx
                         obtain ⟨k1,k2⟩:=k12 h9.1
                         simp only [go_sem,h00,h01,h02,htl,size_bl,hlt,hle,hle2,hle3,hle4,hw3,cA,cD,l1,l2,e0,str_eq,b8,b9',h1',h2',hz,h5,h6,k1,k2,dsz,dden,l3,l4,v1,v2,hpos,flq,tx']
                         exact fin_z)
                   · rw [parF_4 hn hl (by
                      rintro ⟨x1,x2⟩
                      rcases x2 with x2|x2
                      · exact h7 ⟨x1,x2⟩
                      · exact h9 ⟨x1,x2⟩)]
                     have tx:=text_of h1 (fun e=>hn (.inr (.inr e))) h2 h2le (fun x1=>Decidable.byContradiction fun x2=>h9 ⟨x1,x2⟩)
                     rw [p4] at tx ⊢
                     have tx':=decide_eq_true tx
                     first
                      | (have hst2:47 ∈ bl s:=hst'
                         obtain ⟨k1,k2⟩:=k12 hst2
                         simp only [go_sem,h00,h01,h02,htl,size_bl,hlt,hle,hle2,hle3,hle4,hw3,cA,cD,l1,l2,e0,str_eq,b8,b9',h1',h2',hz,h5,h6,k1,k2,dsz,dden,l3,l4,v1,v2,hpos,flq,tx']
                         exact fin_z)
                      | (simp only [go_sem,h00,h01,h02,htl,size_bl,hlt,hle,hle2,hle3,hle4,hw3,cA,cD,l1,l2,e0,str_eq,b8,b9',h1',h2',hz,h5,h6,dsz,dden,l3,l4,v1,v2,hpos,flq,tx']
                         exact fin_z)
         · have h2':=decide_eq_false h2
           rw [parF_1 (.inr (.inl h2))]
           simp only [go_sem,h00,h01,h02,htl,size_bl,hlt,hle,hle2,hle3,hle4,hw3,cA,cD,l1,l2,e0,str_eq,b8,b9',h1',h2']
           exact fin_z
       · have h1':=decide_eq_false h1
         rw [parF_1 (.inl h1)]
         simp only [go_sem,h00,h01,h02,htl,size_bl,hlt,hle,hle2,hle3,hle4,hw3,cA,cD,l1,l2,e0,str_eq,b8,b9',h1']
         exact fin_z
     · have hlt:((hdL 47 tt).length<tt.length)=False:=by rw [hd_lt]; exact eq_false hst
       have cD:bl ⟨#[49]⟩=denL (bl s):=(show bl ⟨#[49]⟩=[49] from rfl).trans (cN hst)
       have hst':47 ∉ bl s:=fun h=>hst (p3.1 h)
       have hw3:True:=trivial
       have hle2:True:=trivial
       have hle3:True:=trivial
       have hle4:((hdL 47 tt).length:Int)≤(tt.length:Int):=by omega
       have b9':True:=trivial
       have l1:(szL (bl s)).length≤281474976710656:=by omega
       have l2:(denL (bl s)).length≤281474976710656:=by omega
       by_cases h1:okD (szL (bl s))
       · have h1':=decide_eq_true h1
         by_cases h2:okD (denL (bl s))
         · have h2':=decide_eq_true h2
           by_cases h3:mnL (bl s)=true∧szL (bl s)=[48]
           · rw [parF_1 (.inr (.inr h3))]
             have h4':=decide_eq_true h3.2
             first
              | exact absurd (p4.symm.trans h3.1) (by decide)
              | (simp only [go_sem,h00,h01,h02,htl,size_bl,hlt,hle,hle2,hle3,hle4,hw3,cA,cD,l1,l2,e0,str_eq,b8,b9',h1',h2',h4']
                 exact fin_z)
           · have hn:¬ (¬ okD (szL (bl s))∨¬ okD (denL (bl s))∨(mnL (bl s)=true∧szL (bl s)=[48])):=by
              rintro (h|h|h)
              · exact h h1
              · exact h h2
              · exact h3 h
             have hz:=hzz h3
             by_cases h5:256<(szL (bl s)).length
             · rw [parF_2 hn (.inl h5)]
               simp only [go_sem,h00,h01,h02,htl,size_bl,hlt,hle,hle2,hle3,hle4,hw3,cA,cD,l1,l2,e0,str_eq,b8,b9',h1',h2',hz,h5]
               exact fin_z
             · by_cases h6:256<(denL (bl s)).length
               · rw [parF_2 hn (.inr h6)]
                 simp only [go_sem,h00,h01,h02,htl,size_bl,hlt,hle,hle2,hle3,hle4,hw3,cA,cD,l1,l2,e0,str_eq,b8,b9',h1',h2',hz,h5,h6]
                 exact fin_z
               · have hl:¬ (256<(szL (bl s)).length∨256<(denL (bl s)).length):=by omega
                 by_cases h7:47 ∈ bl s∧valL (denL (bl s))<2
                 · rw [parF_3 hn hl ⟨h7.1,.inl h7.2⟩]
                   first
                    | exact absurd h7.1 hst'
                    | (have h8:=h7.2
                       rw [den_dec h2] at h8
                       rcases h8 with h8|h8
                       · have k1:=decide_eq_true h8
                         simp only [go_sem,h00,h01,h02,htl,size_bl,hlt,hle,hle2,hle3,hle4,hw3,cA,cD,l1,l2,e0,str_eq,b8,b9',h1',h2',hz,h5,h6,k1]
                         exact fin_z
                       · have k1:decide (denL (bl s)=[48])=false:=decide_eq_false fun e=>absurd (e.symm.trans h8) (by decide)
                         have k2:=decide_eq_true h8
                         simp only [go_sem,h00,h01,h02,htl,size_bl,hlt,hle,hle2,hle3,hle4,hw3,cA,cD,l1,l2,e0,str_eq,b8,b9',h1',h2',hz,h5,h6,k1,k2]
                         exact fin_z)
                 · have k12:47 ∈ bl s→decide (denL (bl s)=[48])=false∧decide (denL (bl s)=[49])=false:=fun hh=>by
                    have:=mt (fun e:denL (bl s)=[48]∨denL (bl s)=[49]=>(by rw [den_dec h2]; exact e:valL (denL (bl s))<2)) (fun e=>h7 ⟨hh,e⟩)
                    exact ⟨decide_eq_false fun e=>this (.inl e),decide_eq_false fun e=>this (.inr e)⟩
                   have h2le:47 ∈ bl s→2≤valL (denL (bl s)):=fun hh=>by have:¬ valL (denL (bl s))<2:=fun e=>h7 ⟨hh,e⟩; omega
                   have hpos:0<valL (denL (bl s)):=den_pos' h2le
                   have dsz:(∀ c ∈ szL (bl s),48≤c∧c≤57)=True:=eq_true h1.2.2
                   have dden:(∀ c ∈ denL (bl s),48≤c∧c≤57)=True:=eq_true h2.2.2
                   have l3:(szL (bl s)).length≤8589934592:=by omega
                   have l4:(denL (bl s)).length≤8589934592:=by omega
                   have v1':=valL_blen h1 (by omega)
                   have v2':=valL_blen h2 (by omega)
                   have v1:=Nat.le_trans v1' (show _≤34359738368 by decide)
                   have v2:=Nat.le_trans v2' (show _≤34359738368 by decide)
                   have flq:fl (qlow (sg true (valL (szL (bl s)))) (valL (denL (bl s))))≤FB:=by
                    rw [qlow_eq]
                    exact fl_mk (by unfold wl; rw [sg_abs]; exact Nat.le_trans v1' (by decide)) (Nat.le_trans v2' (by decide)) hpos
                   by_cases h9:47 ∈ bl s∧Nat.gcd (valL (szL (bl s))) (valL (denL (bl s))) ≠ 1
                   · rw [parF_3 hn hl ⟨h9.1,.inr h9.2⟩]
                     first
                      | exact absurd h9.1 hst'
                      | (have tx:=text_no h9.1 (h2le h9.1) h9.2
                         rw [p4] at tx
                         have tx':=decide_eq_false tx
                         obtain ⟨k1,k2⟩:=k12 h9.1
                         simp only [go_sem,h00,h01,h02,htl,size_bl,hlt,hle,hle2,hle3,hle4,hw3,cA,cD,l1,l2,e0,str_eq,b8,b9',h1',h2',hz,h5,h6,k1,k2,dsz,dden,l3,l4,v1,v2,hpos,flq,tx']
                         exact fin_z)
                   · rw [parF_4 hn hl (by
                      rintro ⟨x1,x2⟩
                      rcases x2 with x2|x2
                      · exact h7 ⟨x1,x2⟩
                      · exact h9 ⟨x1,x2⟩)]
                     have tx:=text_of h1 (fun e=>hn (.inr (.inr e))) h2 h2le (fun x1=>Decidable.byContradiction fun x2=>h9 ⟨x1,x2⟩)
                     rw [p4] at tx ⊢
                     have tx':=decide_eq_true tx
                     first
                      | (have hst2:47 ∈ bl s:=hst'
                         obtain ⟨k1,k2⟩:=k12 hst2
                         simp only [go_sem,h00,h01,h02,htl,size_bl,hlt,hle,hle2,hle3,hle4,hw3,cA,cD,l1,l2,e0,str_eq,b8,b9',h1',h2',hz,h5,h6,k1,k2,dsz,dden,l3,l4,v1,v2,hpos,flq,tx']
                         exact fin_z)
                      | (simp only [go_sem,h00,h01,h02,htl,size_bl,hlt,hle,hle2,hle3,hle4,hw3,cA,cD,l1,l2,e0,str_eq,b8,b9',h1',h2',hz,h5,h6,dsz,dden,l3,l4,v1,v2,hpos,flq,tx']
                         exact fin_z)
         · have h2':=decide_eq_false h2
           rw [parF_1 (.inr (.inl h2))]
           simp only [go_sem,h00,h01,h02,htl,size_bl,hlt,hle,hle2,hle3,hle4,hw3,cA,cD,l1,l2,e0,str_eq,b8,b9',h1',h2']
           exact fin_z
       · have h1':=decide_eq_false h1
         rw [parF_1 (.inl h1)]
         simp only [go_sem,h00,h01,h02,htl,size_bl,hlt,hle,hle2,hle3,hle4,hw3,cA,cD,l1,l2,e0,str_eq,b8,b9',h1']
         exact fin_z
   · have hkl:k<tt.length:=by omega
     have hw1:=wi_pred' k (by omega)
     have hw2:=wi_pred k (by omega)
     have e1:(((k+1:Nat):Int)-1)=(k:Int):=by omega
     have hgk:=get_bl (s.extract 1 (bl s).length) k
     rw [ht] at hgk
     obtain ⟨st1,st2⟩:=hd_step hkl
     by_cases h47:tt.getD k 0=47
     · have h47':(tt.getD k 0 == 47)=true:=by rw [h47]; rfl
       simp only [go_sem,e1,size_bl,htl,hkl,hgk,h47',hw1]
       refine ⟨k,Kept.of rfl (by rw [st1 h47]; exact KT.z) KM.z,by show k≤_; omega,Nat.lt_succ_self _⟩
     · have h47':(tt.getD k 0 == 47)=false:=beq_eq_false_iff_ne.2 h47
       simp only [go_sem,e1,size_bl,htl,hkl,hgk,h47',hw1]
       refine ⟨k,Kept.of rfl (by rw [st2 h47]; exact KT.z) KM.z,by show k≤_; omega,Nat.lt_succ_self _⟩
 · obtain ⟨p1,p4⟩:=parts_pos hm
   have p2:denL (bl s)=if 47 ∈ bl s then tlL 47 (bl s) else [49]:=rfl
   have p3:47 ∈ bl s ↔ 47 ∈ bl s:=Iff.rfl
   obtain ⟨tt,htt⟩:∃ tt,bl s=tt:=⟨_,rfl⟩
   have hm':((bl s).getD 0 0 == 45)=false:=by simpa using hm
   have ht:bl s=tt:=htt
   have htl:(bl s).length=tt.length:=by rw [htt]
   by_cases hl0:0<tt.length
   · simp only [go_sem,size_bl,hg,hl0,hm',htl]
     have hk:tt.length≤(bl s).length:=by rw [htt]; exact Nat.le_refl _
     have q1:szL (bl s)=hdL 47 tt:=by rw [← htt]; exact p1
     have q2:denL (bl s)=if 47 ∈ tt then tlL 47 tt else [49]:=by rw [← htt]; exact p2
     have q3:47 ∈ bl s ↔ 47 ∈ tt:=by rw [htt]
     have hzz:¬ (mnL (bl s)=true∧szL (bl s)=[48])→True:=fun _=>trivial
     have p1:=q1
     have p2:=q2
     have p3:=q3
     have cA:bl (s.extract 0 (hdL 47 tt).length)=szL (bl s):=by
      have e:=bl_extract s 0 (hdL 47 tt).length
      rw [ht,List.drop_zero,Nat.sub_zero,take_hd] at e
      exact e.trans p1.symm
     have tle:=tl_le 47 tt
     have hle:=hd_le 47 tt
     have nle:=sz_le (bl s)
     have dle:=den_le (bl s)
     have cB:47 ∈ tt→bl (s.extract ((hdL 47 tt).length+1) tt.length)=denL (bl s):=fun h=>by
      have e:=bl_extract s ((hdL 47 tt).length+1) tt.length
      rw [ht,drop_hd] at e
      refine (e.trans (List.take_of_length_le ?_)).trans (by rw [p2,if_pos h])
      have h2:=congrArg List.length (drop_hd 47 tt)
      rw [List.length_drop] at h2; omega
     have cN:47 ∉ tt→[49]=denL (bl s):=fun h=>by rw [p2,if_neg h]
     have hlen:tt.length≤140737488355328:=by omega
     have wl0:=wi_pred' tt.length (by omega)
     refine trX_loop HE hP.mix [0] (fun k:Nat=>⟨upd (upd (upd (upd (upd (upd (upd (fun _=>.junk) 0 (.str s)) 2 (.ref 0 0)) 3 (.int .i64 0)) 4 (.bool false)) 5 (.str s)) 6 (.int .i64 ((k+(hdL 47 (tt.drop k)).length:Nat):Int))) 7 (.int .i64 ((k:Int)-1)),upd (fun _=>.unused) 0 (.live [.bool false,.nils,.nils]),102⟩)
      (fun k=>k≤tt.length) (fun k=>k) tt.length 20 Has.z (Kept.of rfl (by
        have hnil:hdL 47 (tt.drop tt.length)=[]:=by rw [List.drop_length]; rfl
        rw [wl0,hnil,List.length_nil,Nat.add_zero]
        exact KT.z) KM.z) (Nat.le_refl _) 102 (by kernel_rfl) ?_
     intro k hk0
     have hk0:k≤tt.length:=hk0
     rcases k with _|k
     · have h00:((0:Int)≤((0:Nat):Int)-1)=False:=eq_false (by decide)
       have h01:((0:Int)≤0-1)=False:=eq_false (by decide)
       have h02:((0:Int)≤-1)=False:=eq_false (by decide)
       by_cases hst:47 ∈ tt
       · have hlt:((hdL 47 tt).length<tt.length)=True:=by rw [hd_lt]; exact eq_true hst
         have hnl:(hdL 47 tt).length<tt.length:=by rw [hlt]; trivial
         have cD:=cB hst
         have hst':47 ∈ bl s:=p3.2 hst
         have hw3:=wi_add1 (hdL 47 tt).length (by omega)
         have hle2:((hdL 47 tt).length+1≤tt.length)=True:=eq_true hnl
         have hle3:(((hdL 47 tt).length+1:Nat):Int)≤(tt.length:Int):=by omega
         have hle4:((hdL 47 tt).length:Int)≤(tt.length:Int):=by omega
         have b9':=b9
         have l1:(szL (bl s)).length≤281474976710656:=by omega
         have l2:(denL (bl s)).length≤281474976710656:=by omega
         by_cases h1:okD (szL (bl s))
         · have h1':=decide_eq_true h1
           by_cases h2:okD (denL (bl s))
           · have h2':=decide_eq_true h2
             by_cases h3:mnL (bl s)=true∧szL (bl s)=[48]
             · rw [parF_1 (.inr (.inr h3))]
               have h4':=decide_eq_true h3.2
               first
                | exact absurd (p4.symm.trans h3.1) (by decide)
                | (simp only [go_sem,h00,h01,h02,htl,size_bl,hlt,hle,hle2,hle3,hle4,hw3,cA,cD,l1,l2,e0,str_eq,b8,b9',h1',h2',h4']
                   exact fin_z)
             · have hn:¬ (¬ okD (szL (bl s))∨¬ okD (denL (bl s))∨(mnL (bl s)=true∧szL (bl s)=[48])):=by
                rintro (h|h|h)
                · exact h h1
                · exact h h2
                · exact h3 h
               have hz:=hzz h3
               by_cases h5:256<(szL (bl s)).length
               · rw [parF_2 hn (.inl h5)]
                 simp only [go_sem,h00,h01,h02,htl,size_bl,hlt,hle,hle2,hle3,hle4,hw3,cA,cD,l1,l2,e0,str_eq,b8,b9',h1',h2',hz,h5]
                 exact fin_z
               · by_cases h6:256<(denL (bl s)).length
                 · rw [parF_2 hn (.inr h6)]
                   simp only [go_sem,h00,h01,h02,htl,size_bl,hlt,hle,hle2,hle3,hle4,hw3,cA,cD,l1,l2,e0,str_eq,b8,b9',h1',h2',hz,h5,h6]
                   exact fin_z
                 · have hl:¬ (256<(szL (bl s)).length∨256<(denL (bl s)).length):=by omega
                   by_cases h7:47 ∈ bl s∧valL (denL (bl s))<2
                   · rw [parF_3 hn hl ⟨h7.1,.inl h7.2⟩]
                     first
                      | exact absurd h7.1 hst'
                      | (have h8:=h7.2
                         rw [den_dec h2] at h8
                         rcases h8 with h8|h8
                         · have k1:=decide_eq_true h8
                           simp only [go_sem,h00,h01,h02,htl,size_bl,hlt,hle,hle2,hle3,hle4,hw3,cA,cD,l1,l2,e0,str_eq,b8,b9',h1',h2',hz,h5,h6,k1]
                           exact fin_z
                         · have k1:decide (denL (bl s)=[48])=false:=decide_eq_false fun e=>absurd (e.symm.trans h8) (by decide)
                           have k2:=decide_eq_true h8
                           simp only [go_sem,h00,h01,h02,htl,size_bl,hlt,hle,hle2,hle3,hle4,hw3,cA,cD,l1,l2,e0,str_eq,b8,b9',h1',h2',hz,h5,h6,k1,k2]
                           exact fin_z)
                   · have k12:47 ∈ bl s→decide (denL (bl s)=[48])=false∧decide (denL (bl s)=[49])=false:=fun hh=>by
                      have:=mt (fun e:denL (bl s)=[48]∨denL (bl s)=[49]=>(by rw [den_dec h2]; exact e:valL (denL (bl s))<2)) (fun e=>h7 ⟨hh,e⟩)
                      exact ⟨decide_eq_false fun e=>this (.inl e),decide_eq_false fun e=>this (.inr e)⟩
                     have h2le:47 ∈ bl s→2≤valL (denL (bl s)):=fun hh=>by have:¬ valL (denL (bl s))<2:=fun e=>h7 ⟨hh,e⟩; omega
                     have hpos:0<valL (denL (bl s)):=den_pos' h2le
                     have dsz:(∀ c ∈ szL (bl s),48≤c∧c≤57)=True:=eq_true h1.2.2
                     have dden:(∀ c ∈ denL (bl s),48≤c∧c≤57)=True:=eq_true h2.2.2
                     have l3:(szL (bl s)).length≤8589934592:=by omega
                     have l4:(denL (bl s)).length≤8589934592:=by omega
                     have v1':=valL_blen h1 (by omega)
                     have v2':=valL_blen h2 (by omega)
                     have v1:=Nat.le_trans v1' (show _≤34359738368 by decide)
                     have v2:=Nat.le_trans v2' (show _≤34359738368 by decide)
                     have flq:fl (qlow (sg false (valL (szL (bl s)))) (valL (denL (bl s))))≤FB:=by
                      rw [qlow_eq]
                      exact fl_mk (by unfold wl; rw [sg_abs]; exact Nat.le_trans v1' (by decide)) (Nat.le_trans v2' (by decide)) hpos
                     by_cases h9:47 ∈ bl s∧Nat.gcd (valL (szL (bl s))) (valL (denL (bl s))) ≠ 1
                     · rw [parF_3 hn hl ⟨h9.1,.inr h9.2⟩]
                       first
                        | exact absurd h9.1 hst'
                        | (have tx:=text_no h9.1 (h2le h9.1) h9.2
                           rw [p4] at tx
                           have tx':=decide_eq_false tx
                           obtain ⟨k1,k2⟩:=k12 h9.1
                           simp only [go_sem,h00,h01,h02,htl,size_bl,hlt,hle,hle2,hle3,hle4,hw3,cA,cD,l1,l2,e0,str_eq,b8,b9',h1',h2',hz,h5,h6,k1,k2,dsz,dden,l3,l4,v1,v2,hpos,flq,tx']
                           exact fin_z)
                     · rw [parF_4 hn hl (by
                        rintro ⟨x1,x2⟩
                        rcases x2 with x2|x2
                        · exact h7 ⟨x1,x2⟩
                        · exact h9 ⟨x1,x2⟩)]
                       have tx:=text_of h1 (fun e=>hn (.inr (.inr e))) h2 h2le (fun x1=>Decidable.byContradiction fun x2=>h9 ⟨x1,x2⟩)
                       rw [p4] at tx ⊢
                       have tx':=decide_eq_true tx
                       first
                        | (have hst2:47 ∈ bl s:=hst'
                           obtain ⟨k1,k2⟩:=k12 hst2
                           simp only [go_sem,h00,h01,h02,htl,size_bl,hlt,hle,hle2,hle3,hle4,hw3,cA,cD,l1,l2,e0,str_eq,b8,b9',h1',h2',hz,h5,h6,k1,k2,dsz,dden,l3,l4,v1,v2,hpos,flq,tx']
                           exact fin_z)
                        | (simp only [go_sem,h00,h01,h02,htl,size_bl,hlt,hle,hle2,hle3,hle4,hw3,cA,cD,l1,l2,e0,str_eq,b8,b9',h1',h2',hz,h5,h6,dsz,dden,l3,l4,v1,v2,hpos,flq,tx']
                           exact fin_z)
           · have h2':=decide_eq_false h2
             rw [parF_1 (.inr (.inl h2))]
             simp only [go_sem,h00,h01,h02,htl,size_bl,hlt,hle,hle2,hle3,hle4,hw3,cA,cD,l1,l2,e0,str_eq,b8,b9',h1',h2']
             exact fin_z
         · have h1':=decide_eq_false h1
           rw [parF_1 (.inl h1)]
           simp only [go_sem,h00,h01,h02,htl,size_bl,hlt,hle,hle2,hle3,hle4,hw3,cA,cD,l1,l2,e0,str_eq,b8,b9',h1']
           exact fin_z
       · have hlt:((hdL 47 tt).length<tt.length)=False:=by rw [hd_lt]; exact eq_false hst
         have cD:bl ⟨#[49]⟩=denL (bl s):=(show bl ⟨#[49]⟩=[49] from rfl).trans (cN hst)
         have hst':47 ∉ bl s:=fun h=>hst (p3.1 h)
         have hw3:True:=trivial
         have hle2:True:=trivial
         have hle3:True:=trivial
         have hle4:((hdL 47 tt).length:Int)≤(tt.length:Int):=by omega
         have b9':True:=trivial
         have l1:(szL (bl s)).length≤281474976710656:=by omega
         have l2:(denL (bl s)).length≤281474976710656:=by omega
         by_cases h1:okD (szL (bl s))
         · have h1':=decide_eq_true h1
           by_cases h2:okD (denL (bl s))
           · have h2':=decide_eq_true h2
             by_cases h3:mnL (bl s)=true∧szL (bl s)=[48]
             · rw [parF_1 (.inr (.inr h3))]
               have h4':=decide_eq_true h3.2
               first
                | exact absurd (p4.symm.trans h3.1) (by decide)
                | (simp only [go_sem,h00,h01,h02,htl,size_bl,hlt,hle,hle2,hle3,hle4,hw3,cA,cD,l1,l2,e0,str_eq,b8,b9',h1',h2',h4']
                   exact fin_z)
             · have hn:¬ (¬ okD (szL (bl s))∨¬ okD (denL (bl s))∨(mnL (bl s)=true∧szL (bl s)=[48])):=by
                rintro (h|h|h)
                · exact h h1
                · exact h h2
                · exact h3 h
               have hz:=hzz h3
               by_cases h5:256<(szL (bl s)).length
               · rw [parF_2 hn (.inl h5)]
                 simp only [go_sem,h00,h01,h02,htl,size_bl,hlt,hle,hle2,hle3,hle4,hw3,cA,cD,l1,l2,e0,str_eq,b8,b9',h1',h2',hz,h5]
                 exact fin_z
               · by_cases h6:256<(denL (bl s)).length
                 · rw [parF_2 hn (.inr h6)]
                   simp only [go_sem,h00,h01,h02,htl,size_bl,hlt,hle,hle2,hle3,hle4,hw3,cA,cD,l1,l2,e0,str_eq,b8,b9',h1',h2',hz,h5,h6]
                   exact fin_z
                 · have hl:¬ (256<(szL (bl s)).length∨256<(denL (bl s)).length):=by omega
                   by_cases h7:47 ∈ bl s∧valL (denL (bl s))<2
                   · rw [parF_3 hn hl ⟨h7.1,.inl h7.2⟩]
                     first
                      | exact absurd h7.1 hst'
                      | (have h8:=h7.2
                         rw [den_dec h2] at h8
                         rcases h8 with h8|h8
                         · have k1:=decide_eq_true h8
                           simp only [go_sem,h00,h01,h02,htl,size_bl,hlt,hle,hle2,hle3,hle4,hw3,cA,cD,l1,l2,e0,str_eq,b8,b9',h1',h2',hz,h5,h6,k1]
                           exact fin_z
                         · have k1:decide (denL (bl s)=[48])=false:=decide_eq_false fun e=>absurd (e.symm.trans h8) (by decide)
                           have k2:=decide_eq_true h8
                           simp only [go_sem,h00,h01,h02,htl,size_bl,hlt,hle,hle2,hle3,hle4,hw3,cA,cD,l1,l2,e0,str_eq,b8,b9',h1',h2',hz,h5,h6,k1,k2]
                           exact fin_z)
                   · have k12:47 ∈ bl s→decide (denL (bl s)=[48])=false∧decide (denL (bl s)=[49])=false:=fun hh=>by
                      have:=mt (fun e:denL (bl s)=[48]∨denL (bl s)=[49]=>(by rw [den_dec h2]; exact e:valL (denL (bl s))<2)) (fun e=>h7 ⟨hh,e⟩)
                      exact ⟨decide_eq_false fun e=>this (.inl e),decide_eq_false fun e=>this (.inr e)⟩
                     have h2le:47 ∈ bl s→2≤valL (denL (bl s)):=fun hh=>by have:¬ valL (denL (bl s))<2:=fun e=>h7 ⟨hh,e⟩; omega
                     have hpos:0<valL (denL (bl s)):=den_pos' h2le
                     have dsz:(∀ c ∈ szL (bl s),48≤c∧c≤57)=True:=eq_true h1.2.2
                     have dden:(∀ c ∈ denL (bl s),48≤c∧c≤57)=True:=eq_true h2.2.2
                     have l3:(szL (bl s)).length≤8589934592:=by omega
                     have l4:(denL (bl s)).length≤8589934592:=by omega
                     have v1':=valL_blen h1 (by omega)
                     have v2':=valL_blen h2 (by omega)
                     have v1:=Nat.le_trans v1' (show _≤34359738368 by decide)
                     have v2:=Nat.le_trans v2' (show _≤34359738368 by decide)
                     have flq:fl (qlow (sg false (valL (szL (bl s)))) (valL (denL (bl s))))≤FB:=by
                      rw [qlow_eq]
                      exact fl_mk (by unfold wl; rw [sg_abs]; exact Nat.le_trans v1' (by decide)) (Nat.le_trans v2' (by decide)) hpos
                     by_cases h9:47 ∈ bl s∧Nat.gcd (valL (szL (bl s))) (valL (denL (bl s))) ≠ 1
                     · rw [parF_3 hn hl ⟨h9.1,.inr h9.2⟩]
                       first
                        | exact absurd h9.1 hst'
                        | (have tx:=text_no h9.1 (h2le h9.1) h9.2
                           rw [p4] at tx
                           have tx':=decide_eq_false tx
                           obtain ⟨k1,k2⟩:=k12 h9.1
                           simp only [go_sem,h00,h01,h02,htl,size_bl,hlt,hle,hle2,hle3,hle4,hw3,cA,cD,l1,l2,e0,str_eq,b8,b9',h1',h2',hz,h5,h6,k1,k2,dsz,dden,l3,l4,v1,v2,hpos,flq,tx']
                           exact fin_z)
                     · rw [parF_4 hn hl (by
                        rintro ⟨x1,x2⟩
                        rcases x2 with x2|x2
                        · exact h7 ⟨x1,x2⟩
                        · exact h9 ⟨x1,x2⟩)]
                       have tx:=text_of h1 (fun e=>hn (.inr (.inr e))) h2 h2le (fun x1=>Decidable.byContradiction fun x2=>h9 ⟨x1,x2⟩)
                       rw [p4] at tx ⊢
                       have tx':=decide_eq_true tx
                       first
                        | (have hst2:47 ∈ bl s:=hst'
                           obtain ⟨k1,k2⟩:=k12 hst2
                           simp only [go_sem,h00,h01,h02,htl,size_bl,hlt,hle,hle2,hle3,hle4,hw3,cA,cD,l1,l2,e0,str_eq,b8,b9',h1',h2',hz,h5,h6,k1,k2,dsz,dden,l3,l4,v1,v2,hpos,flq,tx']
                           exact fin_z)
                        | (simp only [go_sem,h00,h01,h02,htl,size_bl,hlt,hle,hle2,hle3,hle4,hw3,cA,cD,l1,l2,e0,str_eq,b8,b9',h1',h2',hz,h5,h6,dsz,dden,l3,l4,v1,v2,hpos,flq,tx']
                           exact fin_z)
           · have h2':=decide_eq_false h2
             rw [parF_1 (.inr (.inl h2))]
             simp only [go_sem,h00,h01,h02,htl,size_bl,hlt,hle,hle2,hle3,hle4,hw3,cA,cD,l1,l2,e0,str_eq,b8,b9',h1',h2']
             exact fin_z
         · have h1':=decide_eq_false h1
           rw [parF_1 (.inl h1)]
           simp only [go_sem,h00,h01,h02,htl,size_bl,hlt,hle,hle2,hle3,hle4,hw3,cA,cD,l1,l2,e0,str_eq,b8,b9',h1']
           exact fin_z
     · have hkl:k<tt.length:=by omega
       have hw1:=wi_pred' k (by omega)
       have hw2:=wi_pred k (by omega)
       have e1:(((k+1:Nat):Int)-1)=(k:Int):=by omega
       have hgk:=get_bl s k
       rw [ht] at hgk
       obtain ⟨st1,st2⟩:=hd_step hkl
       by_cases h47:tt.getD k 0=47
       · have h47':(tt.getD k 0 == 47)=true:=by rw [h47]; rfl
         simp only [go_sem,e1,size_bl,htl,hkl,hgk,h47',hw1]
         refine ⟨k,Kept.of rfl (by rw [st1 h47]; exact KT.z) KM.z,by show k≤_; omega,Nat.lt_succ_self _⟩
       · have h47':(tt.getD k 0 == 47)=false:=beq_eq_false_iff_ne.2 h47
         simp only [go_sem,e1,size_bl,htl,hkl,hgk,h47',hw1]
         refine ⟨k,Kept.of rfl (by rw [st2 h47]; exact KT.z) KM.z,by show k≤_; omega,Nat.lt_succ_self _⟩
   · simp only [go_sem,size_bl,hg,hl0,hm',htl]
     have hk:tt.length≤(bl s).length:=by rw [htt]; exact Nat.le_refl _
     have q1:szL (bl s)=hdL 47 tt:=by rw [← htt]; exact p1
     have q2:denL (bl s)=if 47 ∈ tt then tlL 47 tt else [49]:=by rw [← htt]; exact p2
     have q3:47 ∈ bl s ↔ 47 ∈ tt:=by rw [htt]
     have hzz:¬ (mnL (bl s)=true∧szL (bl s)=[48])→True:=fun _=>trivial
     have p1:=q1
     have p2:=q2
     have p3:=q3
     have cA:bl (s.extract 0 (hdL 47 tt).length)=szL (bl s):=by
      have e:=bl_extract s 0 (hdL 47 tt).length
      rw [ht,List.drop_zero,Nat.sub_zero,take_hd] at e
      exact e.trans p1.symm
     have tle:=tl_le 47 tt
     have hle:=hd_le 47 tt
     have nle:=sz_le (bl s)
     have dle:=den_le (bl s)
     have cB:47 ∈ tt→bl (s.extract ((hdL 47 tt).length+1) tt.length)=denL (bl s):=fun h=>by
      have e:=bl_extract s ((hdL 47 tt).length+1) tt.length
      rw [ht,drop_hd] at e
      refine (e.trans (List.take_of_length_le ?_)).trans (by rw [p2,if_pos h])
      have h2:=congrArg List.length (drop_hd 47 tt)
      rw [List.length_drop] at h2; omega
     have cN:47 ∉ tt→[49]=denL (bl s):=fun h=>by rw [p2,if_neg h]
     have hlen:tt.length≤140737488355328:=by omega
     have wl0:=wi_pred' tt.length (by omega)
     refine trX_loop HE hP.mix [0] (fun k:Nat=>⟨upd (upd (upd (upd (upd (upd (upd (fun _=>.junk) 0 (.str s)) 2 (.ref 0 0)) 3 (.int .i64 0)) 4 (.bool false)) 5 (.str s)) 6 (.int .i64 ((k+(hdL 47 (tt.drop k)).length:Nat):Int))) 7 (.int .i64 ((k:Int)-1)),upd (fun _=>.unused) 0 (.live [.bool false,.nils,.nils]),102⟩)
      (fun k=>k≤tt.length) (fun k=>k) tt.length 20 Has.z (Kept.of rfl (by
        have hnil:hdL 47 (tt.drop tt.length)=[]:=by rw [List.drop_length]; rfl
        rw [wl0,hnil,List.length_nil,Nat.add_zero]
        exact KT.z) KM.z) (Nat.le_refl _) 102 (by kernel_rfl) ?_
     intro k hk0
     have hk0:k≤tt.length:=hk0
     rcases k with _|k
     · have h00:((0:Int)≤((0:Nat):Int)-1)=False:=eq_false (by decide)
       have h01:((0:Int)≤0-1)=False:=eq_false (by decide)
       have h02:((0:Int)≤-1)=False:=eq_false (by decide)
       by_cases hst:47 ∈ tt
       · have hlt:((hdL 47 tt).length<tt.length)=True:=by rw [hd_lt]; exact eq_true hst
         have hnl:(hdL 47 tt).length<tt.length:=by rw [hlt]; trivial
         have cD:=cB hst
         have hst':47 ∈ bl s:=p3.2 hst
         have hw3:=wi_add1 (hdL 47 tt).length (by omega)
         have hle2:((hdL 47 tt).length+1≤tt.length)=True:=eq_true hnl
         have hle3:(((hdL 47 tt).length+1:Nat):Int)≤(tt.length:Int):=by omega
         have hle4:((hdL 47 tt).length:Int)≤(tt.length:Int):=by omega
         have b9':=b9
         have l1:(szL (bl s)).length≤281474976710656:=by omega
         have l2:(denL (bl s)).length≤281474976710656:=by omega
         by_cases h1:okD (szL (bl s))
         · have h1':=decide_eq_true h1
           by_cases h2:okD (denL (bl s))
           · have h2':=decide_eq_true h2
             by_cases h3:mnL (bl s)=true∧szL (bl s)=[48]
             · rw [parF_1 (.inr (.inr h3))]
               have h4':=decide_eq_true h3.2
               first
                | exact absurd (p4.symm.trans h3.1) (by decide)
                | (simp only [go_sem,h00,h01,h02,htl,size_bl,hlt,hle,hle2,hle3,hle4,hw3,cA,cD,l1,l2,e0,str_eq,b8,b9',h1',h2',h4']
                   exact fin_z)
             · have hn:¬ (¬ okD (szL (bl s))∨¬ okD (denL (bl s))∨(mnL (bl s)=true∧szL (bl s)=[48])):=by
                rintro (h|h|h)
                · exact h h1
                · exact h h2
                · exact h3 h
               have hz:=hzz h3
               by_cases h5:256<(szL (bl s)).length
               · rw [parF_2 hn (.inl h5)]
                 simp only [go_sem,h00,h01,h02,htl,size_bl,hlt,hle,hle2,hle3,hle4,hw3,cA,cD,l1,l2,e0,str_eq,b8,b9',h1',h2',hz,h5]
                 exact fin_z
               · by_cases h6:256<(denL (bl s)).length
                 · rw [parF_2 hn (.inr h6)]
                   simp only [go_sem,h00,h01,h02,htl,size_bl,hlt,hle,hle2,hle3,hle4,hw3,cA,cD,l1,l2,e0,str_eq,b8,b9',h1',h2',hz,h5,h6]
                   exact fin_z
                 · have hl:¬ (256<(szL (bl s)).length∨256<(denL (bl s)).length):=by omega
                   by_cases h7:47 ∈ bl s∧valL (denL (bl s))<2
                   · rw [parF_3 hn hl ⟨h7.1,.inl h7.2⟩]
                     first
                      | exact absurd h7.1 hst'
                      | (have h8:=h7.2
                         rw [den_dec h2] at h8
                         rcases h8 with h8|h8
                         · have k1:=decide_eq_true h8
                           simp only [go_sem,h00,h01,h02,htl,size_bl,hlt,hle,hle2,hle3,hle4,hw3,cA,cD,l1,l2,e0,str_eq,b8,b9',h1',h2',hz,h5,h6,k1]
                           exact fin_z
                         · have k1:decide (denL (bl s)=[48])=false:=decide_eq_false fun e=>absurd (e.symm.trans h8) (by decide)
                           have k2:=decide_eq_true h8
                           simp only [go_sem,h00,h01,h02,htl,size_bl,hlt,hle,hle2,hle3,hle4,hw3,cA,cD,l1,l2,e0,str_eq,b8,b9',h1',h2',hz,h5,h6,k1,k2]
                           exact fin_z)
                   · have k12:47 ∈ bl s→decide (denL (bl s)=[48])=false∧decide (denL (bl s)=[49])=false:=fun hh=>by
                      have:=mt (fun e:denL (bl s)=[48]∨denL (bl s)=[49]=>(by rw [den_dec h2]; exact e:valL (denL (bl s))<2)) (fun e=>h7 ⟨hh,e⟩)
                      exact ⟨decide_eq_false fun e=>this (.inl e),decide_eq_false fun e=>this (.inr e)⟩
                     have h2le:47 ∈ bl s→2≤valL (denL (bl s)):=fun hh=>by have:¬ valL (denL (bl s))<2:=fun e=>h7 ⟨hh,e⟩; omega
                     have hpos:0<valL (denL (bl s)):=den_pos' h2le
                     have dsz:(∀ c ∈ szL (bl s),48≤c∧c≤57)=True:=eq_true h1.2.2
                     have dden:(∀ c ∈ denL (bl s),48≤c∧c≤57)=True:=eq_true h2.2.2
                     have l3:(szL (bl s)).length≤8589934592:=by omega
                     have l4:(denL (bl s)).length≤8589934592:=by omega
                     have v1':=valL_blen h1 (by omega)
                     have v2':=valL_blen h2 (by omega)
                     have v1:=Nat.le_trans v1' (show _≤34359738368 by decide)
                     have v2:=Nat.le_trans v2' (show _≤34359738368 by decide)
                     have flq:fl (qlow (sg false (valL (szL (bl s)))) (valL (denL (bl s))))≤FB:=by
                      rw [qlow_eq]
                      exact fl_mk (by unfold wl; rw [sg_abs]; exact Nat.le_trans v1' (by decide)) (Nat.le_trans v2' (by decide)) hpos
                     by_cases h9:47 ∈ bl s∧Nat.gcd (valL (szL (bl s))) (valL (denL (bl s))) ≠ 1
                     · rw [parF_3 hn hl ⟨h9.1,.inr h9.2⟩]
                       first
                        | exact absurd h9.1 hst'
                        | (have tx:=text_no h9.1 (h2le h9.1) h9.2
                           rw [p4] at tx
                           have tx':=decide_eq_false tx
                           obtain ⟨k1,k2⟩:=k12 h9.1
                           simp only [go_sem,h00,h01,h02,htl,size_bl,hlt,hle,hle2,hle3,hle4,hw3,cA,cD,l1,l2,e0,str_eq,b8,b9',h1',h2',hz,h5,h6,k1,k2,dsz,dden,l3,l4,v1,v2,hpos,flq,tx']
                           exact fin_z)
                     · rw [parF_4 hn hl (by
                        rintro ⟨x1,x2⟩
                        rcases x2 with x2|x2
                        · exact h7 ⟨x1,x2⟩
                        · exact h9 ⟨x1,x2⟩)]
                       have tx:=text_of h1 (fun e=>hn (.inr (.inr e))) h2 h2le (fun x1=>Decidable.byContradiction fun x2=>h9 ⟨x1,x2⟩)
                       rw [p4] at tx ⊢
                       have tx':=decide_eq_true tx
                       first
                        | (have hst2:47 ∈ bl s:=hst'
                           obtain ⟨k1,k2⟩:=k12 hst2
                           simp only [go_sem,h00,h01,h02,htl,size_bl,hlt,hle,hle2,hle3,hle4,hw3,cA,cD,l1,l2,e0,str_eq,b8,b9',h1',h2',hz,h5,h6,k1,k2,dsz,dden,l3,l4,v1,v2,hpos,flq,tx']
                           exact fin_z)
                        | (simp only [go_sem,h00,h01,h02,htl,size_bl,hlt,hle,hle2,hle3,hle4,hw3,cA,cD,l1,l2,e0,str_eq,b8,b9',h1',h2',hz,h5,h6,dsz,dden,l3,l4,v1,v2,hpos,flq,tx']
                           exact fin_z)
           · have h2':=decide_eq_false h2
             rw [parF_1 (.inr (.inl h2))]
             simp only [go_sem,h00,h01,h02,htl,size_bl,hlt,hle,hle2,hle3,hle4,hw3,cA,cD,l1,l2,e0,str_eq,b8,b9',h1',h2']
             exact fin_z
         · have h1':=decide_eq_false h1
           rw [parF_1 (.inl h1)]
           simp only [go_sem,h00,h01,h02,htl,size_bl,hlt,hle,hle2,hle3,hle4,hw3,cA,cD,l1,l2,e0,str_eq,b8,b9',h1']
           exact fin_z
       · have hlt:((hdL 47 tt).length<tt.length)=False:=by rw [hd_lt]; exact eq_false hst
         have cD:bl ⟨#[49]⟩=denL (bl s):=(show bl ⟨#[49]⟩=[49] from rfl).trans (cN hst)
         have hst':47 ∉ bl s:=fun h=>hst (p3.1 h)
         have hw3:True:=trivial
         have hle2:True:=trivial
         have hle3:True:=trivial
         have hle4:((hdL 47 tt).length:Int)≤(tt.length:Int):=by omega
         have b9':True:=trivial
         have l1:(szL (bl s)).length≤281474976710656:=by omega
         have l2:(denL (bl s)).length≤281474976710656:=by omega
         by_cases h1:okD (szL (bl s))
         · have h1':=decide_eq_true h1
           by_cases h2:okD (denL (bl s))
           · have h2':=decide_eq_true h2
             by_cases h3:mnL (bl s)=true∧szL (bl s)=[48]
             · rw [parF_1 (.inr (.inr h3))]
               have h4':=decide_eq_true h3.2
               first
                | exact absurd (p4.symm.trans h3.1) (by decide)
                | (simp only [go_sem,h00,h01,h02,htl,size_bl,hlt,hle,hle2,hle3,hle4,hw3,cA,cD,l1,l2,e0,str_eq,b8,b9',h1',h2',h4']
                   exact fin_z)
             · have hn:¬ (¬ okD (szL (bl s))∨¬ okD (denL (bl s))∨(mnL (bl s)=true∧szL (bl s)=[48])):=by
                rintro (h|h|h)
                · exact h h1
                · exact h h2
                · exact h3 h
               have hz:=hzz h3
               by_cases h5:256<(szL (bl s)).length
               · rw [parF_2 hn (.inl h5)]
                 simp only [go_sem,h00,h01,h02,htl,size_bl,hlt,hle,hle2,hle3,hle4,hw3,cA,cD,l1,l2,e0,str_eq,b8,b9',h1',h2',hz,h5]
                 exact fin_z
               · by_cases h6:256<(denL (bl s)).length
                 · rw [parF_2 hn (.inr h6)]
                   simp only [go_sem,h00,h01,h02,htl,size_bl,hlt,hle,hle2,hle3,hle4,hw3,cA,cD,l1,l2,e0,str_eq,b8,b9',h1',h2',hz,h5,h6]
                   exact fin_z
                 · have hl:¬ (256<(szL (bl s)).length∨256<(denL (bl s)).length):=by omega
                   by_cases h7:47 ∈ bl s∧valL (denL (bl s))<2
                   · rw [parF_3 hn hl ⟨h7.1,.inl h7.2⟩]
                     first
                      | exact absurd h7.1 hst'
                      | (have h8:=h7.2
                         rw [den_dec h2] at h8
                         rcases h8 with h8|h8
                         · have k1:=decide_eq_true h8
                           simp only [go_sem,h00,h01,h02,htl,size_bl,hlt,hle,hle2,hle3,hle4,hw3,cA,cD,l1,l2,e0,str_eq,b8,b9',h1',h2',hz,h5,h6,k1]
                           exact fin_z
                         · have k1:decide (denL (bl s)=[48])=false:=decide_eq_false fun e=>absurd (e.symm.trans h8) (by decide)
                           have k2:=decide_eq_true h8
                           simp only [go_sem,h00,h01,h02,htl,size_bl,hlt,hle,hle2,hle3,hle4,hw3,cA,cD,l1,l2,e0,str_eq,b8,b9',h1',h2',hz,h5,h6,k1,k2]
                           exact fin_z)
                   · have k12:47 ∈ bl s→decide (denL (bl s)=[48])=false∧decide (denL (bl s)=[49])=false:=fun hh=>by
                      have:=mt (fun e:denL (bl s)=[48]∨denL (bl s)=[49]=>(by rw [den_dec h2]; exact e:valL (denL (bl s))<2)) (fun e=>h7 ⟨hh,e⟩)
                      exact ⟨decide_eq_false fun e=>this (.inl e),decide_eq_false fun e=>this (.inr e)⟩
                     have h2le:47 ∈ bl s→2≤valL (denL (bl s)):=fun hh=>by have:¬ valL (denL (bl s))<2:=fun e=>h7 ⟨hh,e⟩; omega
                     have hpos:0<valL (denL (bl s)):=den_pos' h2le
                     have dsz:(∀ c ∈ szL (bl s),48≤c∧c≤57)=True:=eq_true h1.2.2
                     have dden:(∀ c ∈ denL (bl s),48≤c∧c≤57)=True:=eq_true h2.2.2
                     have l3:(szL (bl s)).length≤8589934592:=by omega
                     have l4:(denL (bl s)).length≤8589934592:=by omega
                     have v1':=valL_blen h1 (by omega)
                     have v2':=valL_blen h2 (by omega)
                     have v1:=Nat.le_trans v1' (show _≤34359738368 by decide)
                     have v2:=Nat.le_trans v2' (show _≤34359738368 by decide)
                     have flq:fl (qlow (sg false (valL (szL (bl s)))) (valL (denL (bl s))))≤FB:=by
                      rw [qlow_eq]
                      exact fl_mk (by unfold wl; rw [sg_abs]; exact Nat.le_trans v1' (by decide)) (Nat.le_trans v2' (by decide)) hpos
                     by_cases h9:47 ∈ bl s∧Nat.gcd (valL (szL (bl s))) (valL (denL (bl s))) ≠ 1
                     · rw [parF_3 hn hl ⟨h9.1,.inr h9.2⟩]
                       first
                        | exact absurd h9.1 hst'
                        | (have tx:=text_no h9.1 (h2le h9.1) h9.2
                           rw [p4] at tx
                           have tx':=decide_eq_false tx
                           obtain ⟨k1,k2⟩:=k12 h9.1
                           simp only [go_sem,h00,h01,h02,htl,size_bl,hlt,hle,hle2,hle3,hle4,hw3,cA,cD,l1,l2,e0,str_eq,b8,b9',h1',h2',hz,h5,h6,k1,k2,dsz,dden,l3,l4,v1,v2,hpos,flq,tx']
                           exact fin_z)
                     · rw [parF_4 hn hl (by
                        rintro ⟨x1,x2⟩
                        rcases x2 with x2|x2
                        · exact h7 ⟨x1,x2⟩
                        · exact h9 ⟨x1,x2⟩)]
                       have tx:=text_of h1 (fun e=>hn (.inr (.inr e))) h2 h2le (fun x1=>Decidable.byContradiction fun x2=>h9 ⟨x1,x2⟩)
                       rw [p4] at tx ⊢
                       have tx':=decide_eq_true tx
                       first
                        | (have hst2:47 ∈ bl s:=hst'
                           obtain ⟨k1,k2⟩:=k12 hst2
                           simp only [go_sem,h00,h01,h02,htl,size_bl,hlt,hle,hle2,hle3,hle4,hw3,cA,cD,l1,l2,e0,str_eq,b8,b9',h1',h2',hz,h5,h6,k1,k2,dsz,dden,l3,l4,v1,v2,hpos,flq,tx']
                           exact fin_z)
                        | (simp only [go_sem,h00,h01,h02,htl,size_bl,hlt,hle,hle2,hle3,hle4,hw3,cA,cD,l1,l2,e0,str_eq,b8,b9',h1',h2',hz,h5,h6,dsz,dden,l3,l4,v1,v2,hpos,flq,tx']
                           exact fin_z)
           · have h2':=decide_eq_false h2
             rw [parF_1 (.inr (.inl h2))]
             simp only [go_sem,h00,h01,h02,htl,size_bl,hlt,hle,hle2,hle3,hle4,hw3,cA,cD,l1,l2,e0,str_eq,b8,b9',h1',h2']
             exact fin_z
         · have h1':=decide_eq_false h1
           rw [parF_1 (.inl h1)]
           simp only [go_sem,h00,h01,h02,htl,size_bl,hlt,hle,hle2,hle3,hle4,hw3,cA,cD,l1,l2,e0,str_eq,b8,b9',h1']
           exact fin_z
     · have hkl:k<tt.length:=by omega
       have hw1:=wi_pred' k (by omega)
       have hw2:=wi_pred k (by omega)
       have e1:(((k+1:Nat):Int)-1)=(k:Int):=by omega
       have hgk:=get_bl s k
       rw [ht] at hgk
       obtain ⟨st1,st2⟩:=hd_step hkl
       by_cases h47:tt.getD k 0=47
       · have h47':(tt.getD k 0 == 47)=true:=by rw [h47]; rfl
         simp only [go_sem,e1,size_bl,htl,hkl,hgk,h47',hw1]
         refine ⟨k,Kept.of rfl (by rw [st1 h47]; exact KT.z) KM.z,by show k≤_; omega,Nat.lt_succ_self _⟩
       · have h47':(tt.getD k 0 == 47)=false:=beq_eq_false_iff_ne.2 h47
         simp only [go_sem,e1,size_bl,htl,hkl,hgk,h47',hw1]
         refine ⟨k,Kept.of rfl (by rw [st2 h47]; exact KT.z) KM.z,by show k≤_; omega,Nat.lt_succ_self _⟩
noncomputable def rParse3S:List AV→Option (Prop × AV)
 | [.str s]=>some ((bl s).length≤140737488355328,.tup [(.agg [.opq (.rfrac ((parF (bl s)).1)),.pad,.pad]),.int .i64 (parF (bl s)).2])
 | _=>none
theorem rParse3S_ok (hP:PrgOk P) (args p r) (h:rParse3S args=some (p,r)) (hp:p):CSpec P 116 args r:=by
 unfold rParse3S at h
 split at h
 · simp only [Option.some.injEq,Prod.mk.injEq] at h
   obtain ⟨rfl,rfl⟩:=h
   exact rParse3_spec hP _ hp
 · simp at h
attribute [go_sem] rParse3S
noncomputable def Jt0:Nat→List AV→Option (Prop × AV):=addS (addS (addS (addS (addS (addS (addS (addS (addS (addS (addS Lt5 156 rOneS) 119 rNegS) 41 rSignS) 155 rWholeS) 88 rAdd3S) 87 rMul3S) 75 rDiv3S) 137 rText3S) 117 rInt3S) 126 rSub3S) 116 rParse3S
theorem Jt0_all (hP:PrgOk P) (T) (hT:TyOk P T):EnvOk P ⟨T,Jt0⟩:=((((((((((((Lt5_all hP T hT).add (rOneS_ok hP)).add (rNegS_ok hP)).add (rSignS_ok hP)).add (rWholeS_ok hP)).add (rAdd3S_ok hP)).add (rMul3S_ok hP)).add (rDiv3S_ok hP)).add (rText3S_ok hP)).add (rInt3S_ok hP)).add (rSub3S_ok hP)).add (rParse3S_ok hP))
theorem Jt0_at (f a):Jt0 f a=(addS (addS (addS (addS (addS (addS (addS (addS (addS (addS (addS Lt5 156 rOneS) 119 rNegS) 41 rSignS) 155 rWholeS) 88 rAdd3S) 87 rMul3S) 75 rDiv3S) 137 rText3S) 117 rInt3S) 126 rSub3S) 116 rParse3S) f a:=rfl
attribute [go_sem] Jt0_at
end Go.Proofs.YtapddfjimhohcaaGreatDoor.AM
/- Loops,a round at a time. -/
namespace Go.Proofs.YtapddfjimhohcaaGreatDoor.AM
set_option linter.all false
set_option autoImplicit true
set_option relaxedAutoImplicit true
open Go Go.Proofs
set_option maxRecDepth 100000
section
variable {P:Program} {E:Env} {s s':St} {Q Q':Exit→Nat→St→Prop} {nx:Nat} {c:Code}
def LW (P:Program) (b0:Bool) (c:Code) (Q:Exit→Act→World→Prop) (a:Act) (w:World):Prop :=
 ∀ (b:Frame) (k:List Item) (cs:List Frame),
   ∃ e a' w',Q e a' w'∧Arrives P (lone (b.at a ((if b0 then .code (.loop c) else .inLoop c)::k)) cs w) b k cs e a' w'
theorem LW_step {b0:Bool} (b:Frame) (k:List Item) (cs:List Frame) (a:Act) (w:World):step P (lone (b.at a ((if b0 then .code (.loop c) else .inLoop c)::k)) cs w) = .next (lone (b.at a (.code c :: .inLoop c::k)) cs w):=by
 cases b0
 · exact step_inLoop
 · exact step_loop
theorem LW_true {Q:Exit→Act→World→Prop} {a w} (h:LW P true c Q a w):(Code.loop c).wp P Q a w:=fun b k cs=>h b k cs
theorem LW_mono {b0:Bool} {Q Q':Exit→Act→World→Prop} {a w} (h:LW P b0 c Q a w) (hq:∀ e a w,Q e a w→Q' e a w):LW P b0 c Q' a w :=
 fun b k cs=>let ⟨e,a',w',q,r⟩:=h b k cs; ⟨e,a',w',hq _ _ _ q,r⟩
theorem LW_pass {Q:Exit→Act→World→Prop} {e:Exit} {a1:Act} {w1:World} {m:Machine} {b:Frame} {k:List Item} {cs:List Frame} (hq:Q e a1 w1) (hne:e ≠ .normal) (harr:Arrives P m b (.inLoop c::k) cs e a1 w1):∃ e a' w',Q e a' w'∧Arrives P m b k cs e a' w' :=
 ⟨e,a1,w1,hq,.pass (x:=.inLoop c) rfl (fun _ _=>.inl hne) harr⟩
theorem LW_once {b0:Bool} {Q:Exit→Act→World→Prop} {a w} (h:c.wp P (Exit.then (LW P false c Q) Q) a w):LW P b0 c Q a w:=fun b k cs=>by
 obtain ⟨e,a1,w1,hq,harr⟩:=h b (.inLoop c::k) cs
 have go:∃ e a' w',Q e a' w'∧Arrives P (lone (b.at a (.code c :: .inLoop c::k)) cs w) b k cs e a' w':=by
  cases e with
  | normal =>
    obtain ⟨e2,a2,w2,hq2,harr2⟩:=hq b k cs
    exact ⟨e2,a2,w2,hq2,.of_steps harr harr2⟩
  | _=>exact LW_pass hq (by simp) harr
 obtain ⟨e,a',w',hq,harr⟩:=go
 exact ⟨e,a',w',hq,.of_steps (.one (LW_step b k cs a w)) harr⟩
def TriW (P:Program) (b0:Bool) (c:Code) (Q:Exit→Nat→St→Prop) (s:St):Prop :=
 ∀ X φ a w,Rel X φ s a w→LW P b0 c (fun e a' w'=>∃ nx s' φ',Q e nx s'∧Rel X φ' s' a' w'∧Stp X φ s.m w φ' s'.m w') a w
theorem TriW_true (h:TriW P true c Q s):Tri P (.loop c) Q s:=fun X φ a w R=>LW_true (h X φ a w R)
def onceQ (P:Program) (c:Code) (Q:Exit→Nat→St→Prop):Exit→Nat→St→Prop
 | .normal,_,s=>TriW P false c Q s
 | e,nx,s=>Q e nx s
theorem TriW_once {b0:Bool} (h:Tri P c (onceQ P c Q) s):TriW P b0 c Q s:=fun X φ a w R=>by
 refine LW_once (wp_mono (h X φ a w R) ?_)
 rintro e a1 w1 ⟨nx,s1,φ1,q,r1,st1⟩
 cases e with
 | normal =>
   refine LW_mono (q X φ1 a1 w1 r1) ?_
   rintro e a2 w2 ⟨nx,s2,φ2,q2,r2,st2⟩
   exact ⟨nx,s2,φ2,q2,r2,st1.trans st2⟩
 | _=>exact ⟨nx,s1,φ1,q,r1,st1⟩
def goX (P:Program) (c:Code) (s:St) [Q:Bx (Exit→Nat→St→Prop)]:Prop:=TriW P false c Q.v s
theorem q_once_normal:qX .normal nx s (Q:=⟨onceQ P c Q⟩)=goX P c s (Q:=⟨Q⟩):=rfl
theorem q_once_exit (i):qX (.exit i) nx s (Q:=⟨onceQ P c Q⟩)=qX (.exit i) nx s (Q:=⟨Q⟩):=rfl
theorem q_once_ret:qX .ret nx s (Q:=⟨onceQ P c Q⟩)=qX .ret nx s (Q:=⟨Q⟩):=rfl
theorem trX_once (HE:EnvOk P E) (hmix:P.follows .mixedOrders=true) (N:Nat) (nx0:Nat) (hN:regsOk N c=true) (h:vcX (Tri P) (ICall P) E N c nx0 s (Q:=⟨onceQ P c Q⟩)):trX (Tri P) (.loop c) s (Q:=⟨Q⟩) :=
 TriW_true (TriW_once (vc_sound HE hmix N c _ nx0 _ hN h))
theorem goX_once (HE:EnvOk P E) (hmix:P.follows .mixedOrders=true) (N:Nat) (nx0:Nat) (hN:regsOk N c=true) (h:vcX (Tri P) (ICall P) E N c nx0 s (Q:=⟨onceQ P c Q⟩)):goX P c s (Q:=⟨Q⟩) :=
 TriW_once (vc_sound HE hmix N c _ nx0 _ hN h)
end
attribute [go_sem] q_once_normal q_once_exit q_once_ret
end Go.Proofs.YtapddfjimhohcaaGreatDoor.AM
