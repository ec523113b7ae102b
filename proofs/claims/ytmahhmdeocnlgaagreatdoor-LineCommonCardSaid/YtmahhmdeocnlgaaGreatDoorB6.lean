/- Package nat: the text of a number. -/
import Derived.Test.YtmahhmdeocnlgaaGreatDoorB5
namespace Go.Proofs.YtmahhmdeocnlgaaGreatDoor.AM
set_option linter.all false
set_option autoImplicit true
set_option relaxedAutoImplicit true
open Go Go.Proofs
set_option maxRecDepth 100000
set_option maxHeartbeats 8000000
set_option linter.unusedSimpArgs false
variable {P:Program}
theorem strM_sl2 (T:Nat→Option TyD) (m:Nat→AObj) (e b b' z z' sz sz' r off n k):strM T m ⟨.slice e,sz,b,z⟩ ⟨.string,sz',b',z'⟩ (.sl r off n k)=if isU8 (T e)=true then (objCells (m r)).map fun cs=>(Cut cs off n∧k=1∧((cs.drop off).take n).all isB=true,.str (bytesS ((cs.drop off).take n))) else none:=rfl
attribute [go_sem] strM_sl2
abbrev OD:=Option (Bool × Bool)
def oNum:Bool × Bool→Nat
 | (false,false)=>110
 | (false,true)=>120
 | (true,false)=>130
 | (true,true)=>140
def oV:OD→Nat→AV
 | none,_=>.nils
 | some p,n=>.sl (oNum p) 0 n 1
def oM (k:IntKind) (m:Nat→AObj):OD→List Nat→(Nat→AObj)
 | none,_=>m
 | some p,l=>upd m (oNum p) (.live (l.map fun d:Nat=>AV.int k (d:Int)))
def oL (L:List Nat):OD→List Nat
 | none=>L
 | some p=>oNum p::L
def iP:OD→Bool→Bool × Bool
 | none,b=>(false,b)
 | some (false,_),b=>(true,b)
 | some (true,_),b=>(false,b)
def gM (m:Nat→AObj):OD→(Nat→AObj)
 | none=>m
 | some p=>upd m (oNum p) .gone
def iV (D:OD):Option Bool→Nat→AV
 | none,n=>oV D n
 | some b,n=>.sl (oNum (iP D b)) 0 n 1
def iM (k:IntKind) (m:Nat→AObj) (D:OD):Option Bool→List Nat→List Nat→(Nat→AObj)
 | none,l0,_=>oM k m D l0
 | some b,_,l=>upd (gM m D) (oNum (iP D b)) (.live (l.map fun d:Nat=>AV.int k (d:Int)))
def iL (L:List Nat) (D:OD):Option Bool→List Nat
 | none=>oL L D
 | some b=>oNum (iP D b)::oL L D
def iX (D:OD) (c:Nat):Option Bool→Nat
 | some false=>oNum (iP D true)-c
 | _=>oNum (iP D false)-c
theorem oL_has {L:List Nat} {m:Nat→AObj} (h:Has L m) (D:OD) (q:Nat) (hq:m q ≠ .unused):(oL L D).contains q=true:=by
 have:=h q hq
 rcases D with _|p<;>simp only [oL,List.contains_cons,this,Bool.or_true]
theorem iL_has {L:List Nat} {m:Nat→AObj} {k l} (h:Has L m) (D:OD) (I:Option Bool) (q:Nat) (hq:oM k m D l q ≠ .unused):(iL L D I).contains q=true:=by
 have h1:(oL L D).contains q=true:=by
  rcases D with _|p
  · exact h q hq
  · simp only [oM,AM.upd] at hq
    by_cases e:q=oNum p
    · simp [oL,e]
    · rw [if_neg e] at hq
      simp only [oL,List.contains_cons,h q hq,Bool.or_true]
 rcases I with _|b<;>simp only [iL,List.contains_cons,h1,Bool.or_true]
def dec10 (a:Nat):List Nat:=(digs 10 a).map (48+·)
def decL (a:Nat):List Nat:=if a=0 then [48] else (dec10 a).reverse
def decS (a:Nat):ByteArray:=bytesS ((decL a).map fun d:Nat=>AV.int .u8 (d:Int))
structure TS where
 n:Nat
 w:List Nat
 tl:List Nat
 D:OD
 k:Nat
 o:List Nat
structure T3 where
 j:Option Bool
 i:Nat
 r:Nat
 k:Nat
 o:List Nat
def dv (o:List Nat):Nat:=dOf 10 (o.map (·-48))
def byt (o:List Nat):Prop:=∀ c ∈ o,48≤c∧c<58
theorem dv_snoc (o:List Nat) (d:Nat):dv (o++[48+d])=dv o+10^o.length*d:=by
 unfold dv; rw [List.map_append,dOf_append]
 simp [dOf]
theorem byt_snoc {o:List Nat} (h:byt o) (r:Nat):byt (o++[48+r % 10]):=fun c hc=>by
 rcases List.mem_append.1 hc with hc|hc
 · exact h c hc
 · rw [List.mem_singleton.1 hc]; omega
theorem snoc_canon (o:List Nat) (d:Nat) (h:d ≠ 0):Canon ((o++[48+d]).map (·-48)):=fun _=>by
 simp; exact h
theorem u8_dig (r:Nat):IntKind.u8.wrap (IntKind.u64.wrap (48+((r % 10:Nat):Int)))=((48+r % 10:Nat):Int):=by
 rw [IntKind.wrap_u64,IntKind.wrap_u8]; omega
theorem map_snoc {l:List Nat} {k:IntKind} {c:Nat}:(l.map fun d:Nat=>AV.int k (d:Int))++[.int k (c:Int)]=(l++[c]).map fun d:Nat=>AV.int k (d:Int):=by simp
theorem dig_step {A p r W q:Nat} (h:A=p+q*(r+10*W)):A=(p+q*(r % 10))+q*10*(r / 10+W):=by
 rw [h,Nat.add_assoc,Nat.mul_assoc,← Nat.mul_add]; congr 2; omega
theorem canon_take {w:List Nat} {n:Nat} (h:n+1≤w.length) (hz:w.getD n 0 ≠ 0):Canon (w.take (n+1)):=fun hne=>by
 have e:=take_snoc (l:=w) (k:=n) (by omega)
 simp only [e,List.getLast_append,List.getLast_singleton]
 simpa using hz
theorem dOf_trim {w:List Nat} {n:Nat} (h:∀ i,n≤i→w.getD i 0=0):dOf 18446744073709551616 (w.take n)=dOf 18446744073709551616 w:=by
 conv=>rhs; rw [← List.take_append_drop n w]
 rw [dOf_append,dOf_zero (l:=w.drop n),Nat.mul_zero,Nat.add_zero]
 intro d hd
 obtain ⟨i,hi,rfl⟩:=List.getElem_of_mem hd
 have:=h (n+i) (by omega)
 rw [List.length_drop] at hi
 rw [List.getElem_drop,← getD_get (by omega),this]
theorem canon_pos {w:List Nat} (hc:Canon w) (hne:w ≠ []):0<dOf 18446744073709551616 w:=by
 have h1:0<w.length:=List.length_pos_iff.2 hne
 have h2:=canon_last hc h1
 rw [dOf_last 18446744073709551616 w h1]
 have:0<18446744073709551616^(w.length-1)*w.getD (w.length-1) 0:=Nat.mul_pos (Nat.pow_pos (by decide)) (by omega)
 omega
theorem text_end {a:Nat} {o:List Nat} (ho:byt o) (h:a=dv o) (hc:Canon (o.map (·-48))) (ha:0<a):decL a=o.reverse:=by
 unfold decL dec10
 rw [if_neg (by omega),h]
 unfold dv
 rw [digs_dOf 10 (by decide) _ (fun d hd=>?_) hc,List.map_map]
 · congr 1
   conv=>rhs; rw [← List.map_id o]
   refine List.map_congr_left fun c hc=>?_
   have:=ho c hc
   simp only [Function.comp,id]; omega
 · obtain ⟨c,hc,rfl⟩:=List.mem_map.1 hd
   have:=ho c hc
   omega
theorem getD_left {l r:List Nat} {q:Nat} (h:q<l.length):(l++r).getD q 0=l.getD q 0:=by
 simp only [List.getD_eq_getElem?_getD]; rw [List.getElem?_append_left h]
theorem dOf_pos {l:List Nat} {q:Nat} (h:q<l.length) (hz:l.getD q 0 ≠ 0):0<dOf 18446744073709551616 l:=by
 rw [dOf_split 18446744073709551616 l q h]
 have:0<18446744073709551616^q*(l.getD q 0+18446744073709551616*dOf 18446744073709551616 (l.drop (q+1))):=Nat.mul_pos (Nat.pow_pos (by decide)) (by omega)
 omega
theorem Text_spec (hP:PrgOk P) (a:Nat) (ha:blen a≤68719476736):CSpec P 116 [(.agg [.opq (.nat (a)),.pad])] (.str (decS a)):=by
 have HE:=Sf_ok hP
 rcases Nat.eq_zero_or_pos a with rfl|h0
 · have e:digs 18446744073709551616 0=[]:=digs_zero _
   have e2:([]:List Nat).isEmpty=true:=rfl
   refine CSpec_go (E:=⟨T0,Sf⟩) (fn116 hP) HE hP.mix ?_
   simp only [go_sem,e,e2]
   exact .refl _
 · have hxd:∀ d ∈ digs 18446744073709551616 a,d<18446744073709551616:=digs_lt 18446744073709551616 a (by decide)
   have hx:=dOf_digs 18446744073709551616 a (by decide)
   have hlx:=digs_len_blen a
   have hcan:=digs_canon 18446744073709551616 a (by decide)
   have hne:digs 18446744073709551616 a ≠ []:=by intro e; rw [e] at hx; simp [dOf] at hx; omega
   refine CSpec_go (E:=⟨T0,Sf⟩) (fn116 hP) HE hP.mix ?_
   simp only [go_sem]
   generalize digs 18446744073709551616 a=x at *
   have hie:x.isEmpty=false:=by cases x<;>simp_all
   have hxl:(x.length == 0)=false:=by
    have:=List.length_pos_iff.2 hne
    simp; omega
   have hxp:0<x.length:=List.length_pos_iff.2 hne
   simp only [go_sem,hie,hxl]
   refine ⟨⟨fun _=>hxp,by omega⟩,?_⟩
   refine trX_loopV HE hP.mix (fun q:TS=>oL [4,0] q.D) (fun q=>⟨upd (upd (upd (fun _=>.junk) 2 (.str ⟨#[]⟩)) 3 (.sl 4 0 q.n 1)) 4 (oV q.D q.k),oM .u8 (upd (upd (fun _=>.unused) 0 (.live [.opq (.nat a),.pad])) 4 (.live (List.map (fun d:Nat=>AV.int .u64 (d:Int)) (q.w++q.tl)))) q.D q.o,85⟩)
    (fun q=>q.w.length=q.n∧q.o.length=q.k∧(∀ d ∈ q.w,d<18446744073709551616)∧Canon q.w∧q.n+q.tl.length=x.length∧byt q.o∧a=dv q.o+10^q.k*dOf 18446744073709551616 q.w∧(q.w=[]→Canon (q.o.map (·-48)))∧(q.D=none→q.o=[]∧q.k=0)) (fun q=>dOf 18446744073709551616 q.w) ⟨x.length,x,[],none,0,[]⟩ (fun _=>20)
    (fun x r hr=>oL_has Has.z x.D r hr) (Kept.of rfl KT.z (by have e:x++[]=x:=List.append_nil x; simp only [oM]; rw [e]; exact KM.z)) ⟨rfl,rfl,hxd,hcan,by simp,by simp [byt],by simp [dv,dOf,hx],fun e=>absurd e hne,fun _=>⟨rfl,rfl⟩⟩ 85 (by kernel_rfl) ?_
   rintro ⟨n,w,tl,D,k,o⟩ ⟨h1,h2,h3,h4,h5,h6,h7,h8,h9⟩
   simp only [] at h1 h2 h3 h4 h5 h6 h7 h8 h9
   by_cases hn:0<n
   · have hW:=canon_pos h4 (by intro e; rw [e] at h1; simp at h1; omega)
     rcases D with _|⟨_|_,_|_⟩
     ·
      simp only [oV,oM,oNum]
      simp only [go_sem,hn]
      refine short_ic hP (L:=[4,0]) (y:=10000000000000000000) (by repeat (first|exact GenM.nil|refine GenM.upd ?_ rfl (by first|rfl|exact objOnly_U))) rfl rfl h1 (by omega) h3 (by decide) (by decide) ?_
      intro nx w' c t1 t2 t3 t4
      simp only [go_sem]
      refine trX_loop HE hP.mix [4,0] (fun q:Nat=>⟨upd (upd (upd (upd (fun _=>.junk) 2 (.str ⟨#[]⟩)) 3 (.sl 4 0 q 1)) 4 (oV none k)) 5 (.int .u64 (c:Int)),oM .u8 (upd (upd (fun _=>.unused) 0 (.live [.opq (.nat a),.pad])) 4 (.live (List.map (fun d:Nat=>AV.int .u64 (d:Int)) (w'++tl)))) none o,85⟩)
       (fun q=>q≤n∧∀ i,q≤i→w'.getD i 0=0) (fun q=>q) n 20 Has.z (Kept.of rfl KT.z KM.z) ⟨Nat.le_refl _,fun i hi=>getD_ge (by omega)⟩ 85 (by kernel_rfl) ?_
      rintro q ⟨q1,q2⟩
      obtain ⟨W2,hW2⟩:∃ W,dOf 18446744073709551616 w'=W:=⟨_,rfl⟩
      have hA:a=dv o+10^k*(c+10^(19-0)*W2):=by rw [h7,← t4,hW2,Nat.mul_comm W2,Nat.add_comm c]
      have hWc:0<W2∨0<c:=by
       rw [← t4,hW2] at hW; omega
      obtain ⟨q9,hq9⟩:∃ q9,q9+1=q+1:=⟨q,rfl⟩
      cases q with
      | zero =>
        have hW0:W2=0:=by rw [← hW2,← dOf_trim q2]; rfl
        simp only [oV,oM,oNum]
        simp only [go_sem,Nat.succ_pos,Nat.lt_irrefl]
        refine trX_loopV HE hP.mix (fun y:T3=>iL [4,0] none y.j) (fun y=>⟨upd (upd (upd (upd (upd (fun _=>.junk) 2 (.str ⟨#[]⟩)) 3 (.sl 4 0 (0) 1)) 4 (iV none y.j y.k)) 5 (.int .u64 (y.r:Int))) 6 (.int .i64 (y.i:Int)),iM .u8 (upd (upd (fun _=>.unused) 0 (.live [.opq (.nat a),.pad])) 4 (.live (List.map (fun d:Nat=>AV.int .u64 (d:Int)) (w'++tl)))) none y.j o y.o,85⟩)
         (fun y=>y.i≤19∧y.o.length=y.k∧byt y.o∧y.r<10^(19-y.i)∧a=dv y.o+10^y.k*(y.r+10^(19-y.i)*W2)∧(W2=0→y.r=0→Canon (y.o.map (·-48)))∧(y.j=none→y.o=o∧y.k=k∧y.i=0∧(0<W2∨0<y.r))) (fun y=>20-y.i) ⟨none,0,c,k,o⟩ (fun y=>iX none 17 y.j)
         (fun x r hr=>iL_has (k:=.u8) (l:=o) Has.z none x.j r hr) (Kept.of rfl KT.z KM.z) ⟨by simp,h2,h6,t3,hA,fun e1 e2=>absurd hWc (by have e1:W2=0:=e1; have e2:c=0:=e2; omega),fun _=>⟨rfl,rfl,rfl,hWc⟩⟩ 85 (by kernel_rfl) ?_
        rintro ⟨j,i,r,k',o'⟩ ⟨s1,s2,s3,s4,s5,s6,s7⟩
        simp only [] at s1 s2 s3 s4 s5 s6 s7
        have hpw:i<19→10^(19-i)=10*10^(19-(i+1)):=fun h=>by rw [show 19-i=19-(i+1)+1 by omega,Nat.pow_succ,Nat.mul_comm]
        have hm:(r:Int).tmod 10=((r % 10:Nat):Int):=rfl
        have hrb:r<18446744073709551616:=Nat.lt_of_lt_of_le s4 (Nat.le_trans (Nat.pow_le_pow_right (by decide) (show 19-i≤19 by omega)) (by decide))
        have hdv:IntKind.u64.wrap ((r:Int).tdiv 10)=((r / 10:Nat):Int):=wu_div r 10 hrb
        have hu8:=u8_dig r
        have hwi:=wi_add1 i (by omega)
        have hq0':0<q9+1:=Nat.succ_pos q9
        by_cases hi:i<19
        · by_cases hr:0<r
          · have hgo:1≤r+10^(19-i)*W2:=by omega
            have hkb:k'+1≤1099511627776:=by
             have h1:10^k'*1≤10^k'*(r+10^(19-i)*W2):=Nat.mul_le_mul_left _ hgo
             have h2:2^k'≤10^k':=Nat.pow_le_pow_left (by decide) _
             have h3:=blen_lt a
             have h4:k'<blen a:=(Nat.pow_lt_pow_iff_right (a:=2) (by decide)).1 (by omega)
             omega
            have hst:∀ o'':List Nat,o''=o'++[48+r % 10]→o''.length=k'+1∧byt o''∧r / 10<10^(19-(i+1))∧a=dv o''+10^(k'+1)*(r / 10+10^(19-(i+1))*W2)∧(W2=0→r / 10=0→Canon (o''.map (·-48))):=fun o'' ho=>by
             subst ho
             refine ⟨by simp [s2],byt_snoc s3 r,by have:=hpw hi; omega,?_,fun e1 e2=>snoc_canon _ _ ?_⟩
             · rw [dv_snoc,s2,Nat.pow_succ]
               rw [hpw hi,Nat.mul_assoc] at s5
               exact dig_step s5
             · rw [e1,Nat.mul_zero,Nat.add_zero] at hgo
               omega
            rcases j with _|_|_
            · obtain ⟨e1,e2,_,_⟩:=s7 rfl
              subst e1
              subst e2
              simp only [iV,iM,oV,oM,oNum,iX,iP,gM]
              simp only [go_sem,hi,hr,hm,hdv,hu8,hwi,hkb,map_snoc,hq0']
              first
               | (have h9':=h9 rfl
                  obtain ⟨ho,hk⟩:=h9'
                  subst ho
                  subst hk
                  obtain ⟨z1,z2,z3,z4,z5⟩:=hst [48+r % 10] rfl
                  exact ⟨by decide,⟨by simp,fun _=>trivial⟩,by decide,⟨some false,i+1,r / 10,1,[48+r % 10]⟩,Kept.of rfl KT.z KM.z,⟨by simp only []; omega,z1,z2,z3,z4,z5,fun e=>by simp at e⟩,by simp only []; omega⟩)
               | (obtain ⟨z1,z2,z3,z4,z5⟩:=hst (o'++[48+r % 10]) rfl
                  exact ⟨by decide,⟨s2,by simp,fun _=>trivial⟩,by decide,⟨some false,i+1,r / 10,k'+1,o'++[48+r % 10]⟩,Kept.of rfl KT.z KM.z,⟨by simp only []; omega,z1,z2,z3,z4,z5,fun e=>by simp at e⟩,by simp only []; omega⟩)
            · simp only [iV,iM,oV,oM,oNum,iX,iP,gM]
              simp only [go_sem,hi,hr,hm,hdv,hu8,hwi,hkb,map_snoc,hq0']
              obtain ⟨z1,z2,z3,z4,z5⟩:=hst (o'++[48+r % 10]) rfl
              exact ⟨by decide,⟨s2,by simp,fun _=>trivial⟩,by decide,⟨some true,i+1,r / 10,k'+1,o'++[48+r % 10]⟩,Kept.of rfl KT.z KM.z,⟨by simp only []; omega,z1,z2,z3,z4,z5,fun e=>by simp at e⟩,by simp only []; omega⟩
            · simp only [iV,iM,oV,oM,oNum,iX,iP,gM]
              simp only [go_sem,hi,hr,hm,hdv,hu8,hwi,hkb,map_snoc,hq0']
              obtain ⟨z1,z2,z3,z4,z5⟩:=hst (o'++[48+r % 10]) rfl
              exact ⟨by decide,⟨s2,by simp,fun _=>trivial⟩,by decide,⟨some false,i+1,r / 10,k'+1,o'++[48+r % 10]⟩,Kept.of rfl KT.z KM.z,⟨by simp only []; omega,z1,z2,z3,z4,z5,fun e=>by simp at e⟩,by simp only []; omega⟩
          · have hr0:r=0:=by omega
            have hsp:w'++tl=w'.take (0)++(w'.drop (0)++tl):=by rw [← List.append_assoc,List.take_append_drop]
            have hdt:dOf 18446744073709551616 (w'.take (0))=W2:=(dOf_trim q2).trans hW2
            have hW2lt:W2<dOf 18446744073709551616 w:=by rw [hW2] at t4; omega
            have hend:a=dv o'+10^k'*dOf 18446744073709551616 (w'.take (0)):=by
             rw [hdt,s5,hr0,Nat.zero_add]
             first
              | (rw [show 19-i=0 by omega,Nat.pow_zero,Nat.one_mul])
              | (rw [hW0,Nat.mul_zero])
            have hcn:w'.take (0)=[]→Canon (o'.map (·-48)):=fun e=>s6 (by rw [← hdt,e]; rfl) hr0
            have htl:(0)+(w'.drop (0)++tl).length=x.length:=by rw [List.length_append,List.length_drop]; omega
            have hct:Canon (w'.take (0)):=by
             first
              | (exact canon_take (by omega) hzn)
              | (intro h; exact absurd rfl h)
            have hlt:(w'.take (0)).length=0:=by rw [List.length_take]; omega
            rcases j with _|_|_
            · obtain ⟨_,_,e3,e4⟩:=s7 rfl
              first
               | omega
               | (exfalso; omega)
            · simp only [iV,iM,oV,oM,oNum,iP,gM]
              simp only [go_sem,hi,hr,Nat.lt_irrefl]
              rw [hsp]
              exact ⟨⟨0,w'.take (0),w'.drop (0)++tl,some (iP none false),k',o'⟩,Kept.of rfl KT.z KM.z,⟨hlt,s2,fun d hd=>t2 d (List.mem_of_mem_take hd),hct,htl,s3,hend,hcn,fun e=>by simp at e⟩,by simp only []; rw [hdt]; exact hW2lt⟩
            · simp only [iV,iM,oV,oM,oNum,iP,gM]
              simp only [go_sem,hi,hr,Nat.lt_irrefl]
              rw [hsp]
              exact ⟨⟨0,w'.take (0),w'.drop (0)++tl,some (iP none true),k',o'⟩,Kept.of rfl KT.z KM.z,⟨hlt,s2,fun d hd=>t2 d (List.mem_of_mem_take hd),hct,htl,s3,hend,hcn,fun e=>by simp at e⟩,by simp only []; rw [hdt]; exact hW2lt⟩
        · have hr0:r=0:=by
           rw [show 19-i=0 by omega] at s4; omega
          have hsp:w'++tl=w'.take (0)++(w'.drop (0)++tl):=by rw [← List.append_assoc,List.take_append_drop]
          have hdt:dOf 18446744073709551616 (w'.take (0))=W2:=(dOf_trim q2).trans hW2
          have hW2lt:W2<dOf 18446744073709551616 w:=by rw [hW2] at t4; omega
          have hend:a=dv o'+10^k'*dOf 18446744073709551616 (w'.take (0)):=by
           rw [hdt,s5,hr0,Nat.zero_add]
           first
            | (rw [show 19-i=0 by omega,Nat.pow_zero,Nat.one_mul])
            | (rw [hW0,Nat.mul_zero])
          have hcn:w'.take (0)=[]→Canon (o'.map (·-48)):=fun e=>s6 (by rw [← hdt,e]; rfl) hr0
          have htl:(0)+(w'.drop (0)++tl).length=x.length:=by rw [List.length_append,List.length_drop]; omega
          have hct:Canon (w'.take (0)):=by
           first
            | (exact canon_take (by omega) hzn)
            | (intro h; exact absurd rfl h)
          have hlt:(w'.take (0)).length=0:=by rw [List.length_take]; omega
          rcases j with _|_|_
          · obtain ⟨_,_,e3,e4⟩:=s7 rfl
            first
             | omega
             | (exfalso; omega)
          · simp only [iV,iM,oV,oM,oNum,iP,gM]
            simp only [go_sem,hi]
            rw [hsp]
            exact ⟨⟨0,w'.take (0),w'.drop (0)++tl,some (iP none false),k',o'⟩,Kept.of rfl KT.z KM.z,⟨hlt,s2,fun d hd=>t2 d (List.mem_of_mem_take hd),hct,htl,s3,hend,hcn,fun e=>by simp at e⟩,by simp only []; rw [hdt]; exact hW2lt⟩
          · simp only [iV,iM,oV,oM,oNum,iP,gM]
            simp only [go_sem,hi]
            rw [hsp]
            exact ⟨⟨0,w'.take (0),w'.drop (0)++tl,some (iP none true),k',o'⟩,Kept.of rfl KT.z KM.z,⟨hlt,s2,fun d hd=>t2 d (List.mem_of_mem_take hd),hct,htl,s3,hend,hcn,fun e=>by simp at e⟩,by simp only []; rw [hdt]; exact hW2lt⟩
      | succ q =>
        have hql:q<w'.length:=by omega
        have hqg:q<(w'++tl).length:=by rw [List.length_append]; omega
        have hqn:q<w'.length+tl.length:=by omega
        have hgt:(w'++tl).getD q 0=w'.getD q 0:=getD_left hql
        have hqi:=wi_nat q (by omega)
        have hq1:q<q+1:=by omega
        have hq2:q≤q+1:=by omega
        have hq3:q≤w'.length+tl.length:=by omega
        rcases (by cases (w'.getD q 0 == 0)<;>simp:(w'.getD q 0 == 0)=true∨(w'.getD q 0 == 0)=false) with hz|hz
        · simp only [oV,oM,oNum]
          simp only [go_sem,Nat.succ_pos,hqi,hq1,hqg,hqn,gU hqg,hgt,hz,hq2,hq3]
          exact ⟨by simp,q,Kept.of rfl KT.z KM.z,⟨by omega,fun i hi=>by
           rcases Nat.eq_or_lt_of_le hi with rfl|hi
           · simpa using hz
           · exact q2 i hi⟩,by omega⟩
        · have hzn:w'.getD q 0 ≠ 0:=by simpa using hz
          have hW0:0<W2:=by
           rw [← hW2]; exact dOf_pos hql hzn
          simp only [oV,oM,oNum]
          simp only [go_sem,Nat.succ_pos,hqi,hq1,hqg,hqn,gU hqg,hgt,hz]
          refine trX_loopV HE hP.mix (fun y:T3=>iL [4,0] none y.j) (fun y=>⟨upd (upd (upd (upd (upd (fun _=>.junk) 2 (.str ⟨#[]⟩)) 3 (.sl 4 0 (q+1) 1)) 4 (iV none y.j y.k)) 5 (.int .u64 (y.r:Int))) 6 (.int .i64 (y.i:Int)),iM .u8 (upd (upd (fun _=>.unused) 0 (.live [.opq (.nat a),.pad])) 4 (.live (List.map (fun d:Nat=>AV.int .u64 (d:Int)) (w'++tl)))) none y.j o y.o,85⟩)
           (fun y=>y.i≤19∧y.o.length=y.k∧byt y.o∧y.r<10^(19-y.i)∧a=dv y.o+10^y.k*(y.r+10^(19-y.i)*W2)∧(W2=0→y.r=0→Canon (y.o.map (·-48)))∧(y.j=none→y.o=o∧y.k=k∧y.i=0∧(0<W2∨0<y.r))) (fun y=>20-y.i) ⟨none,0,c,k,o⟩ (fun y=>iX none 15 y.j)
           (fun x r hr=>iL_has (k:=.u8) (l:=o) Has.z none x.j r hr) (Kept.of rfl KT.z KM.z) ⟨by simp,h2,h6,t3,hA,fun e1 e2=>absurd hWc (by have e1:W2=0:=e1; have e2:c=0:=e2; omega),fun _=>⟨rfl,rfl,rfl,hWc⟩⟩ 85 (by kernel_rfl) ?_
          rintro ⟨j,i,r,k',o'⟩ ⟨s1,s2,s3,s4,s5,s6,s7⟩
          simp only [] at s1 s2 s3 s4 s5 s6 s7
          have hpw:i<19→10^(19-i)=10*10^(19-(i+1)):=fun h=>by rw [show 19-i=19-(i+1)+1 by omega,Nat.pow_succ,Nat.mul_comm]
          have hm:(r:Int).tmod 10=((r % 10:Nat):Int):=rfl
          have hrb:r<18446744073709551616:=Nat.lt_of_lt_of_le s4 (Nat.le_trans (Nat.pow_le_pow_right (by decide) (show 19-i≤19 by omega)) (by decide))
          have hdv:IntKind.u64.wrap ((r:Int).tdiv 10)=((r / 10:Nat):Int):=wu_div r 10 hrb
          have hu8:=u8_dig r
          have hwi:=wi_add1 i (by omega)
          have hq0':0<q9+1:=Nat.succ_pos q9
          have hq0:0<q+1:=Nat.succ_pos q
          by_cases hi:i<19
          · have hgo:1≤r+10^(19-i)*W2:=by
             have:=Nat.mul_pos (Nat.pow_pos (show 0<10 by decide) (n:=19-i)) hW0
             omega
            have hr:=hq0
            have hkb:k'+1≤1099511627776:=by
             have h1:10^k'*1≤10^k'*(r+10^(19-i)*W2):=Nat.mul_le_mul_left _ hgo
             have h2:2^k'≤10^k':=Nat.pow_le_pow_left (by decide) _
             have h3:=blen_lt a
             have h4:k'<blen a:=(Nat.pow_lt_pow_iff_right (a:=2) (by decide)).1 (by omega)
             omega
            have hst:∀ o'':List Nat,o''=o'++[48+r % 10]→o''.length=k'+1∧byt o''∧r / 10<10^(19-(i+1))∧a=dv o''+10^(k'+1)*(r / 10+10^(19-(i+1))*W2)∧(W2=0→r / 10=0→Canon (o''.map (·-48))):=fun o'' ho=>by
             subst ho
             refine ⟨by simp [s2],byt_snoc s3 r,by have:=hpw hi; omega,?_,fun e1 e2=>snoc_canon _ _ ?_⟩
             · rw [dv_snoc,s2,Nat.pow_succ]
               rw [hpw hi,Nat.mul_assoc] at s5
               exact dig_step s5
             · rw [e1,Nat.mul_zero,Nat.add_zero] at hgo
               omega
            rcases j with _|_|_
            · obtain ⟨e1,e2,_,_⟩:=s7 rfl
              subst e1
              subst e2
              simp only [iV,iM,oV,oM,oNum,iX,iP,gM]
              simp only [go_sem,hi,hr,hm,hdv,hu8,hwi,hkb,map_snoc,hq0']
              first
               | (have h9':=h9 rfl
                  obtain ⟨ho,hk⟩:=h9'
                  subst ho
                  subst hk
                  obtain ⟨z1,z2,z3,z4,z5⟩:=hst [48+r % 10] rfl
                  exact ⟨by decide,⟨by simp,fun _=>trivial⟩,by decide,⟨some false,i+1,r / 10,1,[48+r % 10]⟩,Kept.of rfl KT.z KM.z,⟨by simp only []; omega,z1,z2,z3,z4,z5,fun e=>by simp at e⟩,by simp only []; omega⟩)
               | (obtain ⟨z1,z2,z3,z4,z5⟩:=hst (o'++[48+r % 10]) rfl
                  exact ⟨by decide,⟨s2,by simp,fun _=>trivial⟩,by decide,⟨some false,i+1,r / 10,k'+1,o'++[48+r % 10]⟩,Kept.of rfl KT.z KM.z,⟨by simp only []; omega,z1,z2,z3,z4,z5,fun e=>by simp at e⟩,by simp only []; omega⟩)
            · simp only [iV,iM,oV,oM,oNum,iX,iP,gM]
              simp only [go_sem,hi,hr,hm,hdv,hu8,hwi,hkb,map_snoc,hq0']
              obtain ⟨z1,z2,z3,z4,z5⟩:=hst (o'++[48+r % 10]) rfl
              exact ⟨by decide,⟨s2,by simp,fun _=>trivial⟩,by decide,⟨some true,i+1,r / 10,k'+1,o'++[48+r % 10]⟩,Kept.of rfl KT.z KM.z,⟨by simp only []; omega,z1,z2,z3,z4,z5,fun e=>by simp at e⟩,by simp only []; omega⟩
            · simp only [iV,iM,oV,oM,oNum,iX,iP,gM]
              simp only [go_sem,hi,hr,hm,hdv,hu8,hwi,hkb,map_snoc,hq0']
              obtain ⟨z1,z2,z3,z4,z5⟩:=hst (o'++[48+r % 10]) rfl
              exact ⟨by decide,⟨s2,by simp,fun _=>trivial⟩,by decide,⟨some false,i+1,r / 10,k'+1,o'++[48+r % 10]⟩,Kept.of rfl KT.z KM.z,⟨by simp only []; omega,z1,z2,z3,z4,z5,fun e=>by simp at e⟩,by simp only []; omega⟩
          · have hr0:r=0:=by
             rw [show 19-i=0 by omega] at s4; omega
            have hsp:w'++tl=w'.take (q+1)++(w'.drop (q+1)++tl):=by rw [← List.append_assoc,List.take_append_drop]
            have hdt:dOf 18446744073709551616 (w'.take (q+1))=W2:=(dOf_trim q2).trans hW2
            have hW2lt:W2<dOf 18446744073709551616 w:=by rw [hW2] at t4; omega
            have hend:a=dv o'+10^k'*dOf 18446744073709551616 (w'.take (q+1)):=by
             rw [hdt,s5,hr0,Nat.zero_add]
             first
              | (rw [show 19-i=0 by omega,Nat.pow_zero,Nat.one_mul])
              | (rw [hW0,Nat.mul_zero])
            have hcn:w'.take (q+1)=[]→Canon (o'.map (·-48)):=fun e=>s6 (by rw [← hdt,e]; rfl) hr0
            have htl:(q+1)+(w'.drop (q+1)++tl).length=x.length:=by rw [List.length_append,List.length_drop]; omega
            have hct:Canon (w'.take (q+1)):=by
             first
              | (exact canon_take (by omega) hzn)
              | (intro h; exact absurd rfl h)
            have hlt:(w'.take (q+1)).length=q+1:=by rw [List.length_take]; omega
            rcases j with _|_|_
            · obtain ⟨_,_,e3,e4⟩:=s7 rfl
              first
               | omega
               | (exfalso; omega)
            · simp only [iV,iM,oV,oM,oNum,iP,gM]
              simp only [go_sem,hi]
              rw [hsp]
              exact ⟨⟨q+1,w'.take (q+1),w'.drop (q+1)++tl,some (iP none false),k',o'⟩,Kept.of rfl KT.z KM.z,⟨hlt,s2,fun d hd=>t2 d (List.mem_of_mem_take hd),hct,htl,s3,hend,hcn,fun e=>by simp at e⟩,by simp only []; rw [hdt]; exact hW2lt⟩
            · simp only [iV,iM,oV,oM,oNum,iP,gM]
              simp only [go_sem,hi]
              rw [hsp]
              exact ⟨⟨q+1,w'.take (q+1),w'.drop (q+1)++tl,some (iP none true),k',o'⟩,Kept.of rfl KT.z KM.z,⟨hlt,s2,fun d hd=>t2 d (List.mem_of_mem_take hd),hct,htl,s3,hend,hcn,fun e=>by simp at e⟩,by simp only []; rw [hdt]; exact hW2lt⟩
     ·
      simp only [oV,oM,oNum]
      simp only [go_sem,hn]
      refine short_ic hP (L:=[110,4,0]) (y:=10000000000000000000) (by repeat (first|exact GenM.nil|refine GenM.upd ?_ rfl (by first|rfl|exact objOnly_U))) rfl rfl h1 (by omega) h3 (by decide) (by decide) ?_
      intro nx w' c t1 t2 t3 t4
      simp only [go_sem]
      refine trX_loop HE hP.mix [110,4,0] (fun q:Nat=>⟨upd (upd (upd (upd (fun _=>.junk) 2 (.str ⟨#[]⟩)) 3 (.sl 4 0 q 1)) 4 (oV (some (false,false)) k)) 5 (.int .u64 (c:Int)),oM .u8 (upd (upd (fun _=>.unused) 0 (.live [.opq (.nat a),.pad])) 4 (.live (List.map (fun d:Nat=>AV.int .u64 (d:Int)) (w'++tl)))) (some (false,false)) o,85⟩)
       (fun q=>q≤n∧∀ i,q≤i→w'.getD i 0=0) (fun q=>q) n 20 Has.z (Kept.of rfl KT.z KM.z) ⟨Nat.le_refl _,fun i hi=>getD_ge (by omega)⟩ 85 (by kernel_rfl) ?_
      rintro q ⟨q1,q2⟩
      obtain ⟨W2,hW2⟩:∃ W,dOf 18446744073709551616 w'=W:=⟨_,rfl⟩
      have hA:a=dv o+10^k*(c+10^(19-0)*W2):=by rw [h7,← t4,hW2,Nat.mul_comm W2,Nat.add_comm c]
      have hWc:0<W2∨0<c:=by
       rw [← t4,hW2] at hW; omega
      obtain ⟨q9,hq9⟩:∃ q9,q9+1=q+1:=⟨q,rfl⟩
      cases q with
      | zero =>
        have hW0:W2=0:=by rw [← hW2,← dOf_trim q2]; rfl
        simp only [oV,oM,oNum]
        simp only [go_sem,Nat.succ_pos,Nat.lt_irrefl]
        refine trX_loopV HE hP.mix (fun y:T3=>iL [4,0] (some (false,false)) y.j) (fun y=>⟨upd (upd (upd (upd (upd (fun _=>.junk) 2 (.str ⟨#[]⟩)) 3 (.sl 4 0 (0) 1)) 4 (iV (some (false,false)) y.j y.k)) 5 (.int .u64 (y.r:Int))) 6 (.int .i64 (y.i:Int)),iM .u8 (upd (upd (fun _=>.unused) 0 (.live [.opq (.nat a),.pad])) 4 (.live (List.map (fun d:Nat=>AV.int .u64 (d:Int)) (w'++tl)))) (some (false,false)) y.j o y.o,85⟩)
         (fun y=>y.i≤19∧y.o.length=y.k∧byt y.o∧y.r<10^(19-y.i)∧a=dv y.o+10^y.k*(y.r+10^(19-y.i)*W2)∧(W2=0→y.r=0→Canon (y.o.map (·-48)))∧(y.j=none→y.o=o∧y.k=k∧y.i=0∧(0<W2∨0<y.r))) (fun y=>20-y.i) ⟨none,0,c,k,o⟩ (fun y=>iX (some (false,false)) 17 y.j)
         (fun x r hr=>iL_has (k:=.u8) (l:=o) Has.z (some (false,false)) x.j r hr) (Kept.of rfl KT.z KM.z) ⟨by simp,h2,h6,t3,hA,fun e1 e2=>absurd hWc (by have e1:W2=0:=e1; have e2:c=0:=e2; omega),fun _=>⟨rfl,rfl,rfl,hWc⟩⟩ 85 (by kernel_rfl) ?_
        rintro ⟨j,i,r,k',o'⟩ ⟨s1,s2,s3,s4,s5,s6,s7⟩
        simp only [] at s1 s2 s3 s4 s5 s6 s7
        have hpw:i<19→10^(19-i)=10*10^(19-(i+1)):=fun h=>by rw [show 19-i=19-(i+1)+1 by omega,Nat.pow_succ,Nat.mul_comm]
        have hm:(r:Int).tmod 10=((r % 10:Nat):Int):=rfl
        have hrb:r<18446744073709551616:=Nat.lt_of_lt_of_le s4 (Nat.le_trans (Nat.pow_le_pow_right (by decide) (show 19-i≤19 by omega)) (by decide))
        have hdv:IntKind.u64.wrap ((r:Int).tdiv 10)=((r / 10:Nat):Int):=wu_div r 10 hrb
        have hu8:=u8_dig r
        have hwi:=wi_add1 i (by omega)
        have hq0':0<q9+1:=Nat.succ_pos q9
        by_cases hi:i<19
        · by_cases hr:0<r
          · have hgo:1≤r+10^(19-i)*W2:=by omega
            have hkb:k'+1≤1099511627776:=by
             have h1:10^k'*1≤10^k'*(r+10^(19-i)*W2):=Nat.mul_le_mul_left _ hgo
             have h2:2^k'≤10^k':=Nat.pow_le_pow_left (by decide) _
             have h3:=blen_lt a
             have h4:k'<blen a:=(Nat.pow_lt_pow_iff_right (a:=2) (by decide)).1 (by omega)
             omega
            have hst:∀ o'':List Nat,o''=o'++[48+r % 10]→o''.length=k'+1∧byt o''∧r / 10<10^(19-(i+1))∧a=dv o''+10^(k'+1)*(r / 10+10^(19-(i+1))*W2)∧(W2=0→r / 10=0→Canon (o''.map (·-48))):=fun o'' ho=>by
             subst ho
             refine ⟨by simp [s2],byt_snoc s3 r,by have:=hpw hi; omega,?_,fun e1 e2=>snoc_canon _ _ ?_⟩
             · rw [dv_snoc,s2,Nat.pow_succ]
               rw [hpw hi,Nat.mul_assoc] at s5
               exact dig_step s5
             · rw [e1,Nat.mul_zero,Nat.add_zero] at hgo
               omega
            rcases j with _|_|_
            · obtain ⟨e1,e2,_,_⟩:=s7 rfl
              subst e1
              subst e2
              simp only [iV,iM,oV,oM,oNum,iX,iP,gM]
              simp only [go_sem,hi,hr,hm,hdv,hu8,hwi,hkb,map_snoc,hq0']
              first
               | (have h9':=h9 rfl
                  obtain ⟨ho,hk⟩:=h9'
                  subst ho
                  subst hk
                  obtain ⟨z1,z2,z3,z4,z5⟩:=hst [48+r % 10] rfl
                  exact ⟨by decide,⟨by simp,fun _=>trivial⟩,by decide,⟨some false,i+1,r / 10,1,[48+r % 10]⟩,Kept.of rfl KT.z KM.z,⟨by simp only []; omega,z1,z2,z3,z4,z5,fun e=>by simp at e⟩,by simp only []; omega⟩)
               | (obtain ⟨z1,z2,z3,z4,z5⟩:=hst (o'++[48+r % 10]) rfl
                  exact ⟨by decide,⟨s2,by simp,fun _=>trivial⟩,by decide,⟨some false,i+1,r / 10,k'+1,o'++[48+r % 10]⟩,Kept.of rfl KT.z KM.z,⟨by simp only []; omega,z1,z2,z3,z4,z5,fun e=>by simp at e⟩,by simp only []; omega⟩)
            · simp only [iV,iM,oV,oM,oNum,iX,iP,gM]
              simp only [go_sem,hi,hr,hm,hdv,hu8,hwi,hkb,map_snoc,hq0']
              obtain ⟨z1,z2,z3,z4,z5⟩:=hst (o'++[48+r % 10]) rfl
              exact ⟨by decide,⟨s2,by simp,fun _=>trivial⟩,by decide,⟨some true,i+1,r / 10,k'+1,o'++[48+r % 10]⟩,Kept.of rfl KT.z KM.z,⟨by simp only []; omega,z1,z2,z3,z4,z5,fun e=>by simp at e⟩,by simp only []; omega⟩
            · simp only [iV,iM,oV,oM,oNum,iX,iP,gM]
              simp only [go_sem,hi,hr,hm,hdv,hu8,hwi,hkb,map_snoc,hq0']
              obtain ⟨z1,z2,z3,z4,z5⟩:=hst (o'++[48+r % 10]) rfl
              exact ⟨by decide,⟨s2,by simp,fun _=>trivial⟩,by decide,⟨some false,i+1,r / 10,k'+1,o'++[48+r % 10]⟩,Kept.of rfl KT.z KM.z,⟨by simp only []; omega,z1,z2,z3,z4,z5,fun e=>by simp at e⟩,by simp only []; omega⟩
          · have hr0:r=0:=by omega
            have hsp:w'++tl=w'.take (0)++(w'.drop (0)++tl):=by rw [← List.append_assoc,List.take_append_drop]
            have hdt:dOf 18446744073709551616 (w'.take (0))=W2:=(dOf_trim q2).trans hW2
            have hW2lt:W2<dOf 18446744073709551616 w:=by rw [hW2] at t4; omega
            have hend:a=dv o'+10^k'*dOf 18446744073709551616 (w'.take (0)):=by
             rw [hdt,s5,hr0,Nat.zero_add]
             first
              | (rw [show 19-i=0 by omega,Nat.pow_zero,Nat.one_mul])
              | (rw [hW0,Nat.mul_zero])
            have hcn:w'.take (0)=[]→Canon (o'.map (·-48)):=fun e=>s6 (by rw [← hdt,e]; rfl) hr0
            have htl:(0)+(w'.drop (0)++tl).length=x.length:=by rw [List.length_append,List.length_drop]; omega
            have hct:Canon (w'.take (0)):=by
             first
              | (exact canon_take (by omega) hzn)
              | (intro h; exact absurd rfl h)
            have hlt:(w'.take (0)).length=0:=by rw [List.length_take]; omega
            rcases j with _|_|_
            · obtain ⟨_,_,e3,e4⟩:=s7 rfl
              first
               | omega
               | (exfalso; omega)
            · simp only [iV,iM,oV,oM,oNum,iP,gM]
              simp only [go_sem,hi,hr,Nat.lt_irrefl]
              rw [hsp]
              exact ⟨⟨0,w'.take (0),w'.drop (0)++tl,some (iP (some (false,false)) false),k',o'⟩,Kept.of rfl KT.z KM.z,⟨hlt,s2,fun d hd=>t2 d (List.mem_of_mem_take hd),hct,htl,s3,hend,hcn,fun e=>by simp at e⟩,by simp only []; rw [hdt]; exact hW2lt⟩
            · simp only [iV,iM,oV,oM,oNum,iP,gM]
              simp only [go_sem,hi,hr,Nat.lt_irrefl]
              rw [hsp]
              exact ⟨⟨0,w'.take (0),w'.drop (0)++tl,some (iP (some (false,false)) true),k',o'⟩,Kept.of rfl KT.z KM.z,⟨hlt,s2,fun d hd=>t2 d (List.mem_of_mem_take hd),hct,htl,s3,hend,hcn,fun e=>by simp at e⟩,by simp only []; rw [hdt]; exact hW2lt⟩
        · have hr0:r=0:=by
           rw [show 19-i=0 by omega] at s4; omega
          have hsp:w'++tl=w'.take (0)++(w'.drop (0)++tl):=by rw [← List.append_assoc,List.take_append_drop]
          have hdt:dOf 18446744073709551616 (w'.take (0))=W2:=(dOf_trim q2).trans hW2
          have hW2lt:W2<dOf 18446744073709551616 w:=by rw [hW2] at t4; omega
          have hend:a=dv o'+10^k'*dOf 18446744073709551616 (w'.take (0)):=by
           rw [hdt,s5,hr0,Nat.zero_add]
           first
            | (rw [show 19-i=0 by omega,Nat.pow_zero,Nat.one_mul])
            | (rw [hW0,Nat.mul_zero])
          have hcn:w'.take (0)=[]→Canon (o'.map (·-48)):=fun e=>s6 (by rw [← hdt,e]; rfl) hr0
          have htl:(0)+(w'.drop (0)++tl).length=x.length:=by rw [List.length_append,List.length_drop]; omega
          have hct:Canon (w'.take (0)):=by
           first
            | (exact canon_take (by omega) hzn)
            | (intro h; exact absurd rfl h)
          have hlt:(w'.take (0)).length=0:=by rw [List.length_take]; omega
          rcases j with _|_|_
          · obtain ⟨_,_,e3,e4⟩:=s7 rfl
            first
             | omega
             | (exfalso; omega)
          · simp only [iV,iM,oV,oM,oNum,iP,gM]
            simp only [go_sem,hi]
            rw [hsp]
            exact ⟨⟨0,w'.take (0),w'.drop (0)++tl,some (iP (some (false,false)) false),k',o'⟩,Kept.of rfl KT.z KM.z,⟨hlt,s2,fun d hd=>t2 d (List.mem_of_mem_take hd),hct,htl,s3,hend,hcn,fun e=>by simp at e⟩,by simp only []; rw [hdt]; exact hW2lt⟩
          · simp only [iV,iM,oV,oM,oNum,iP,gM]
            simp only [go_sem,hi]
            rw [hsp]
            exact ⟨⟨0,w'.take (0),w'.drop (0)++tl,some (iP (some (false,false)) true),k',o'⟩,Kept.of rfl KT.z KM.z,⟨hlt,s2,fun d hd=>t2 d (List.mem_of_mem_take hd),hct,htl,s3,hend,hcn,fun e=>by simp at e⟩,by simp only []; rw [hdt]; exact hW2lt⟩
      | succ q =>
        have hql:q<w'.length:=by omega
        have hqg:q<(w'++tl).length:=by rw [List.length_append]; omega
        have hqn:q<w'.length+tl.length:=by omega
        have hgt:(w'++tl).getD q 0=w'.getD q 0:=getD_left hql
        have hqi:=wi_nat q (by omega)
        have hq1:q<q+1:=by omega
        have hq2:q≤q+1:=by omega
        have hq3:q≤w'.length+tl.length:=by omega
        rcases (by cases (w'.getD q 0 == 0)<;>simp:(w'.getD q 0 == 0)=true∨(w'.getD q 0 == 0)=false) with hz|hz
        · simp only [oV,oM,oNum]
          simp only [go_sem,Nat.succ_pos,hqi,hq1,hqg,hqn,gU hqg,hgt,hz,hq2,hq3]
          exact ⟨by simp,q,Kept.of rfl KT.z KM.z,⟨by omega,fun i hi=>by
           rcases Nat.eq_or_lt_of_le hi with rfl|hi
           · simpa using hz
           · exact q2 i hi⟩,by omega⟩
        · have hzn:w'.getD q 0 ≠ 0:=by simpa using hz
          have hW0:0<W2:=by
           rw [← hW2]; exact dOf_pos hql hzn
          simp only [oV,oM,oNum]
          simp only [go_sem,Nat.succ_pos,hqi,hq1,hqg,hqn,gU hqg,hgt,hz]
          refine trX_loopV HE hP.mix (fun y:T3=>iL [4,0] (some (false,false)) y.j) (fun y=>⟨upd (upd (upd (upd (upd (fun _=>.junk) 2 (.str ⟨#[]⟩)) 3 (.sl 4 0 (q+1) 1)) 4 (iV (some (false,false)) y.j y.k)) 5 (.int .u64 (y.r:Int))) 6 (.int .i64 (y.i:Int)),iM .u8 (upd (upd (fun _=>.unused) 0 (.live [.opq (.nat a),.pad])) 4 (.live (List.map (fun d:Nat=>AV.int .u64 (d:Int)) (w'++tl)))) (some (false,false)) y.j o y.o,85⟩)
           (fun y=>y.i≤19∧y.o.length=y.k∧byt y.o∧y.r<10^(19-y.i)∧a=dv y.o+10^y.k*(y.r+10^(19-y.i)*W2)∧(W2=0→y.r=0→Canon (y.o.map (·-48)))∧(y.j=none→y.o=o∧y.k=k∧y.i=0∧(0<W2∨0<y.r))) (fun y=>20-y.i) ⟨none,0,c,k,o⟩ (fun y=>iX (some (false,false)) 15 y.j)
           (fun x r hr=>iL_has (k:=.u8) (l:=o) Has.z (some (false,false)) x.j r hr) (Kept.of rfl KT.z KM.z) ⟨by simp,h2,h6,t3,hA,fun e1 e2=>absurd hWc (by have e1:W2=0:=e1; have e2:c=0:=e2; omega),fun _=>⟨rfl,rfl,rfl,hWc⟩⟩ 85 (by kernel_rfl) ?_
          rintro ⟨j,i,r,k',o'⟩ ⟨s1,s2,s3,s4,s5,s6,s7⟩
          simp only [] at s1 s2 s3 s4 s5 s6 s7
          have hpw:i<19→10^(19-i)=10*10^(19-(i+1)):=fun h=>by rw [show 19-i=19-(i+1)+1 by omega,Nat.pow_succ,Nat.mul_comm]
          have hm:(r:Int).tmod 10=((r % 10:Nat):Int):=rfl
          have hrb:r<18446744073709551616:=Nat.lt_of_lt_of_le s4 (Nat.le_trans (Nat.pow_le_pow_right (by decide) (show 19-i≤19 by omega)) (by decide))
          have hdv:IntKind.u64.wrap ((r:Int).tdiv 10)=((r / 10:Nat):Int):=wu_div r 10 hrb
          have hu8:=u8_dig r
          have hwi:=wi_add1 i (by omega)
          have hq0':0<q9+1:=Nat.succ_pos q9
          have hq0:0<q+1:=Nat.succ_pos q
          by_cases hi:i<19
          · have hgo:1≤r+10^(19-i)*W2:=by
             have:=Nat.mul_pos (Nat.pow_pos (show 0<10 by decide) (n:=19-i)) hW0
             omega
            have hr:=hq0
            have hkb:k'+1≤1099511627776:=by
             have h1:10^k'*1≤10^k'*(r+10^(19-i)*W2):=Nat.mul_le_mul_left _ hgo
             have h2:2^k'≤10^k':=Nat.pow_le_pow_left (by decide) _
             have h3:=blen_lt a
             have h4:k'<blen a:=(Nat.pow_lt_pow_iff_right (a:=2) (by decide)).1 (by omega)
             omega
            have hst:∀ o'':List Nat,o''=o'++[48+r % 10]→o''.length=k'+1∧byt o''∧r / 10<10^(19-(i+1))∧a=dv o''+10^(k'+1)*(r / 10+10^(19-(i+1))*W2)∧(W2=0→r / 10=0→Canon (o''.map (·-48))):=fun o'' ho=>by
             subst ho
             refine ⟨by simp [s2],byt_snoc s3 r,by have:=hpw hi; omega,?_,fun e1 e2=>snoc_canon _ _ ?_⟩
             · rw [dv_snoc,s2,Nat.pow_succ]
               rw [hpw hi,Nat.mul_assoc] at s5
               exact dig_step s5
             · rw [e1,Nat.mul_zero,Nat.add_zero] at hgo
               omega
            rcases j with _|_|_
            · obtain ⟨e1,e2,_,_⟩:=s7 rfl
              subst e1
              subst e2
              simp only [iV,iM,oV,oM,oNum,iX,iP,gM]
              simp only [go_sem,hi,hr,hm,hdv,hu8,hwi,hkb,map_snoc,hq0']
              first
               | (have h9':=h9 rfl
                  obtain ⟨ho,hk⟩:=h9'
                  subst ho
                  subst hk
                  obtain ⟨z1,z2,z3,z4,z5⟩:=hst [48+r % 10] rfl
                  exact ⟨by decide,⟨by simp,fun _=>trivial⟩,by decide,⟨some false,i+1,r / 10,1,[48+r % 10]⟩,Kept.of rfl KT.z KM.z,⟨by simp only []; omega,z1,z2,z3,z4,z5,fun e=>by simp at e⟩,by simp only []; omega⟩)
               | (obtain ⟨z1,z2,z3,z4,z5⟩:=hst (o'++[48+r % 10]) rfl
                  exact ⟨by decide,⟨s2,by simp,fun _=>trivial⟩,by decide,⟨some false,i+1,r / 10,k'+1,o'++[48+r % 10]⟩,Kept.of rfl KT.z KM.z,⟨by simp only []; omega,z1,z2,z3,z4,z5,fun e=>by simp at e⟩,by simp only []; omega⟩)
            · simp only [iV,iM,oV,oM,oNum,iX,iP,gM]
              simp only [go_sem,hi,hr,hm,hdv,hu8,hwi,hkb,map_snoc,hq0']
              obtain ⟨z1,z2,z3,z4,z5⟩:=hst (o'++[48+r % 10]) rfl
              exact ⟨by decide,⟨s2,by simp,fun _=>trivial⟩,by decide,⟨some true,i+1,r / 10,k'+1,o'++[48+r % 10]⟩,Kept.of rfl KT.z KM.z,⟨by simp only []; omega,z1,z2,z3,z4,z5,fun e=>by simp at e⟩,by simp only []; omega⟩
            · simp only [iV,iM,oV,oM,oNum,iX,iP,gM]
              simp only [go_sem,hi,hr,hm,hdv,hu8,hwi,hkb,map_snoc,hq0']
              obtain ⟨z1,z2,z3,z4,z5⟩:=hst (o'++[48+r % 10]) rfl
              exact ⟨by decide,⟨s2,by simp,fun _=>trivial⟩,by decide,⟨some false,i+1,r / 10,k'+1,o'++[48+r % 10]⟩,Kept.of rfl KT.z KM.z,⟨by simp only []; omega,z1,z2,z3,z4,z5,fun e=>by simp at e⟩,by simp only []; omega⟩
          · have hr0:r=0:=by
             rw [show 19-i=0 by omega] at s4; omega
            have hsp:w'++tl=w'.take (q+1)++(w'.drop (q+1)++tl):=by rw [← List.append_assoc,List.take_append_drop]
            have hdt:dOf 18446744073709551616 (w'.take (q+1))=W2:=(dOf_trim q2).trans hW2
            have hW2lt:W2<dOf 18446744073709551616 w:=by rw [hW2] at t4; omega
            have hend:a=dv o'+10^k'*dOf 18446744073709551616 (w'.take (q+1)):=by
             rw [hdt,s5,hr0,Nat.zero_add]
             first
              | (rw [show 19-i=0 by omega,Nat.pow_zero,Nat.one_mul])
              | (rw [hW0,Nat.mul_zero])
            have hcn:w'.take (q+1)=[]→Canon (o'.map (·-48)):=fun e=>s6 (by rw [← hdt,e]; rfl) hr0
            have htl:(q+1)+(w'.drop (q+1)++tl).length=x.length:=by rw [List.length_append,List.length_drop]; omega
            have hct:Canon (w'.take (q+1)):=by
             first
              | (exact canon_take (by omega) hzn)
              | (intro h; exact absurd rfl h)
            have hlt:(w'.take (q+1)).length=q+1:=by rw [List.length_take]; omega
            rcases j with _|_|_
            · obtain ⟨_,_,e3,e4⟩:=s7 rfl
              first
               | omega
               | (exfalso; omega)
            · simp only [iV,iM,oV,oM,oNum,iP,gM]
              simp only [go_sem,hi]
              rw [hsp]
              exact ⟨⟨q+1,w'.take (q+1),w'.drop (q+1)++tl,some (iP (some (false,false)) false),k',o'⟩,Kept.of rfl KT.z KM.z,⟨hlt,s2,fun d hd=>t2 d (List.mem_of_mem_take hd),hct,htl,s3,hend,hcn,fun e=>by simp at e⟩,by simp only []; rw [hdt]; exact hW2lt⟩
            · simp only [iV,iM,oV,oM,oNum,iP,gM]
              simp only [go_sem,hi]
              rw [hsp]
              exact ⟨⟨q+1,w'.take (q+1),w'.drop (q+1)++tl,some (iP (some (false,false)) true),k',o'⟩,Kept.of rfl KT.z KM.z,⟨hlt,s2,fun d hd=>t2 d (List.mem_of_mem_take hd),hct,htl,s3,hend,hcn,fun e=>by simp at e⟩,by simp only []; rw [hdt]; exact hW2lt⟩
     ·
      simp only [oV,oM,oNum]
      simp only [go_sem,hn]
      refine short_ic hP (L:=[120,4,0]) (y:=10000000000000000000) (by repeat (first|exact GenM.nil|refine GenM.upd ?_ rfl (by first|rfl|exact objOnly_U))) rfl rfl h1 (by omega) h3 (by decide) (by decide) ?_
      intro nx w' c t1 t2 t3 t4
      simp only [go_sem]
      refine trX_loop HE hP.mix [120,4,0] (fun q:Nat=>⟨upd (upd (upd (upd (fun _=>.junk) 2 (.str ⟨#[]⟩)) 3 (.sl 4 0 q 1)) 4 (oV (some (false,true)) k)) 5 (.int .u64 (c:Int)),oM .u8 (upd (upd (fun _=>.unused) 0 (.live [.opq (.nat a),.pad])) 4 (.live (List.map (fun d:Nat=>AV.int .u64 (d:Int)) (w'++tl)))) (some (false,true)) o,85⟩)
       (fun q=>q≤n∧∀ i,q≤i→w'.getD i 0=0) (fun q=>q) n 20 Has.z (Kept.of rfl KT.z KM.z) ⟨Nat.le_refl _,fun i hi=>getD_ge (by omega)⟩ 85 (by kernel_rfl) ?_
      rintro q ⟨q1,q2⟩
      obtain ⟨W2,hW2⟩:∃ W,dOf 18446744073709551616 w'=W:=⟨_,rfl⟩
      have hA:a=dv o+10^k*(c+10^(19-0)*W2):=by rw [h7,← t4,hW2,Nat.mul_comm W2,Nat.add_comm c]
      have hWc:0<W2∨0<c:=by
       rw [← t4,hW2] at hW; omega
      obtain ⟨q9,hq9⟩:∃ q9,q9+1=q+1:=⟨q,rfl⟩
      cases q with
      | zero =>
        have hW0:W2=0:=by rw [← hW2,← dOf_trim q2]; rfl
        simp only [oV,oM,oNum]
        simp only [go_sem,Nat.succ_pos,Nat.lt_irrefl]
        refine trX_loopV HE hP.mix (fun y:T3=>iL [4,0] (some (false,true)) y.j) (fun y=>⟨upd (upd (upd (upd (upd (fun _=>.junk) 2 (.str ⟨#[]⟩)) 3 (.sl 4 0 (0) 1)) 4 (iV (some (false,true)) y.j y.k)) 5 (.int .u64 (y.r:Int))) 6 (.int .i64 (y.i:Int)),iM .u8 (upd (upd (fun _=>.unused) 0 (.live [.opq (.nat a),.pad])) 4 (.live (List.map (fun d:Nat=>AV.int .u64 (d:Int)) (w'++tl)))) (some (false,true)) y.j o y.o,85⟩)
         (fun y=>y.i≤19∧y.o.length=y.k∧byt y.o∧y.r<10^(19-y.i)∧a=dv y.o+10^y.k*(y.r+10^(19-y.i)*W2)∧(W2=0→y.r=0→Canon (y.o.map (·-48)))∧(y.j=none→y.o=o∧y.k=k∧y.i=0∧(0<W2∨0<y.r))) (fun y=>20-y.i) ⟨none,0,c,k,o⟩ (fun y=>iX (some (false,true)) 17 y.j)
         (fun x r hr=>iL_has (k:=.u8) (l:=o) Has.z (some (false,true)) x.j r hr) (Kept.of rfl KT.z KM.z) ⟨by simp,h2,h6,t3,hA,fun e1 e2=>absurd hWc (by have e1:W2=0:=e1; have e2:c=0:=e2; omega),fun _=>⟨rfl,rfl,rfl,hWc⟩⟩ 85 (by kernel_rfl) ?_
        rintro ⟨j,i,r,k',o'⟩ ⟨s1,s2,s3,s4,s5,s6,s7⟩
        simp only [] at s1 s2 s3 s4 s5 s6 s7
        have hpw:i<19→10^(19-i)=10*10^(19-(i+1)):=fun h=>by rw [show 19-i=19-(i+1)+1 by omega,Nat.pow_succ,Nat.mul_comm]
        have hm:(r:Int).tmod 10=((r % 10:Nat):Int):=rfl
        have hrb:r<18446744073709551616:=Nat.lt_of_lt_of_le s4 (Nat.le_trans (Nat.pow_le_pow_right (by decide) (show 19-i≤19 by omega)) (by decide))
        have hdv:IntKind.u64.wrap ((r:Int).tdiv 10)=((r / 10:Nat):Int):=wu_div r 10 hrb
        have hu8:=u8_dig r
        have hwi:=wi_add1 i (by omega)
        have hq0':0<q9+1:=Nat.succ_pos q9
        by_cases hi:i<19
        · by_cases hr:0<r
          · have hgo:1≤r+10^(19-i)*W2:=by omega
            have hkb:k'+1≤1099511627776:=by
             have h1:10^k'*1≤10^k'*(r+10^(19-i)*W2):=Nat.mul_le_mul_left _ hgo
             have h2:2^k'≤10^k':=Nat.pow_le_pow_left (by decide) _
             have h3:=blen_lt a
             have h4:k'<blen a:=(Nat.pow_lt_pow_iff_right (a:=2) (by decide)).1 (by omega)
             omega
            have hst:∀ o'':List Nat,o''=o'++[48+r % 10]→o''.length=k'+1∧byt o''∧r / 10<10^(19-(i+1))∧a=dv o''+10^(k'+1)*(r / 10+10^(19-(i+1))*W2)∧(W2=0→r / 10=0→Canon (o''.map (·-48))):=fun o'' ho=>by
             subst ho
             refine ⟨by simp [s2],byt_snoc s3 r,by have:=hpw hi; omega,?_,fun e1 e2=>snoc_canon _ _ ?_⟩
             · rw [dv_snoc,s2,Nat.pow_succ]
               rw [hpw hi,Nat.mul_assoc] at s5
               exact dig_step s5
             · rw [e1,Nat.mul_zero,Nat.add_zero] at hgo
               omega
            rcases j with _|_|_
            · obtain ⟨e1,e2,_,_⟩:=s7 rfl
              subst e1
              subst e2
              simp only [iV,iM,oV,oM,oNum,iX,iP,gM]
              simp only [go_sem,hi,hr,hm,hdv,hu8,hwi,hkb,map_snoc,hq0']
              first
               | (have h9':=h9 rfl
                  obtain ⟨ho,hk⟩:=h9'
                  subst ho
                  subst hk
                  obtain ⟨z1,z2,z3,z4,z5⟩:=hst [48+r % 10] rfl
                  exact ⟨by decide,⟨by simp,fun _=>trivial⟩,by decide,⟨some false,i+1,r / 10,1,[48+r % 10]⟩,Kept.of rfl KT.z KM.z,⟨by simp only []; omega,z1,z2,z3,z4,z5,fun e=>by simp at e⟩,by simp only []; omega⟩)
               | (obtain ⟨z1,z2,z3,z4,z5⟩:=hst (o'++[48+r % 10]) rfl
                  exact ⟨by decide,⟨s2,by simp,fun _=>trivial⟩,by decide,⟨some false,i+1,r / 10,k'+1,o'++[48+r % 10]⟩,Kept.of rfl KT.z KM.z,⟨by simp only []; omega,z1,z2,z3,z4,z5,fun e=>by simp at e⟩,by simp only []; omega⟩)
            · simp only [iV,iM,oV,oM,oNum,iX,iP,gM]
              simp only [go_sem,hi,hr,hm,hdv,hu8,hwi,hkb,map_snoc,hq0']
              obtain ⟨z1,z2,z3,z4,z5⟩:=hst (o'++[48+r % 10]) rfl
              exact ⟨by decide,⟨s2,by simp,fun _=>trivial⟩,by decide,⟨some true,i+1,r / 10,k'+1,o'++[48+r % 10]⟩,Kept.of rfl KT.z KM.z,⟨by simp only []; omega,z1,z2,z3,z4,z5,fun e=>by simp at e⟩,by simp only []; omega⟩
            · simp only [iV,iM,oV,oM,oNum,iX,iP,gM]
              simp only [go_sem,hi,hr,hm,hdv,hu8,hwi,hkb,map_snoc,hq0']
              obtain ⟨z1,z2,z3,z4,z5⟩:=hst (o'++[48+r % 10]) rfl
              exact ⟨by decide,⟨s2,by simp,fun _=>trivial⟩,by decide,⟨some false,i+1,r / 10,k'+1,o'++[48+r % 10]⟩,Kept.of rfl KT.z KM.z,⟨by simp only []; omega,z1,z2,z3,z4,z5,fun e=>by simp at e⟩,by simp only []; omega⟩
          · have hr0:r=0:=by omega
            have hsp:w'++tl=w'.take (0)++(w'.drop (0)++tl):=by rw [← List.append_assoc,List.take_append_drop]
            have hdt:dOf 18446744073709551616 (w'.take (0))=W2:=(dOf_trim q2).trans hW2
            have hW2lt:W2<dOf 18446744073709551616 w:=by rw [hW2] at t4; omega
            have hend:a=dv o'+10^k'*dOf 18446744073709551616 (w'.take (0)):=by
             rw [hdt,s5,hr0,Nat.zero_add]
             first
              | (rw [show 19-i=0 by omega,Nat.pow_zero,Nat.one_mul])
              | (rw [hW0,Nat.mul_zero])
            have hcn:w'.take (0)=[]→Canon (o'.map (·-48)):=fun e=>s6 (by rw [← hdt,e]; rfl) hr0
            have htl:(0)+(w'.drop (0)++tl).length=x.length:=by rw [List.length_append,List.length_drop]; omega
            have hct:Canon (w'.take (0)):=by
             first
              | (exact canon_take (by omega) hzn)
              | (intro h; exact absurd rfl h)
            have hlt:(w'.take (0)).length=0:=by rw [List.length_take]; omega
            rcases j with _|_|_
            · obtain ⟨_,_,e3,e4⟩:=s7 rfl
              first
               | omega
               | (exfalso; omega)
            · simp only [iV,iM,oV,oM,oNum,iP,gM]
              simp only [go_sem,hi,hr,Nat.lt_irrefl]
              rw [hsp]
              exact ⟨⟨0,w'.take (0),w'.drop (0)++tl,some (iP (some (false,true)) false),k',o'⟩,Kept.of rfl KT.z KM.z,⟨hlt,s2,fun d hd=>t2 d (List.mem_of_mem_take hd),hct,htl,s3,hend,hcn,fun e=>by simp at e⟩,by simp only []; rw [hdt]; exact hW2lt⟩
            · simp only [iV,iM,oV,oM,oNum,iP,gM]
              simp only [go_sem,hi,hr,Nat.lt_irrefl]
              rw [hsp]
              exact ⟨⟨0,w'.take (0),w'.drop (0)++tl,some (iP (some (false,true)) true),k',o'⟩,Kept.of rfl KT.z KM.z,⟨hlt,s2,fun d hd=>t2 d (List.mem_of_mem_take hd),hct,htl,s3,hend,hcn,fun e=>by simp at e⟩,by simp only []; rw [hdt]; exact hW2lt⟩
        · have hr0:r=0:=by
           rw [show 19-i=0 by omega] at s4; omega
          have hsp:w'++tl=w'.take (0)++(w'.drop (0)++tl):=by rw [← List.append_assoc,List.take_append_drop]
          have hdt:dOf 18446744073709551616 (w'.take (0))=W2:=(dOf_trim q2).trans hW2
          have hW2lt:W2<dOf 18446744073709551616 w:=by rw [hW2] at t4; omega
          have hend:a=dv o'+10^k'*dOf 18446744073709551616 (w'.take (0)):=by
           rw [hdt,s5,hr0,Nat.zero_add]
           first
            | (rw [show 19-i=0 by omega,Nat.pow_zero,Nat.one_mul])
            | (rw [hW0,Nat.mul_zero])
          have hcn:w'.take (0)=[]→Canon (o'.map (·-48)):=fun e=>s6 (by rw [← hdt,e]; rfl) hr0
          have htl:(0)+(w'.drop (0)++tl).length=x.length:=by rw [List.length_append,List.length_drop]; omega
          have hct:Canon (w'.take (0)):=by
           first
            | (exact canon_take (by omega) hzn)
            | (intro h; exact absurd rfl h)
          have hlt:(w'.take (0)).length=0:=by rw [List.length_take]; omega
          rcases j with _|_|_
          · obtain ⟨_,_,e3,e4⟩:=s7 rfl
            first
             | omega
             | (exfalso; omega)
          · simp only [iV,iM,oV,oM,oNum,iP,gM]
            simp only [go_sem,hi]
            rw [hsp]
            exact ⟨⟨0,w'.take (0),w'.drop (0)++tl,some (iP (some (false,true)) false),k',o'⟩,Kept.of rfl KT.z KM.z,⟨hlt,s2,fun d hd=>t2 d (List.mem_of_mem_take hd),hct,htl,s3,hend,hcn,fun e=>by simp at e⟩,by simp only []; rw [hdt]; exact hW2lt⟩
          · simp only [iV,iM,oV,oM,oNum,iP,gM]
            simp only [go_sem,hi]
            rw [hsp]
            exact ⟨⟨0,w'.take (0),w'.drop (0)++tl,some (iP (some (false,true)) true),k',o'⟩,Kept.of rfl KT.z KM.z,⟨hlt,s2,fun d hd=>t2 d (List.mem_of_mem_take hd),hct,htl,s3,hend,hcn,fun e=>by simp at e⟩,by simp only []; rw [hdt]; exact hW2lt⟩
      | succ q =>
        have hql:q<w'.length:=by omega
        have hqg:q<(w'++tl).length:=by rw [List.length_append]; omega
        have hqn:q<w'.length+tl.length:=by omega
        have hgt:(w'++tl).getD q 0=w'.getD q 0:=getD_left hql
        have hqi:=wi_nat q (by omega)
        have hq1:q<q+1:=by omega
        have hq2:q≤q+1:=by omega
        have hq3:q≤w'.length+tl.length:=by omega
        rcases (by cases (w'.getD q 0 == 0)<;>simp:(w'.getD q 0 == 0)=true∨(w'.getD q 0 == 0)=false) with hz|hz
        · simp only [oV,oM,oNum]
          simp only [go_sem,Nat.succ_pos,hqi,hq1,hqg,hqn,gU hqg,hgt,hz,hq2,hq3]
          exact ⟨by simp,q,Kept.of rfl KT.z KM.z,⟨by omega,fun i hi=>by
           rcases Nat.eq_or_lt_of_le hi with rfl|hi
           · simpa using hz
           · exact q2 i hi⟩,by omega⟩
        · have hzn:w'.getD q 0 ≠ 0:=by simpa using hz
          have hW0:0<W2:=by
           rw [← hW2]; exact dOf_pos hql hzn
          simp only [oV,oM,oNum]
          simp only [go_sem,Nat.succ_pos,hqi,hq1,hqg,hqn,gU hqg,hgt,hz]
          refine trX_loopV HE hP.mix (fun y:T3=>iL [4,0] (some (false,true)) y.j) (fun y=>⟨upd (upd (upd (upd (upd (fun _=>.junk) 2 (.str ⟨#[]⟩)) 3 (.sl 4 0 (q+1) 1)) 4 (iV (some (false,true)) y.j y.k)) 5 (.int .u64 (y.r:Int))) 6 (.int .i64 (y.i:Int)),iM .u8 (upd (upd (fun _=>.unused) 0 (.live [.opq (.nat a),.pad])) 4 (.live (List.map (fun d:Nat=>AV.int .u64 (d:Int)) (w'++tl)))) (some (false,true)) y.j o y.o,85⟩)
           (fun y=>y.i≤19∧y.o.length=y.k∧byt y.o∧y.r<10^(19-y.i)∧a=dv y.o+10^y.k*(y.r+10^(19-y.i)*W2)∧(W2=0→y.r=0→Canon (y.o.map (·-48)))∧(y.j=none→y.o=o∧y.k=k∧y.i=0∧(0<W2∨0<y.r))) (fun y=>20-y.i) ⟨none,0,c,k,o⟩ (fun y=>iX (some (false,true)) 15 y.j)
           (fun x r hr=>iL_has (k:=.u8) (l:=o) Has.z (some (false,true)) x.j r hr) (Kept.of rfl KT.z KM.z) ⟨by simp,h2,h6,t3,hA,fun e1 e2=>absurd hWc (by have e1:W2=0:=e1; have e2:c=0:=e2; omega),fun _=>⟨rfl,rfl,rfl,hWc⟩⟩ 85 (by kernel_rfl) ?_
          rintro ⟨j,i,r,k',o'⟩ ⟨s1,s2,s3,s4,s5,s6,s7⟩
          simp only [] at s1 s2 s3 s4 s5 s6 s7
          have hpw:i<19→10^(19-i)=10*10^(19-(i+1)):=fun h=>by rw [show 19-i=19-(i+1)+1 by omega,Nat.pow_succ,Nat.mul_comm]
          have hm:(r:Int).tmod 10=((r % 10:Nat):Int):=rfl
          have hrb:r<18446744073709551616:=Nat.lt_of_lt_of_le s4 (Nat.le_trans (Nat.pow_le_pow_right (by decide) (show 19-i≤19 by omega)) (by decide))
          have hdv:IntKind.u64.wrap ((r:Int).tdiv 10)=((r / 10:Nat):Int):=wu_div r 10 hrb
          have hu8:=u8_dig r
          have hwi:=wi_add1 i (by omega)
          have hq0':0<q9+1:=Nat.succ_pos q9
          have hq0:0<q+1:=Nat.succ_pos q
          by_cases hi:i<19
          · have hgo:1≤r+10^(19-i)*W2:=by
             have:=Nat.mul_pos (Nat.pow_pos (show 0<10 by decide) (n:=19-i)) hW0
             omega
            have hr:=hq0
            have hkb:k'+1≤1099511627776:=by
             have h1:10^k'*1≤10^k'*(r+10^(19-i)*W2):=Nat.mul_le_mul_left _ hgo
             have h2:2^k'≤10^k':=Nat.pow_le_pow_left (by decide) _
             have h3:=blen_lt a
             have h4:k'<blen a:=(Nat.pow_lt_pow_iff_right (a:=2) (by decide)).1 (by omega)
             omega
            have hst:∀ o'':List Nat,o''=o'++[48+r % 10]→o''.length=k'+1∧byt o''∧r / 10<10^(19-(i+1))∧a=dv o''+10^(k'+1)*(r / 10+10^(19-(i+1))*W2)∧(W2=0→r / 10=0→Canon (o''.map (·-48))):=fun o'' ho=>by
             subst ho
             refine ⟨by simp [s2],byt_snoc s3 r,by have:=hpw hi; omega,?_,fun e1 e2=>snoc_canon _ _ ?_⟩
             · rw [dv_snoc,s2,Nat.pow_succ]
               rw [hpw hi,Nat.mul_assoc] at s5
               exact dig_step s5
             · rw [e1,Nat.mul_zero,Nat.add_zero] at hgo
               omega
            rcases j with _|_|_
            · obtain ⟨e1,e2,_,_⟩:=s7 rfl
              subst e1
              subst e2
              simp only [iV,iM,oV,oM,oNum,iX,iP,gM]
              simp only [go_sem,hi,hr,hm,hdv,hu8,hwi,hkb,map_snoc,hq0']
              first
               | (have h9':=h9 rfl
                  obtain ⟨ho,hk⟩:=h9'
                  subst ho
                  subst hk
                  obtain ⟨z1,z2,z3,z4,z5⟩:=hst [48+r % 10] rfl
                  exact ⟨by decide,⟨by simp,fun _=>trivial⟩,by decide,⟨some false,i+1,r / 10,1,[48+r % 10]⟩,Kept.of rfl KT.z KM.z,⟨by simp only []; omega,z1,z2,z3,z4,z5,fun e=>by simp at e⟩,by simp only []; omega⟩)
               | (obtain ⟨z1,z2,z3,z4,z5⟩:=hst (o'++[48+r % 10]) rfl
                  exact ⟨by decide,⟨s2,by simp,fun _=>trivial⟩,by decide,⟨some false,i+1,r / 10,k'+1,o'++[48+r % 10]⟩,Kept.of rfl KT.z KM.z,⟨by simp only []; omega,z1,z2,z3,z4,z5,fun e=>by simp at e⟩,by simp only []; omega⟩)
            · simp only [iV,iM,oV,oM,oNum,iX,iP,gM]
              simp only [go_sem,hi,hr,hm,hdv,hu8,hwi,hkb,map_snoc,hq0']
              obtain ⟨z1,z2,z3,z4,z5⟩:=hst (o'++[48+r % 10]) rfl
              exact ⟨by decide,⟨s2,by simp,fun _=>trivial⟩,by decide,⟨some true,i+1,r / 10,k'+1,o'++[48+r % 10]⟩,Kept.of rfl KT.z KM.z,⟨by simp only []; omega,z1,z2,z3,z4,z5,fun e=>by simp at e⟩,by simp only []; omega⟩
            · simp only [iV,iM,oV,oM,oNum,iX,iP,gM]
              simp only [go_sem,hi,hr,hm,hdv,hu8,hwi,hkb,map_snoc,hq0']
              obtain ⟨z1,z2,z3,z4,z5⟩:=hst (o'++[48+r % 10]) rfl
              exact ⟨by decide,⟨s2,by simp,fun _=>trivial⟩,by decide,⟨some false,i+1,r / 10,k'+1,o'++[48+r % 10]⟩,Kept.of rfl KT.z KM.z,⟨by simp only []; omega,z1,z2,z3,z4,z5,fun e=>by simp at e⟩,by simp only []; omega⟩
          · have hr0:r=0:=by
             rw [show 19-i=0 by omega] at s4; omega
            have hsp:w'++tl=w'.take (q+1)++(w'.drop (q+1)++tl):=by rw [← List.append_assoc,List.take_append_drop]
            have hdt:dOf 18446744073709551616 (w'.take (q+1))=W2:=(dOf_trim q2).trans hW2
            have hW2lt:W2<dOf 18446744073709551616 w:=by rw [hW2] at t4; omega
            have hend:a=dv o'+10^k'*dOf 18446744073709551616 (w'.take (q+1)):=by
             rw [hdt,s5,hr0,Nat.zero_add]
             first
              | (rw [show 19-i=0 by omega,Nat.pow_zero,Nat.one_mul])
              | (rw [hW0,Nat.mul_zero])
            have hcn:w'.take (q+1)=[]→Canon (o'.map (·-48)):=fun e=>s6 (by rw [← hdt,e]; rfl) hr0
            have htl:(q+1)+(w'.drop (q+1)++tl).length=x.length:=by rw [List.length_append,List.length_drop]; omega
            have hct:Canon (w'.take (q+1)):=by
             first
              | (exact canon_take (by omega) hzn)
              | (intro h; exact absurd rfl h)
            have hlt:(w'.take (q+1)).length=q+1:=by rw [List.length_take]; omega
            rcases j with _|_|_
            · obtain ⟨_,_,e3,e4⟩:=s7 rfl
              first
               | omega
               | (exfalso; omega)
            · simp only [iV,iM,oV,oM,oNum,iP,gM]
              simp only [go_sem,hi]
              rw [hsp]
              exact ⟨⟨q+1,w'.take (q+1),w'.drop (q+1)++tl,some (iP (some (false,true)) false),k',o'⟩,Kept.of rfl KT.z KM.z,⟨hlt,s2,fun d hd=>t2 d (List.mem_of_mem_take hd),hct,htl,s3,hend,hcn,fun e=>by simp at e⟩,by simp only []; rw [hdt]; exact hW2lt⟩
            · simp only [iV,iM,oV,oM,oNum,iP,gM]
              simp only [go_sem,hi]
              rw [hsp]
              exact ⟨⟨q+1,w'.take (q+1),w'.drop (q+1)++tl,some (iP (some (false,true)) true),k',o'⟩,Kept.of rfl KT.z KM.z,⟨hlt,s2,fun d hd=>t2 d (List.mem_of_mem_take hd),hct,htl,s3,hend,hcn,fun e=>by simp at e⟩,by simp only []; rw [hdt]; exact hW2lt⟩
     ·
      simp only [oV,oM,oNum]
      simp only [go_sem,hn]
      refine short_ic hP (L:=[130,4,0]) (y:=10000000000000000000) (by repeat (first|exact GenM.nil|refine GenM.upd ?_ rfl (by first|rfl|exact objOnly_U))) rfl rfl h1 (by omega) h3 (by decide) (by decide) ?_
      intro nx w' c t1 t2 t3 t4
      simp only [go_sem]
      refine trX_loop HE hP.mix [130,4,0] (fun q:Nat=>⟨upd (upd (upd (upd (fun _=>.junk) 2 (.str ⟨#[]⟩)) 3 (.sl 4 0 q 1)) 4 (oV (some (true,false)) k)) 5 (.int .u64 (c:Int)),oM .u8 (upd (upd (fun _=>.unused) 0 (.live [.opq (.nat a),.pad])) 4 (.live (List.map (fun d:Nat=>AV.int .u64 (d:Int)) (w'++tl)))) (some (true,false)) o,85⟩)
       (fun q=>q≤n∧∀ i,q≤i→w'.getD i 0=0) (fun q=>q) n 20 Has.z (Kept.of rfl KT.z KM.z) ⟨Nat.le_refl _,fun i hi=>getD_ge (by omega)⟩ 85 (by kernel_rfl) ?_
      rintro q ⟨q1,q2⟩
      obtain ⟨W2,hW2⟩:∃ W,dOf 18446744073709551616 w'=W:=⟨_,rfl⟩
      have hA:a=dv o+10^k*(c+10^(19-0)*W2):=by rw [h7,← t4,hW2,Nat.mul_comm W2,Nat.add_comm c]
      have hWc:0<W2∨0<c:=by
       rw [← t4,hW2] at hW; omega
      obtain ⟨q9,hq9⟩:∃ q9,q9+1=q+1:=⟨q,rfl⟩
      cases q with
      | zero =>
        have hW0:W2=0:=by rw [← hW2,← dOf_trim q2]; rfl
        simp only [oV,oM,oNum]
        simp only [go_sem,Nat.succ_pos,Nat.lt_irrefl]
        refine trX_loopV HE hP.mix (fun y:T3=>iL [4,0] (some (true,false)) y.j) (fun y=>⟨upd (upd (upd (upd (upd (fun _=>.junk) 2 (.str ⟨#[]⟩)) 3 (.sl 4 0 (0) 1)) 4 (iV (some (true,false)) y.j y.k)) 5 (.int .u64 (y.r:Int))) 6 (.int .i64 (y.i:Int)),iM .u8 (upd (upd (fun _=>.unused) 0 (.live [.opq (.nat a),.pad])) 4 (.live (List.map (fun d:Nat=>AV.int .u64 (d:Int)) (w'++tl)))) (some (true,false)) y.j o y.o,85⟩)
         (fun y=>y.i≤19∧y.o.length=y.k∧byt y.o∧y.r<10^(19-y.i)∧a=dv y.o+10^y.k*(y.r+10^(19-y.i)*W2)∧(W2=0→y.r=0→Canon (y.o.map (·-48)))∧(y.j=none→y.o=o∧y.k=k∧y.i=0∧(0<W2∨0<y.r))) (fun y=>20-y.i) ⟨none,0,c,k,o⟩ (fun y=>iX (some (true,false)) 17 y.j)
         (fun x r hr=>iL_has (k:=.u8) (l:=o) Has.z (some (true,false)) x.j r hr) (Kept.of rfl KT.z KM.z) ⟨by simp,h2,h6,t3,hA,fun e1 e2=>absurd hWc (by have e1:W2=0:=e1; have e2:c=0:=e2; omega),fun _=>⟨rfl,rfl,rfl,hWc⟩⟩ 85 (by kernel_rfl) ?_
        rintro ⟨j,i,r,k',o'⟩ ⟨s1,s2,s3,s4,s5,s6,s7⟩
        simp only [] at s1 s2 s3 s4 s5 s6 s7
        have hpw:i<19→10^(19-i)=10*10^(19-(i+1)):=fun h=>by rw [show 19-i=19-(i+1)+1 by omega,Nat.pow_succ,Nat.mul_comm]
        have hm:(r:Int).tmod 10=((r % 10:Nat):Int):=rfl
        have hrb:r<18446744073709551616:=Nat.lt_of_lt_of_le s4 (Nat.le_trans (Nat.pow_le_pow_right (by decide) (show 19-i≤19 by omega)) (by decide))
        have hdv:IntKind.u64.wrap ((r:Int).tdiv 10)=((r / 10:Nat):Int):=wu_div r 10 hrb
        have hu8:=u8_dig r
        have hwi:=wi_add1 i (by omega)
        have hq0':0<q9+1:=Nat.succ_pos q9
        by_cases hi:i<19
        · by_cases hr:0<r
          · have hgo:1≤r+10^(19-i)*W2:=by omega
            have hkb:k'+1≤1099511627776:=by
             have h1:10^k'*1≤10^k'*(r+10^(19-i)*W2):=Nat.mul_le_mul_left _ hgo
             have h2:2^k'≤10^k':=Nat.pow_le_pow_left (by decide) _
             have h3:=blen_lt a
             have h4:k'<blen a:=(Nat.pow_lt_pow_iff_right (a:=2) (by decide)).1 (by omega)
             omega
            have hst:∀ o'':List Nat,o''=o'++[48+r % 10]→o''.length=k'+1∧byt o''∧r / 10<10^(19-(i+1))∧a=dv o''+10^(k'+1)*(r / 10+10^(19-(i+1))*W2)∧(W2=0→r / 10=0→Canon (o''.map (·-48))):=fun o'' ho=>by
             subst ho
             refine ⟨by simp [s2],byt_snoc s3 r,by have:=hpw hi; omega,?_,fun e1 e2=>snoc_canon _ _ ?_⟩
             · rw [dv_snoc,s2,Nat.pow_succ]
               rw [hpw hi,Nat.mul_assoc] at s5
               exact dig_step s5
             · rw [e1,Nat.mul_zero,Nat.add_zero] at hgo
               omega
            rcases j with _|_|_
            · obtain ⟨e1,e2,_,_⟩:=s7 rfl
              subst e1
              subst e2
              simp only [iV,iM,oV,oM,oNum,iX,iP,gM]
              simp only [go_sem,hi,hr,hm,hdv,hu8,hwi,hkb,map_snoc,hq0']
              first
               | (have h9':=h9 rfl
                  obtain ⟨ho,hk⟩:=h9'
                  subst ho
                  subst hk
                  obtain ⟨z1,z2,z3,z4,z5⟩:=hst [48+r % 10] rfl
                  exact ⟨by decide,⟨by simp,fun _=>trivial⟩,by decide,⟨some false,i+1,r / 10,1,[48+r % 10]⟩,Kept.of rfl KT.z KM.z,⟨by simp only []; omega,z1,z2,z3,z4,z5,fun e=>by simp at e⟩,by simp only []; omega⟩)
               | (obtain ⟨z1,z2,z3,z4,z5⟩:=hst (o'++[48+r % 10]) rfl
                  exact ⟨by decide,⟨s2,by simp,fun _=>trivial⟩,by decide,⟨some false,i+1,r / 10,k'+1,o'++[48+r % 10]⟩,Kept.of rfl KT.z KM.z,⟨by simp only []; omega,z1,z2,z3,z4,z5,fun e=>by simp at e⟩,by simp only []; omega⟩)
            · simp only [iV,iM,oV,oM,oNum,iX,iP,gM]
              simp only [go_sem,hi,hr,hm,hdv,hu8,hwi,hkb,map_snoc,hq0']
              obtain ⟨z1,z2,z3,z4,z5⟩:=hst (o'++[48+r % 10]) rfl
              exact ⟨by decide,⟨s2,by simp,fun _=>trivial⟩,by decide,⟨some true,i+1,r / 10,k'+1,o'++[48+r % 10]⟩,Kept.of rfl KT.z KM.z,⟨by simp only []; omega,z1,z2,z3,z4,z5,fun e=>by simp at e⟩,by simp only []; omega⟩
            · simp only [iV,iM,oV,oM,oNum,iX,iP,gM]
              simp only [go_sem,hi,hr,hm,hdv,hu8,hwi,hkb,map_snoc,hq0']
              obtain ⟨z1,z2,z3,z4,z5⟩:=hst (o'++[48+r % 10]) rfl
              exact ⟨by decide,⟨s2,by simp,fun _=>trivial⟩,by decide,⟨some false,i+1,r / 10,k'+1,o'++[48+r % 10]⟩,Kept.of rfl KT.z KM.z,⟨by simp only []; omega,z1,z2,z3,z4,z5,fun e=>by simp at e⟩,by simp only []; omega⟩
          · have hr0:r=0:=by omega
            have hsp:w'++tl=w'.take (0)++(w'.drop (0)++tl):=by rw [← List.append_assoc,List.take_append_drop]
            have hdt:dOf 18446744073709551616 (w'.take (0))=W2:=(dOf_trim q2).trans hW2
            have hW2lt:W2<dOf 18446744073709551616 w:=by rw [hW2] at t4; omega
            have hend:a=dv o'+10^k'*dOf 18446744073709551616 (w'.take (0)):=by
             rw [hdt,s5,hr0,Nat.zero_add]
             first
              | (rw [show 19-i=0 by omega,Nat.pow_zero,Nat.one_mul])
              | (rw [hW0,Nat.mul_zero])
            have hcn:w'.take (0)=[]→Canon (o'.map (·-48)):=fun e=>s6 (by rw [← hdt,e]; rfl) hr0
            have htl:(0)+(w'.drop (0)++tl).length=x.length:=by rw [List.length_append,List.length_drop]; omega
            have hct:Canon (w'.take (0)):=by
             first
              | (exact canon_take (by omega) hzn)
              | (intro h; exact absurd rfl h)
            have hlt:(w'.take (0)).length=0:=by rw [List.length_take]; omega
            rcases j with _|_|_
            · obtain ⟨_,_,e3,e4⟩:=s7 rfl
              first
               | omega
               | (exfalso; omega)
            · simp only [iV,iM,oV,oM,oNum,iP,gM]
              simp only [go_sem,hi,hr,Nat.lt_irrefl]
              rw [hsp]
              exact ⟨⟨0,w'.take (0),w'.drop (0)++tl,some (iP (some (true,false)) false),k',o'⟩,Kept.of rfl KT.z KM.z,⟨hlt,s2,fun d hd=>t2 d (List.mem_of_mem_take hd),hct,htl,s3,hend,hcn,fun e=>by simp at e⟩,by simp only []; rw [hdt]; exact hW2lt⟩
            · simp only [iV,iM,oV,oM,oNum,iP,gM]
              simp only [go_sem,hi,hr,Nat.lt_irrefl]
              rw [hsp]
              exact ⟨⟨0,w'.take (0),w'.drop (0)++tl,some (iP (some (true,false)) true),k',o'⟩,Kept.of rfl KT.z KM.z,⟨hlt,s2,fun d hd=>t2 d (List.mem_of_mem_take hd),hct,htl,s3,hend,hcn,fun e=>by simp at e⟩,by simp only []; rw [hdt]; exact hW2lt⟩
        · have hr0:r=0:=by
           rw [show 19-i=0 by omega] at s4; omega
          have hsp:w'++tl=w'.take (0)++(w'.drop (0)++tl):=by rw [← List.append_assoc,List.take_append_drop]
          have hdt:dOf 18446744073709551616 (w'.take (0))=W2:=(dOf_trim q2).trans hW2
          have hW2lt:W2<dOf 18446744073709551616 w:=by rw [hW2] at t4; omega
          have hend:a=dv o'+10^k'*dOf 18446744073709551616 (w'.take (0)):=by
           rw [hdt,s5,hr0,Nat.zero_add]
           first
            | (rw [show 19-i=0 by omega,Nat.pow_zero,Nat.one_mul])
            | (rw [hW0,Nat.mul_zero])
          have hcn:w'.take (0)=[]→Canon (o'.map (·-48)):=fun e=>s6 (by rw [← hdt,e]; rfl) hr0
          have htl:(0)+(w'.drop (0)++tl).length=x.length:=by rw [List.length_append,List.length_drop]; omega
          have hct:Canon (w'.take (0)):=by
           first
            | (exact canon_take (by omega) hzn)
            | (intro h; exact absurd rfl h)
          have hlt:(w'.take (0)).length=0:=by rw [List.length_take]; omega
          rcases j with _|_|_
          · obtain ⟨_,_,e3,e4⟩:=s7 rfl
            first
             | omega
             | (exfalso; omega)
          · simp only [iV,iM,oV,oM,oNum,iP,gM]
            simp only [go_sem,hi]
            rw [hsp]
            exact ⟨⟨0,w'.take (0),w'.drop (0)++tl,some (iP (some (true,false)) false),k',o'⟩,Kept.of rfl KT.z KM.z,⟨hlt,s2,fun d hd=>t2 d (List.mem_of_mem_take hd),hct,htl,s3,hend,hcn,fun e=>by simp at e⟩,by simp only []; rw [hdt]; exact hW2lt⟩
          · simp only [iV,iM,oV,oM,oNum,iP,gM]
            simp only [go_sem,hi]
            rw [hsp]
            exact ⟨⟨0,w'.take (0),w'.drop (0)++tl,some (iP (some (true,false)) true),k',o'⟩,Kept.of rfl KT.z KM.z,⟨hlt,s2,fun d hd=>t2 d (List.mem_of_mem_take hd),hct,htl,s3,hend,hcn,fun e=>by simp at e⟩,by simp only []; rw [hdt]; exact hW2lt⟩
      | succ q =>
        have hql:q<w'.length:=by omega
        have hqg:q<(w'++tl).length:=by rw [List.length_append]; omega
        have hqn:q<w'.length+tl.length:=by omega
        have hgt:(w'++tl).getD q 0=w'.getD q 0:=getD_left hql
        have hqi:=wi_nat q (by omega)
        have hq1:q<q+1:=by omega
        have hq2:q≤q+1:=by omega
        have hq3:q≤w'.length+tl.length:=by omega
        rcases (by cases (w'.getD q 0 == 0)<;>simp:(w'.getD q 0 == 0)=true∨(w'.getD q 0 == 0)=false) with hz|hz
        · simp only [oV,oM,oNum]
          simp only [go_sem,Nat.succ_pos,hqi,hq1,hqg,hqn,gU hqg,hgt,hz,hq2,hq3]
          exact ⟨by simp,q,Kept.of rfl KT.z KM.z,⟨by omega,fun i hi=>by
           rcases Nat.eq_or_lt_of_le hi with rfl|hi
           · simpa using hz
           · exact q2 i hi⟩,by omega⟩
        · have hzn:w'.getD q 0 ≠ 0:=by simpa using hz
          have hW0:0<W2:=by
           rw [← hW2]; exact dOf_pos hql hzn
          simp only [oV,oM,oNum]
          simp only [go_sem,Nat.succ_pos,hqi,hq1,hqg,hqn,gU hqg,hgt,hz]
          refine trX_loopV HE hP.mix (fun y:T3=>iL [4,0] (some (true,false)) y.j) (fun y=>⟨upd (upd (upd (upd (upd (fun _=>.junk) 2 (.str ⟨#[]⟩)) 3 (.sl 4 0 (q+1) 1)) 4 (iV (some (true,false)) y.j y.k)) 5 (.int .u64 (y.r:Int))) 6 (.int .i64 (y.i:Int)),iM .u8 (upd (upd (fun _=>.unused) 0 (.live [.opq (.nat a),.pad])) 4 (.live (List.map (fun d:Nat=>AV.int .u64 (d:Int)) (w'++tl)))) (some (true,false)) y.j o y.o,85⟩)
           (fun y=>y.i≤19∧y.o.length=y.k∧byt y.o∧y.r<10^(19-y.i)∧a=dv y.o+10^y.k*(y.r+10^(19-y.i)*W2)∧(W2=0→y.r=0→Canon (y.o.map (·-48)))∧(y.j=none→y.o=o∧y.k=k∧y.i=0∧(0<W2∨0<y.r))) (fun y=>20-y.i) ⟨none,0,c,k,o⟩ (fun y=>iX (some (true,false)) 15 y.j)
           (fun x r hr=>iL_has (k:=.u8) (l:=o) Has.z (some (true,false)) x.j r hr) (Kept.of rfl KT.z KM.z) ⟨by simp,h2,h6,t3,hA,fun e1 e2=>absurd hWc (by have e1:W2=0:=e1; have e2:c=0:=e2; omega),fun _=>⟨rfl,rfl,rfl,hWc⟩⟩ 85 (by kernel_rfl) ?_
          rintro ⟨j,i,r,k',o'⟩ ⟨s1,s2,s3,s4,s5,s6,s7⟩
          simp only [] at s1 s2 s3 s4 s5 s6 s7
          have hpw:i<19→10^(19-i)=10*10^(19-(i+1)):=fun h=>by rw [show 19-i=19-(i+1)+1 by omega,Nat.pow_succ,Nat.mul_comm]
          have hm:(r:Int).tmod 10=((r % 10:Nat):Int):=rfl
          have hrb:r<18446744073709551616:=Nat.lt_of_lt_of_le s4 (Nat.le_trans (Nat.pow_le_pow_right (by decide) (show 19-i≤19 by omega)) (by decide))
          have hdv:IntKind.u64.wrap ((r:Int).tdiv 10)=((r / 10:Nat):Int):=wu_div r 10 hrb
          have hu8:=u8_dig r
          have hwi:=wi_add1 i (by omega)
          have hq0':0<q9+1:=Nat.succ_pos q9
          have hq0:0<q+1:=Nat.succ_pos q
          by_cases hi:i<19
          · have hgo:1≤r+10^(19-i)*W2:=by
             have:=Nat.mul_pos (Nat.pow_pos (show 0<10 by decide) (n:=19-i)) hW0
             omega
            have hr:=hq0
            have hkb:k'+1≤1099511627776:=by
             have h1:10^k'*1≤10^k'*(r+10^(19-i)*W2):=Nat.mul_le_mul_left _ hgo
             have h2:2^k'≤10^k':=Nat.pow_le_pow_left (by decide) _
             have h3:=blen_lt a
             have h4:k'<blen a:=(Nat.pow_lt_pow_iff_right (a:=2) (by decide)).1 (by omega)
             omega
            have hst:∀ o'':List Nat,o''=o'++[48+r % 10]→o''.length=k'+1∧byt o''∧r / 10<10^(19-(i+1))∧a=dv o''+10^(k'+1)*(r / 10+10^(19-(i+1))*W2)∧(W2=0→r / 10=0→Canon (o''.map (·-48))):=fun o'' ho=>by
             subst ho
             refine ⟨by simp [s2],byt_snoc s3 r,by have:=hpw hi; omega,?_,fun e1 e2=>snoc_canon _ _ ?_⟩
             · rw [dv_snoc,s2,Nat.pow_succ]
               rw [hpw hi,Nat.mul_assoc] at s5
               exact dig_step s5
             · rw [e1,Nat.mul_zero,Nat.add_zero] at hgo
               omega
            rcases j with _|_|_
            · obtain ⟨e1,e2,_,_⟩:=s7 rfl
              subst e1
              subst e2
              simp only [iV,iM,oV,oM,oNum,iX,iP,gM]
              simp only [go_sem,hi,hr,hm,hdv,hu8,hwi,hkb,map_snoc,hq0']
              first
               | (have h9':=h9 rfl
                  obtain ⟨ho,hk⟩:=h9'
                  subst ho
                  subst hk
                  obtain ⟨z1,z2,z3,z4,z5⟩:=hst [48+r % 10] rfl
                  exact ⟨by decide,⟨by simp,fun _=>trivial⟩,by decide,⟨some false,i+1,r / 10,1,[48+r % 10]⟩,Kept.of rfl KT.z KM.z,⟨by simp only []; omega,z1,z2,z3,z4,z5,fun e=>by simp at e⟩,by simp only []; omega⟩)
               | (obtain ⟨z1,z2,z3,z4,z5⟩:=hst (o'++[48+r % 10]) rfl
                  exact ⟨by decide,⟨s2,by simp,fun _=>trivial⟩,by decide,⟨some false,i+1,r / 10,k'+1,o'++[48+r % 10]⟩,Kept.of rfl KT.z KM.z,⟨by simp only []; omega,z1,z2,z3,z4,z5,fun e=>by simp at e⟩,by simp only []; omega⟩)
            · simp only [iV,iM,oV,oM,oNum,iX,iP,gM]
              simp only [go_sem,hi,hr,hm,hdv,hu8,hwi,hkb,map_snoc,hq0']
              obtain ⟨z1,z2,z3,z4,z5⟩:=hst (o'++[48+r % 10]) rfl
              exact ⟨by decide,⟨s2,by simp,fun _=>trivial⟩,by decide,⟨some true,i+1,r / 10,k'+1,o'++[48+r % 10]⟩,Kept.of rfl KT.z KM.z,⟨by simp only []; omega,z1,z2,z3,z4,z5,fun e=>by simp at e⟩,by simp only []; omega⟩
            · simp only [iV,iM,oV,oM,oNum,iX,iP,gM]
              simp only [go_sem,hi,hr,hm,hdv,hu8,hwi,hkb,map_snoc,hq0']
              obtain ⟨z1,z2,z3,z4,z5⟩:=hst (o'++[48+r % 10]) rfl
              exact ⟨by decide,⟨s2,by simp,fun _=>trivial⟩,by decide,⟨some false,i+1,r / 10,k'+1,o'++[48+r % 10]⟩,Kept.of rfl KT.z KM.z,⟨by simp only []; omega,z1,z2,z3,z4,z5,fun e=>by simp at e⟩,by simp only []; omega⟩
          · have hr0:r=0:=by
             rw [show 19-i=0 by omega] at s4; omega
            have hsp:w'++tl=w'.take (q+1)++(w'.drop (q+1)++tl):=by rw [← List.append_assoc,List.take_append_drop]
            have hdt:dOf 18446744073709551616 (w'.take (q+1))=W2:=(dOf_trim q2).trans hW2
            have hW2lt:W2<dOf 18446744073709551616 w:=by rw [hW2] at t4; omega
            have hend:a=dv o'+10^k'*dOf 18446744073709551616 (w'.take (q+1)):=by
             rw [hdt,s5,hr0,Nat.zero_add]
             first
              | (rw [show 19-i=0 by omega,Nat.pow_zero,Nat.one_mul])
              | (rw [hW0,Nat.mul_zero])
            have hcn:w'.take (q+1)=[]→Canon (o'.map (·-48)):=fun e=>s6 (by rw [← hdt,e]; rfl) hr0
            have htl:(q+1)+(w'.drop (q+1)++tl).length=x.length:=by rw [List.length_append,List.length_drop]; omega
            have hct:Canon (w'.take (q+1)):=by
             first
              | (exact canon_take (by omega) hzn)
              | (intro h; exact absurd rfl h)
            have hlt:(w'.take (q+1)).length=q+1:=by rw [List.length_take]; omega
            rcases j with _|_|_
            · obtain ⟨_,_,e3,e4⟩:=s7 rfl
              first
               | omega
               | (exfalso; omega)
            · simp only [iV,iM,oV,oM,oNum,iP,gM]
              simp only [go_sem,hi]
              rw [hsp]
              exact ⟨⟨q+1,w'.take (q+1),w'.drop (q+1)++tl,some (iP (some (true,false)) false),k',o'⟩,Kept.of rfl KT.z KM.z,⟨hlt,s2,fun d hd=>t2 d (List.mem_of_mem_take hd),hct,htl,s3,hend,hcn,fun e=>by simp at e⟩,by simp only []; rw [hdt]; exact hW2lt⟩
            · simp only [iV,iM,oV,oM,oNum,iP,gM]
              simp only [go_sem,hi]
              rw [hsp]
              exact ⟨⟨q+1,w'.take (q+1),w'.drop (q+1)++tl,some (iP (some (true,false)) true),k',o'⟩,Kept.of rfl KT.z KM.z,⟨hlt,s2,fun d hd=>t2 d (List.mem_of_mem_take hd),hct,htl,s3,hend,hcn,fun e=>by simp at e⟩,by simp only []; rw [hdt]; exact hW2lt⟩
     ·
      simp only [oV,oM,oNum]
      simp only [go_sem,hn]
      refine short_ic hP (L:=[140,4,0]) (y:=10000000000000000000) (by repeat (first|exact GenM.nil|refine GenM.upd ?_ rfl (by first|rfl|exact objOnly_U))) rfl rfl h1 (by omega) h3 (by decide) (by decide) ?_
      intro nx w' c t1 t2 t3 t4
      simp only [go_sem]
      refine trX_loop HE hP.mix [140,4,0] (fun q:Nat=>⟨upd (upd (upd (upd (fun _=>.junk) 2 (.str ⟨#[]⟩)) 3 (.sl 4 0 q 1)) 4 (oV (some (true,true)) k)) 5 (.int .u64 (c:Int)),oM .u8 (upd (upd (fun _=>.unused) 0 (.live [.opq (.nat a),.pad])) 4 (.live (List.map (fun d:Nat=>AV.int .u64 (d:Int)) (w'++tl)))) (some (true,true)) o,85⟩)
       (fun q=>q≤n∧∀ i,q≤i→w'.getD i 0=0) (fun q=>q) n 20 Has.z (Kept.of rfl KT.z KM.z) ⟨Nat.le_refl _,fun i hi=>getD_ge (by omega)⟩ 85 (by kernel_rfl) ?_
      rintro q ⟨q1,q2⟩
      obtain ⟨W2,hW2⟩:∃ W,dOf 18446744073709551616 w'=W:=⟨_,rfl⟩
      have hA:a=dv o+10^k*(c+10^(19-0)*W2):=by rw [h7,← t4,hW2,Nat.mul_comm W2,Nat.add_comm c]
      have hWc:0<W2∨0<c:=by
       rw [← t4,hW2] at hW; omega
      obtain ⟨q9,hq9⟩:∃ q9,q9+1=q+1:=⟨q,rfl⟩
      cases q with
      | zero =>
        have hW0:W2=0:=by rw [← hW2,← dOf_trim q2]; rfl
        simp only [oV,oM,oNum]
        simp only [go_sem,Nat.succ_pos,Nat.lt_irrefl]
        refine trX_loopV HE hP.mix (fun y:T3=>iL [4,0] (some (true,true)) y.j) (fun y=>⟨upd (upd (upd (upd (upd (fun _=>.junk) 2 (.str ⟨#[]⟩)) 3 (.sl 4 0 (0) 1)) 4 (iV (some (true,true)) y.j y.k)) 5 (.int .u64 (y.r:Int))) 6 (.int .i64 (y.i:Int)),iM .u8 (upd (upd (fun _=>.unused) 0 (.live [.opq (.nat a),.pad])) 4 (.live (List.map (fun d:Nat=>AV.int .u64 (d:Int)) (w'++tl)))) (some (true,true)) y.j o y.o,85⟩)
         (fun y=>y.i≤19∧y.o.length=y.k∧byt y.o∧y.r<10^(19-y.i)∧a=dv y.o+10^y.k*(y.r+10^(19-y.i)*W2)∧(W2=0→y.r=0→Canon (y.o.map (·-48)))∧(y.j=none→y.o=o∧y.k=k∧y.i=0∧(0<W2∨0<y.r))) (fun y=>20-y.i) ⟨none,0,c,k,o⟩ (fun y=>iX (some (true,true)) 17 y.j)
         (fun x r hr=>iL_has (k:=.u8) (l:=o) Has.z (some (true,true)) x.j r hr) (Kept.of rfl KT.z KM.z) ⟨by simp,h2,h6,t3,hA,fun e1 e2=>absurd hWc (by have e1:W2=0:=e1; have e2:c=0:=e2; omega),fun _=>⟨rfl,rfl,rfl,hWc⟩⟩ 85 (by kernel_rfl) ?_
        rintro ⟨j,i,r,k',o'⟩ ⟨s1,s2,s3,s4,s5,s6,s7⟩
        simp only [] at s1 s2 s3 s4 s5 s6 s7
        have hpw:i<19→10^(19-i)=10*10^(19-(i+1)):=fun h=>by rw [show 19-i=19-(i+1)+1 by omega,Nat.pow_succ,Nat.mul_comm]
        have hm:(r:Int).tmod 10=((r % 10:Nat):Int):=rfl
        have hrb:r<18446744073709551616:=Nat.lt_of_lt_of_le s4 (Nat.le_trans (Nat.pow_le_pow_right (by decide) (show 19-i≤19 by omega)) (by decide))
        have hdv:IntKind.u64.wrap ((r:Int).tdiv 10)=((r / 10:Nat):Int):=wu_div r 10 hrb
        have hu8:=u8_dig r
        have hwi:=wi_add1 i (by omega)
        have hq0':0<q9+1:=Nat.succ_pos q9
        by_cases hi:i<19
        · by_cases hr:0<r
          · have hgo:1≤r+10^(19-i)*W2:=by omega
            have hkb:k'+1≤1099511627776:=by
             have h1:10^k'*1≤10^k'*(r+10^(19-i)*W2):=Nat.mul_le_mul_left _ hgo
             have h2:2^k'≤10^k':=Nat.pow_le_pow_left (by decide) _
             have h3:=blen_lt a
             have h4:k'<blen a:=(Nat.pow_lt_pow_iff_right (a:=2) (by decide)).1 (by omega)
             omega
            have hst:∀ o'':List Nat,o''=o'++[48+r % 10]→o''.length=k'+1∧byt o''∧r / 10<10^(19-(i+1))∧a=dv o''+10^(k'+1)*(r / 10+10^(19-(i+1))*W2)∧(W2=0→r / 10=0→Canon (o''.map (·-48))):=fun o'' ho=>by
             subst ho
             refine ⟨by simp [s2],byt_snoc s3 r,by have:=hpw hi; omega,?_,fun e1 e2=>snoc_canon _ _ ?_⟩
             · rw [dv_snoc,s2,Nat.pow_succ]
               rw [hpw hi,Nat.mul_assoc] at s5
               exact dig_step s5
             · rw [e1,Nat.mul_zero,Nat.add_zero] at hgo
               omega
            rcases j with _|_|_
            · obtain ⟨e1,e2,_,_⟩:=s7 rfl
              subst e1
              subst e2
              simp only [iV,iM,oV,oM,oNum,iX,iP,gM]
              simp only [go_sem,hi,hr,hm,hdv,hu8,hwi,hkb,map_snoc,hq0']
              first
               | (have h9':=h9 rfl
                  obtain ⟨ho,hk⟩:=h9'
                  subst ho
                  subst hk
                  obtain ⟨z1,z2,z3,z4,z5⟩:=hst [48+r % 10] rfl
                  exact ⟨by decide,⟨by simp,fun _=>trivial⟩,by decide,⟨some false,i+1,r / 10,1,[48+r % 10]⟩,Kept.of rfl KT.z KM.z,⟨by simp only []; omega,z1,z2,z3,z4,z5,fun e=>by simp at e⟩,by simp only []; omega⟩)
               | (obtain ⟨z1,z2,z3,z4,z5⟩:=hst (o'++[48+r % 10]) rfl
                  exact ⟨by decide,⟨s2,by simp,fun _=>trivial⟩,by decide,⟨some false,i+1,r / 10,k'+1,o'++[48+r % 10]⟩,Kept.of rfl KT.z KM.z,⟨by simp only []; omega,z1,z2,z3,z4,z5,fun e=>by simp at e⟩,by simp only []; omega⟩)
            · simp only [iV,iM,oV,oM,oNum,iX,iP,gM]
              simp only [go_sem,hi,hr,hm,hdv,hu8,hwi,hkb,map_snoc,hq0']
              obtain ⟨z1,z2,z3,z4,z5⟩:=hst (o'++[48+r % 10]) rfl
              exact ⟨by decide,⟨s2,by simp,fun _=>trivial⟩,by decide,⟨some true,i+1,r / 10,k'+1,o'++[48+r % 10]⟩,Kept.of rfl KT.z KM.z,⟨by simp only []; omega,z1,z2,z3,z4,z5,fun e=>by simp at e⟩,by simp only []; omega⟩
            · simp only [iV,iM,oV,oM,oNum,iX,iP,gM]
              simp only [go_sem,hi,hr,hm,hdv,hu8,hwi,hkb,map_snoc,hq0']
              obtain ⟨z1,z2,z3,z4,z5⟩:=hst (o'++[48+r % 10]) rfl
              exact ⟨by decide,⟨s2,by simp,fun _=>trivial⟩,by decide,⟨some false,i+1,r / 10,k'+1,o'++[48+r % 10]⟩,Kept.of rfl KT.z KM.z,⟨by simp only []; omega,z1,z2,z3,z4,z5,fun e=>by simp at e⟩,by simp only []; omega⟩
          · have hr0:r=0:=by omega
            have hsp:w'++tl=w'.take (0)++(w'.drop (0)++tl):=by rw [← List.append_assoc,List.take_append_drop]
            have hdt:dOf 18446744073709551616 (w'.take (0))=W2:=(dOf_trim q2).trans hW2
            have hW2lt:W2<dOf 18446744073709551616 w:=by rw [hW2] at t4; omega
            have hend:a=dv o'+10^k'*dOf 18446744073709551616 (w'.take (0)):=by
             rw [hdt,s5,hr0,Nat.zero_add]
             first
              | (rw [show 19-i=0 by omega,Nat.pow_zero,Nat.one_mul])
              | (rw [hW0,Nat.mul_zero])
            have hcn:w'.take (0)=[]→Canon (o'.map (·-48)):=fun e=>s6 (by rw [← hdt,e]; rfl) hr0
            have htl:(0)+(w'.drop (0)++tl).length=x.length:=by rw [List.length_append,List.length_drop]; omega
            have hct:Canon (w'.take (0)):=by
             first
              | (exact canon_take (by omega) hzn)
              | (intro h; exact absurd rfl h)
            have hlt:(w'.take (0)).length=0:=by rw [List.length_take]; omega
            rcases j with _|_|_
            · obtain ⟨_,_,e3,e4⟩:=s7 rfl
              first
               | omega
               | (exfalso; omega)
            · simp only [iV,iM,oV,oM,oNum,iP,gM]
              simp only [go_sem,hi,hr,Nat.lt_irrefl]
              rw [hsp]
              exact ⟨⟨0,w'.take (0),w'.drop (0)++tl,some (iP (some (true,true)) false),k',o'⟩,Kept.of rfl KT.z KM.z,⟨hlt,s2,fun d hd=>t2 d (List.mem_of_mem_take hd),hct,htl,s3,hend,hcn,fun e=>by simp at e⟩,by simp only []; rw [hdt]; exact hW2lt⟩
            · simp only [iV,iM,oV,oM,oNum,iP,gM]
              simp only [go_sem,hi,hr,Nat.lt_irrefl]
              rw [hsp]
              exact ⟨⟨0,w'.take (0),w'.drop (0)++tl,some (iP (some (true,true)) true),k',o'⟩,Kept.of rfl KT.z KM.z,⟨hlt,s2,fun d hd=>t2 d (List.mem_of_mem_take hd),hct,htl,s3,hend,hcn,fun e=>by simp at e⟩,by simp only []; rw [hdt]; exact hW2lt⟩
        · have hr0:r=0:=by
           rw [show 19-i=0 by omega] at s4; omega
          have hsp:w'++tl=w'.take (0)++(w'.drop (0)++tl):=by rw [← List.append_assoc,List.take_append_drop]
          have hdt:dOf 18446744073709551616 (w'.take (0))=W2:=(dOf_trim q2).trans hW2
          have hW2lt:W2<dOf 18446744073709551616 w:=by rw [hW2] at t4; omega
          have hend:a=dv o'+10^k'*dOf 18446744073709551616 (w'.take (0)):=by
           rw [hdt,s5,hr0,Nat.zero_add]
           first
            | (rw [show 19-i=0 by omega,Nat.pow_zero,Nat.one_mul])
            | (rw [hW0,Nat.mul_zero])
          have hcn:w'.take (0)=[]→Canon (o'.map (·-48)):=fun e=>s6 (by rw [← hdt,e]; rfl) hr0
          have htl:(0)+(w'.drop (0)++tl).length=x.length:=by rw [List.length_append,List.length_drop]; omega
          have hct:Canon (w'.take (0)):=by
           first
            | (exact canon_take (by omega) hzn)
            | (intro h; exact absurd rfl h)
          have hlt:(w'.take (0)).length=0:=by rw [List.length_take]; omega
          rcases j with _|_|_
          · obtain ⟨_,_,e3,e4⟩:=s7 rfl
            first
             | omega
             | (exfalso; omega)
          · simp only [iV,iM,oV,oM,oNum,iP,gM]
            simp only [go_sem,hi]
            rw [hsp]
            exact ⟨⟨0,w'.take (0),w'.drop (0)++tl,some (iP (some (true,true)) false),k',o'⟩,Kept.of rfl KT.z KM.z,⟨hlt,s2,fun d hd=>t2 d (List.mem_of_mem_take hd),hct,htl,s3,hend,hcn,fun e=>by simp at e⟩,by simp only []; rw [hdt]; exact hW2lt⟩
          · simp only [iV,iM,oV,oM,oNum,iP,gM]
            simp only [go_sem,hi]
            rw [hsp]
            exact ⟨⟨0,w'.take (0),w'.drop (0)++tl,some (iP (some (true,true)) true),k',o'⟩,Kept.of rfl KT.z KM.z,⟨hlt,s2,fun d hd=>t2 d (List.mem_of_mem_take hd),hct,htl,s3,hend,hcn,fun e=>by simp at e⟩,by simp only []; rw [hdt]; exact hW2lt⟩
      | succ q =>
        have hql:q<w'.length:=by omega
        have hqg:q<(w'++tl).length:=by rw [List.length_append]; omega
        have hqn:q<w'.length+tl.length:=by omega
        have hgt:(w'++tl).getD q 0=w'.getD q 0:=getD_left hql
        have hqi:=wi_nat q (by omega)
        have hq1:q<q+1:=by omega
        have hq2:q≤q+1:=by omega
        have hq3:q≤w'.length+tl.length:=by omega
        rcases (by cases (w'.getD q 0 == 0)<;>simp:(w'.getD q 0 == 0)=true∨(w'.getD q 0 == 0)=false) with hz|hz
        · simp only [oV,oM,oNum]
          simp only [go_sem,Nat.succ_pos,hqi,hq1,hqg,hqn,gU hqg,hgt,hz,hq2,hq3]
          exact ⟨by simp,q,Kept.of rfl KT.z KM.z,⟨by omega,fun i hi=>by
           rcases Nat.eq_or_lt_of_le hi with rfl|hi
           · simpa using hz
           · exact q2 i hi⟩,by omega⟩
        · have hzn:w'.getD q 0 ≠ 0:=by simpa using hz
          have hW0:0<W2:=by
           rw [← hW2]; exact dOf_pos hql hzn
          simp only [oV,oM,oNum]
          simp only [go_sem,Nat.succ_pos,hqi,hq1,hqg,hqn,gU hqg,hgt,hz]
          refine trX_loopV HE hP.mix (fun y:T3=>iL [4,0] (some (true,true)) y.j) (fun y=>⟨upd (upd (upd (upd (upd (fun _=>.junk) 2 (.str ⟨#[]⟩)) 3 (.sl 4 0 (q+1) 1)) 4 (iV (some (true,true)) y.j y.k)) 5 (.int .u64 (y.r:Int))) 6 (.int .i64 (y.i:Int)),iM .u8 (upd (upd (fun _=>.unused) 0 (.live [.opq (.nat a),.pad])) 4 (.live (List.map (fun d:Nat=>AV.int .u64 (d:Int)) (w'++tl)))) (some (true,true)) y.j o y.o,85⟩)
           (fun y=>y.i≤19∧y.o.length=y.k∧byt y.o∧y.r<10^(19-y.i)∧a=dv y.o+10^y.k*(y.r+10^(19-y.i)*W2)∧(W2=0→y.r=0→Canon (y.o.map (·-48)))∧(y.j=none→y.o=o∧y.k=k∧y.i=0∧(0<W2∨0<y.r))) (fun y=>20-y.i) ⟨none,0,c,k,o⟩ (fun y=>iX (some (true,true)) 15 y.j)
           (fun x r hr=>iL_has (k:=.u8) (l:=o) Has.z (some (true,true)) x.j r hr) (Kept.of rfl KT.z KM.z) ⟨by simp,h2,h6,t3,hA,fun e1 e2=>absurd hWc (by have e1:W2=0:=e1; have e2:c=0:=e2; omega),fun _=>⟨rfl,rfl,rfl,hWc⟩⟩ 85 (by kernel_rfl) ?_
          rintro ⟨j,i,r,k',o'⟩ ⟨s1,s2,s3,s4,s5,s6,s7⟩
          simp only [] at s1 s2 s3 s4 s5 s6 s7
          have hpw:i<19→10^(19-i)=10*10^(19-(i+1)):=fun h=>by rw [show 19-i=19-(i+1)+1 by omega,Nat.pow_succ,Nat.mul_comm]
          have hm:(r:Int).tmod 10=((r % 10:Nat):Int):=rfl
          have hrb:r<18446744073709551616:=Nat.lt_of_lt_of_le s4 (Nat.le_trans (Nat.pow_le_pow_right (by decide) (show 19-i≤19 by omega)) (by decide))
          have hdv:IntKind.u64.wrap ((r:Int).tdiv 10)=((r / 10:Nat):Int):=wu_div r 10 hrb
          have hu8:=u8_dig r
          have hwi:=wi_add1 i (by omega)
          have hq0':0<q9+1:=Nat.succ_pos q9
          have hq0:0<q+1:=Nat.succ_pos q
          by_cases hi:i<19
          · have hgo:1≤r+10^(19-i)*W2:=by
             have:=Nat.mul_pos (Nat.pow_pos (show 0<10 by decide) (n:=19-i)) hW0
             omega
            have hr:=hq0
            have hkb:k'+1≤1099511627776:=by
             have h1:10^k'*1≤10^k'*(r+10^(19-i)*W2):=Nat.mul_le_mul_left _ hgo
             have h2:2^k'≤10^k':=Nat.pow_le_pow_left (by decide) _
             have h3:=blen_lt a
             have h4:k'<blen a:=(Nat.pow_lt_pow_iff_right (a:=2) (by decide)).1 (by omega)
             omega
            have hst:∀ o'':List Nat,o''=o'++[48+r % 10]→o''.length=k'+1∧byt o''∧r / 10<10^(19-(i+1))∧a=dv o''+10^(k'+1)*(r / 10+10^(19-(i+1))*W2)∧(W2=0→r / 10=0→Canon (o''.map (·-48))):=fun o'' ho=>by
             subst ho
             refine ⟨by simp [s2],byt_snoc s3 r,by have:=hpw hi; omega,?_,fun e1 e2=>snoc_canon _ _ ?_⟩
             · rw [dv_snoc,s2,Nat.pow_succ]
               rw [hpw hi,Nat.mul_assoc] at s5
               exact dig_step s5
             · rw [e1,Nat.mul_zero,Nat.add_zero] at hgo
               omega
            rcases j with _|_|_
            · obtain ⟨e1,e2,_,_⟩:=s7 rfl
              subst e1
              subst e2
              simp only [iV,iM,oV,oM,oNum,iX,iP,gM]
              simp only [go_sem,hi,hr,hm,hdv,hu8,hwi,hkb,map_snoc,hq0']
              first
               | (have h9':=h9 rfl
                  obtain ⟨ho,hk⟩:=h9'
                  subst ho
                  subst hk
                  obtain ⟨z1,z2,z3,z4,z5⟩:=hst [48+r % 10] rfl
                  exact ⟨by decide,⟨by simp,fun _=>trivial⟩,by decide,⟨some false,i+1,r / 10,1,[48+r % 10]⟩,Kept.of rfl KT.z KM.z,⟨by simp only []; omega,z1,z2,z3,z4,z5,fun e=>by simp at e⟩,by simp only []; omega⟩)
               | (obtain ⟨z1,z2,z3,z4,z5⟩:=hst (o'++[48+r % 10]) rfl
                  exact ⟨by decide,⟨s2,by simp,fun _=>trivial⟩,by decide,⟨some false,i+1,r / 10,k'+1,o'++[48+r % 10]⟩,Kept.of rfl KT.z KM.z,⟨by simp only []; omega,z1,z2,z3,z4,z5,fun e=>by simp at e⟩,by simp only []; omega⟩)
            · simp only [iV,iM,oV,oM,oNum,iX,iP,gM]
              simp only [go_sem,hi,hr,hm,hdv,hu8,hwi,hkb,map_snoc,hq0']
              obtain ⟨z1,z2,z3,z4,z5⟩:=hst (o'++[48+r % 10]) rfl
              exact ⟨by decide,⟨s2,by simp,fun _=>trivial⟩,by decide,⟨some true,i+1,r / 10,k'+1,o'++[48+r % 10]⟩,Kept.of rfl KT.z KM.z,⟨by simp only []; omega,z1,z2,z3,z4,z5,fun e=>by simp at e⟩,by simp only []; omega⟩
            · simp only [iV,iM,oV,oM,oNum,iX,iP,gM]
              simp only [go_sem,hi,hr,hm,hdv,hu8,hwi,hkb,map_snoc,hq0']
              obtain ⟨z1,z2,z3,z4,z5⟩:=hst (o'++[48+r % 10]) rfl
              exact ⟨by decide,⟨s2,by simp,fun _=>trivial⟩,by decide,⟨some false,i+1,r / 10,k'+1,o'++[48+r % 10]⟩,Kept.of rfl KT.z KM.z,⟨by simp only []; omega,z1,z2,z3,z4,z5,fun e=>by simp at e⟩,by simp only []; omega⟩
          · have hr0:r=0:=by
             rw [show 19-i=0 by omega] at s4; omega
            have hsp:w'++tl=w'.take (q+1)++(w'.drop (q+1)++tl):=by rw [← List.append_assoc,List.take_append_drop]
            have hdt:dOf 18446744073709551616 (w'.take (q+1))=W2:=(dOf_trim q2).trans hW2
            have hW2lt:W2<dOf 18446744073709551616 w:=by rw [hW2] at t4; omega
            have hend:a=dv o'+10^k'*dOf 18446744073709551616 (w'.take (q+1)):=by
             rw [hdt,s5,hr0,Nat.zero_add]
             first
              | (rw [show 19-i=0 by omega,Nat.pow_zero,Nat.one_mul])
              | (rw [hW0,Nat.mul_zero])
            have hcn:w'.take (q+1)=[]→Canon (o'.map (·-48)):=fun e=>s6 (by rw [← hdt,e]; rfl) hr0
            have htl:(q+1)+(w'.drop (q+1)++tl).length=x.length:=by rw [List.length_append,List.length_drop]; omega
            have hct:Canon (w'.take (q+1)):=by
             first
              | (exact canon_take (by omega) hzn)
              | (intro h; exact absurd rfl h)
            have hlt:(w'.take (q+1)).length=q+1:=by rw [List.length_take]; omega
            rcases j with _|_|_
            · obtain ⟨_,_,e3,e4⟩:=s7 rfl
              first
               | omega
               | (exfalso; omega)
            · simp only [iV,iM,oV,oM,oNum,iP,gM]
              simp only [go_sem,hi]
              rw [hsp]
              exact ⟨⟨q+1,w'.take (q+1),w'.drop (q+1)++tl,some (iP (some (true,true)) false),k',o'⟩,Kept.of rfl KT.z KM.z,⟨hlt,s2,fun d hd=>t2 d (List.mem_of_mem_take hd),hct,htl,s3,hend,hcn,fun e=>by simp at e⟩,by simp only []; rw [hdt]; exact hW2lt⟩
            · simp only [iV,iM,oV,oM,oNum,iP,gM]
              simp only [go_sem,hi]
              rw [hsp]
              exact ⟨⟨q+1,w'.take (q+1),w'.drop (q+1)++tl,some (iP (some (true,true)) true),k',o'⟩,Kept.of rfl KT.z KM.z,⟨hlt,s2,fun d hd=>t2 d (List.mem_of_mem_take hd),hct,htl,s3,hend,hcn,fun e=>by simp at e⟩,by simp only []; rw [hdt]; exact hW2lt⟩
   · have hn0:n=0:=by omega
     have hw0:w=[]:=List.length_eq_zero_iff.1 (by omega)
     subst hw0
     have hao:a=dv o:=by rw [h7]; simp [dOf]
     have hon:0<k:=by
      rcases Nat.eq_zero_or_pos k with hk|hk
      · have:o=[]:=List.length_eq_zero_iff.1 (by omega)
        rw [this] at hao; simp [dv,dOf] at hao; omega
      · exact hk
     have hdl:=text_end h6 hao (h8 rfl) h0
     have hkb:k≤1099511627776:=by
      have e:=congrArg List.length hdl
      unfold decL dec10 at e
      rw [if_neg (by omega),List.length_reverse,List.length_map,List.length_reverse,h2] at e
      have h1:=digs_length_le 10 a (blen a) (by decide) (Nat.lt_of_lt_of_le (blen_lt a) (Nat.pow_le_pow_left (by decide) _))
      omega
     rcases D with _|p
     · have:=h9 rfl; omega
     ·
      obtain ⟨nm,hnm,hn0',hn4'⟩:∃ nm,oNum p=nm∧nm ≠ 0∧nm ≠ 4:=⟨_,rfl,by rcases p with ⟨_|_,_|_⟩<;>simp [oNum],by rcases p with ⟨_|_,_|_⟩<;>simp [oNum]⟩
      have hna:(nm == 0)=false:=by simpa using hn0'
      have hnb:(nm == 4)=false:=by simpa using hn4'
      have hnc:(0 == nm)=false:=by simpa using Ne.symm hn0'
      have hnd:(4 == nm)=false:=by simpa using Ne.symm hn4'
      have hr:[nm,4,0].contains nm=true:=by simp
      have hg:∀ z:List Nat,GenM [nm,4,0] (upd (upd (upd (fun _=>.unused) 0 (.live [.opq (.nat a),.pad])) 4 (.live (List.map (fun d:Nat=>AV.int .u64 (d:Int)) (tl)))) nm (.live (z.map fun d:Nat=>AV.int .u8 (d:Int)))):=fun z=>((GenM.nil.upd (by simp) rfl).upd (by simp) objOnly_U).upd hr objOnly_U
      simp only [oV,oM,hnm]
      have hk1:IntKind.i64.wrap ((k:Int)-1)=((k-1-0:Nat):Int):=by rw [IntKind.wrap_i64]; omega
      simp only [go_sem,hn,hk1,hna,hnb,hnc,hnd]
      refine trX_loop HE hP.mix [nm,4,0] (fun q:Nat × List Nat=>⟨upd (upd (upd (upd (fun _=>.junk) 2 (.str ⟨#[]⟩)) 4 (.sl nm 0 k 1)) 7 (.int .i64 (q.1:Int))) 8 (.int .i64 ((k-1-q.1:Nat):Int)),upd (upd (upd (fun _=>.unused) 0 (.live [.opq (.nat a),.pad])) 4 (.live (List.map (fun d:Nat=>AV.int .u64 (d:Int)) (tl)))) nm (.live (q.2.map fun d:Nat=>AV.int .u8 (d:Int))),85⟩)
       (fun q=>q.1≤k-1∧q.2.length=k∧∀ t,t<k→q.2.getD t 0=if t<q.1∨k-1-q.1<t then o.getD (k-1-t) 0 else o.getD t 0) (fun q=>k-q.1) (0,o) 20
       (by exact (hg o).1) (Kept.of rfl KT.z (by exact KM.gen (hg o))) ⟨by simp,h2,fun t ht=>by rw [if_neg (by omega)]⟩ 85 (by kernel_rfl) ?_
      rintro ⟨i,z⟩ ⟨q1,q2,q3⟩
      simp only [] at q1 q2 q3
      by_cases hi:i<k-1-i
      · have x1:i<k:=by omega
        have x2:k-1-i<k:=by omega
        have x3:i<z.length:=by omega
        have x4:k-1-i<z.length:=by omega
        have x5:=wi_add1 i (by omega)
        have x6:IntKind.i64.wrap (((k-1-i:Nat):Int)-1)=((k-1-(i+1):Nat):Int):=by rw [IntKind.wrap_i64]; omega
        have x7:i<(z.set (k-1-i) (z.getD i 0)).length:=by rw [List.length_set]; exact x3
        have x8:k-1-i<(z.set i (z.getD (k-1-i) 0)).length:=by rw [List.length_set]; exact x4
        simp only [go_sem,hi,x1,x2,x3,x4,x5,x6,x7,x8,gU x3,gU x4,gU x8,upd_upd,hna,hnb,hnc,hnd]
        refine ⟨(i+1,(z.set i (z.getD (k-1-i) 0)).set (k-1-i) (z.getD i 0)),Kept.of rfl KT.z (KM.gen (hg _)),⟨by simp only []; omega,by simp only [List.length_set]; exact q2,fun t ht=>?_⟩,by simp only []; omega⟩
        simp only []
        by_cases e1:t=k-1-i
        · rw [e1,getD_set_eq _ _ _ x8,q3 i x1,if_neg (by omega),if_pos (.inr (by omega))]; congr 1; omega
        · rw [getD_set_ne _ _ _ _ (Ne.symm e1)]
          by_cases e2:t=i
          · rw [e2,getD_set_eq _ _ _ x3,q3 _ x2,if_neg (by omega),if_pos (.inl (by omega))]
          · rw [getD_set_ne _ _ _ _ (Ne.symm e2),q3 t ht]
            by_cases e3:t<i∨k-1-i<t
            · rw [if_pos e3,if_pos (by omega)]
            · rw [if_neg e3,if_neg (by omega)]
      · have hz:z=o.reverse:=by
         refine List.ext_getElem? fun t=>?_
         by_cases ht:t<k
         · have:=q3 t ht
           rw [List.getElem?_reverse (by omega),h2]
           have e:z.getD t 0=o.getD (k-1-t) 0:=by
            rw [this]; split
            · rfl
            · congr 1; omega
           rw [List.getElem?_eq_getElem (show t<z.length by omega),List.getElem?_eq_getElem (show k-1-t<o.length by omega),← getD_get (by omega),← getD_get (by omega),e]
         · rw [List.getElem?_eq_none (by omega),List.getElem?_eq_none (by rw [List.length_reverse]; omega)]
        have hzt:z.take k=z:=List.take_of_length_le (by omega)
        have hbb:∀ l:List Nat,(l.map fun d:Nat=>AV.int .u8 (d:Int)).all isB=true:=fun l=>by rw [List.all_map]; simp [isB]
        simp only [go_sem,hi,hzt,q2,hbb,hna,hnb,hnc,hnd]
        rw [hz,← hdl]
        exact .refl _
def TextS:List AV→Option (Prop × AV):=on1 fun a=>(blen a≤68719476736,.str (decS a))
theorem TextS_ok (hP:PrgOk P) (args p r):TextS args=some (p,r)→p→CSpec P 116 args r:=on1_ok (fun a h=>by exact Text_spec hP a h) args p r
attribute [go_sem] TextS
end Go.Proofs.YtmahhmdeocnlgaaGreatDoor.AM
