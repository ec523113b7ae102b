/- Package nat: the text of a number. -/
import Derived.Test.YtmahhmdeocnlgaaB4
namespace Go.Proofs.Ytmahhmdeocnlgaa.AM
set_option linter.all false
set_option autoImplicit true
set_option relaxedAutoImplicit true
open Go Go.Proofs
set_option maxRecDepth 100000
set_option maxHeartbeats 8000000
set_option linter.unusedSimpArgs false
variable {P:Program}
theorem strM_sl2 (T:Nat→Option TyD) (m:Nat→AObj) (e b b' z z' sz sz' r off n k):strM T m ⟨.slice e,sz,b,z⟩ ⟨.string,sz',b',z'⟩ (.sl r off n k)=if isU8 (T e)=true then (objCells (m r)).map fun cs=>(Cut cs off n∧k=1∧((cs.drop off).take n).all isB=true,.str (bytesS ((cs.drop off).take n))) else none:=rfl
attribute [go_sem] strM_sl2
abbrev OD:=Option (Bool × Bool)
def oNum:Bool × Bool→Nat
 | (false,false)=>110
 | (false,true)=>120
 | (true,false)=>130
 | (true,true)=>140
def oV:OD→Nat→AV
 | none,_=>.nils
 | some p,n=>.sl (oNum p) 0 n 1
def oM (k:IntKind) (m:Nat→AObj):OD→List Nat→(Nat→AObj)
 | none,_=>m
 | some p,l=>upd m (oNum p) (.live (l.map fun d:Nat=>AV.int k (d:Int)))
def oL (L:List Nat):OD→List Nat
 | none=>L
 | some p=>oNum p::L
def iP:OD→Bool→Bool × Bool
 | none,b=>(false,b)
 | some (false,_),b=>(true,b)
 | some (true,_),b=>(false,b)
def gM (m:Nat→AObj):OD→(Nat→AObj)
 | none=>m
 | some p=>upd m (oNum p) .gone
def iV (D:OD):Option Bool→Nat→AV
 | none,n=>oV D n
 | some b,n=>.sl (oNum (iP D b)) 0 n 1
def iM (k:IntKind) (m:Nat→AObj) (D:OD):Option Bool→List Nat→List Nat→(Nat→AObj)
 | none,l0,_=>oM k m D l0
 | some b,_,l=>upd (gM m D) (oNum (iP D b)) (.live (l.map fun d:Nat=>AV.int k (d:Int)))
def iL (L:List Nat) (D:OD):Option Bool→List Nat
 | none=>oL L D
 | some b=>oNum (iP D b)::oL L D
def iX (D:OD) (c:Nat):Option Bool→Nat
 | some false=>oNum (iP D true)-c
 | _=>oNum (iP D false)-c
theorem oL_has {L:List Nat} {m:Nat→AObj} (h:Has L m) (D:OD) (q:Nat) (hq:m q ≠ .unused):(oL L D).contains q=true:=by
 have:=h q hq
 rcases D with _|p<;>simp only [oL,List.contains_cons,this,Bool.or_true]
theorem iL_has {L:List Nat} {m:Nat→AObj} {k l} (h:Has L m) (D:OD) (I:Option Bool) (q:Nat) (hq:oM k m D l q ≠ .unused):(iL L D I).contains q=true:=by
 have h1:(oL L D).contains q=true:=by
  rcases D with _|p
  · exact h q hq
  · simp only [oM,AM.upd] at hq
    by_cases e:q=oNum p
    · simp [oL,e]
    · rw [if_neg e] at hq
      simp only [oL,List.contains_cons,h q hq,Bool.or_true]
 rcases I with _|b<;>simp only [iL,List.contains_cons,h1,Bool.or_true]
def dec10 (a:Nat):List Nat:=(digs 10 a).map (48+·)
def decL (a:Nat):List Nat:=if a=0 then [48] else (dec10 a).reverse
def decS (a:Nat):ByteArray:=bytesS ((decL a).map fun d:Nat=>AV.int .u8 (d:Int))
structure TS where
 n:Nat
 w:List Nat
 tl:List Nat
 D:OD
 k:Nat
 o:List Nat
structure T3 where
 j:Option Bool
 i:Nat
 r:Nat
 k:Nat
 o:List Nat
def dv (o:List Nat):Nat:=dOf 10 (o.map (·-48))
def byt (o:List Nat):Prop:=∀ c ∈ o,48≤c∧c<58
theorem dv_snoc (o:List Nat) (d:Nat):dv (o++[48+d])=dv o+10^o.length*d:=by
 unfold dv; rw [List.map_append,dOf_append]
 simp [dOf]
theorem byt_snoc {o:List Nat} (h:byt o) (r:Nat):byt (o++[48+r % 10]):=fun c hc=>by
 rcases List.mem_append.1 hc with hc|hc
 · exact h c hc
 · rw [List.mem_singleton.1 hc]; omega
theorem snoc_canon (o:List Nat) (d:Nat) (h:d ≠ 0):Canon ((o++[48+d]).map (·-48)):=fun _=>by
 simp; exact h
theorem u8_dig (r:Nat):IntKind.u8.wrap (IntKind.u64.wrap (48+((r % 10:Nat):Int)))=((48+r % 10:Nat):Int):=by
 rw [IntKind.wrap_u64,IntKind.wrap_u8]; omega
theorem map_snoc {l:List Nat} {k:IntKind} {c:Nat}:(l.map fun d:Nat=>AV.int k (d:Int))++[.int k (c:Int)]=(l++[c]).map fun d:Nat=>AV.int k (d:Int):=by simp
theorem dig_step {A p r W q:Nat} (h:A=p+q*(r+10*W)):A=(p+q*(r % 10))+q*10*(r / 10+W):=by
 rw [h,Nat.add_assoc,Nat.mul_assoc,← Nat.mul_add]; congr 2; omega
theorem canon_take {w:List Nat} {n:Nat} (h:n+1≤w.length) (hz:w.getD n 0 ≠ 0):Canon (w.take (n+1)):=fun hne=>by
 have e:=take_snoc (l:=w) (k:=n) (by omega)
 simp only [e,List.getLast_append,List.getLast_singleton]
 simpa using hz
theorem dOf_trim {w:List Nat} {n:Nat} (h:∀ i,n≤i→w.getD i 0=0):dOf 18446744073709551616 (w.take n)=dOf 18446744073709551616 w:=by
 conv=>rhs; rw [← List.take_append_drop n w]
 rw [dOf_append,dOf_zero (l:=w.drop n),Nat.mul_zero,Nat.add_zero]
 intro d hd
 obtain ⟨i,hi,rfl⟩:=List.getElem_of_mem hd
 have:=h (n+i) (by omega)
 rw [List.length_drop] at hi
 rw [List.getElem_drop,← getD_get (by omega),this]
theorem canon_pos {w:List Nat} (hc:Canon w) (hne:w ≠ []):0<dOf 18446744073709551616 w:=by
 have h1:0<w.length:=List.length_pos_iff.2 hne
 have h2:=canon_last hc h1
 rw [dOf_last 18446744073709551616 w h1]
 have:0<18446744073709551616^(w.length-1)*w.getD (w.length-1) 0:=Nat.mul_pos (Nat.pow_pos (by decide)) (by omega)
 omega
theorem text_end {a:Nat} {o:List Nat} (ho:byt o) (h:a=dv o) (hc:Canon (o.map (·-48))) (ha:0<a):decL a=o.reverse:=by
 unfold decL dec10
 rw [if_neg (by omega),h]
 unfold dv
 rw [digs_dOf 10 (by decide) _ (fun d hd=>?_) hc,List.map_map]
 · congr 1
   conv=>rhs; rw [← List.map_id o]
   refine List.map_congr_left fun c hc=>?_
   have:=ho c hc
   simp only [Function.comp,id]; omega
 · obtain ⟨c,hc,rfl⟩:=List.mem_map.1 hd
   have:=ho c hc
   omega
theorem getD_left {l r:List Nat} {q:Nat} (h:q<l.length):(l++r).getD q 0=l.getD q 0:=by
 simp only [List.getD_eq_getElem?_getD]; rw [List.getElem?_append_left h]
theorem dOf_pos {l:List Nat} {q:Nat} (h:q<l.length) (hz:l.getD q 0 ≠ 0):0<dOf 18446744073709551616 l:=by
 rw [dOf_split 18446744073709551616 l q h]
 have:0<18446744073709551616^q*(l.getD q 0+18446744073709551616*dOf 18446744073709551616 (l.drop (q+1))):=Nat.mul_pos (Nat.pow_pos (by decide)) (by omega)
 omega
theorem Text_spec (hP:PrgOk P) (a:Nat) (ha:blen a≤68719476736):CSpec P 53 [(.agg [.opq (.nat (a)),.pad])] (.str (decS a)):=by
 have HE:=Sf_ok hP
 rcases Nat.eq_zero_or_pos a with rfl|h0
 · have e:digs 18446744073709551616 0=[]:=digs_zero _
   have e2:([]:List Nat).isEmpty=true:=rfl
   refine CSpec_go (E:=⟨T0,Sf⟩) (fn53 hP) HE hP.mix ?_
   simp only [go_sem,e,e2]
   exact .refl _
 · have hxd:∀ d ∈ digs 18446744073709551616 a,d<18446744073709551616:=digs_lt 18446744073709551616 a (by decide)
   have hx:=dOf_digs 18446744073709551616 a (by decide)
   have hlx:=digs_len_blen a
   have hcan:=digs_canon 18446744073709551616 a (by decide)
   have hne:digs 18446744073709551616 a ≠ []:=by intro e; rw [e] at hx; simp [dOf] at hx; omega
   refine CSpec_go (E:=⟨T0,Sf⟩) (fn53 hP) HE hP.mix ?_
   simp only [go_sem]
   generalize digs 18446744073709551616 a=x at *
   have hie:x.isEmpty=false:=by cases x<;>simp_all
   have hxl:(x.length == 0)=false:=by
    have:=List.length_pos_iff.2 hne
    simp; omega
   have hxp:0<x.length:=List.length_pos_iff.2 hne
   simp only [go_sem,hie,hxl]
   refine ⟨⟨fun _=>hxp,by omega⟩,?_⟩
   refine trX_loopV HE hP.mix (fun q:TS=>oL [4,0] q.D) (fun q=>⟨upd (upd (upd (fun _=>.junk) 2 (.str ⟨#[]⟩)) 3 (.sl 4 0 q.n 1)) 4 (oV q.D q.k),oM .u8 (upd (upd (fun _=>.unused) 0 (.live [.opq (.nat a),.pad])) 4 (.live (List.map (fun d:Nat=>AV.int .u64 (d:Int)) (q.w++q.tl)))) q.D q.o,85⟩)
    (fun q=>q.w.length=q.n∧q.o.length=q.k∧(∀ d ∈ q.w,d<18446744073709551616)∧Canon q.w∧q.n+q.tl.length=x.length∧byt q.o∧a=dv q.o+10^q.k*dOf 18446744073709551616 q.w∧(q.w=[]→Canon (q.o.map (·-48)))∧(q.D=none→q.o=[]∧q.k=0)) (fun q=>dOf 18446744073709551616 q.w) ⟨x.length,x,[],none,0,[]⟩ (fun _=>20)
    (fun x r hr=>oL_has Has.z x.D r hr) (Kept.of rfl KT.z (by have e:x++[]=x:=List.append_nil x; simp only [oM]; rw [e]; exact KM.z)) ⟨rfl,rfl,hxd,hcan,by simp,by simp [byt],by simp [dv,dOf,hx],fun e=>absurd e hne,fun _=>⟨rfl,rfl⟩⟩ 85 (by kernel_rfl) ?_
   rintro ⟨n,w,tl,D,k,o⟩ ⟨h1,h2,h3,h4,h5,h6,h7,h8,h9⟩
   simp only [] at h1 h2 h3 h4 h5 h6 h7 h8 h9
   by_cases hn:0<n
   · have hW:=canon_pos h4 (by intro e; rw [e] at h1; simp at h1; omega)
     rcases D with _|⟨_|_,_|_⟩
     ·
      simp only [oV,oM,oNum]
      simp only [go_sem,hn]
      refine short_ic hP (L:=[4,0]) (y:=10000000000000000000) (by repeat (first|exact GenM.nil|refine GenM.upd ?_ rfl (by first|rfl|exact objOnly_U))) rfl rfl h1 (by omega) h3 (by decide) (by decide) ?_
      intro nx w' c t1 t2 t3 t4
      simp only [go_sem]
      refine trX_loop HE hP.mix [4,0] (fun q:Nat=>⟨upd (upd (upd (upd (fun _=>.junk) 2 (.str ⟨#[]⟩)) 3 (.sl 4 0 q 1)) 4 (oV none k)) 5 (.int .u64 (c:Int)),oM .u8 (upd (upd (fun _=>.unused) 0 (.live [.opq (.nat a),.pad])) 4 (.live (List.map (fun d:Nat=>AV.int .u64 (d:Int)) (w'++tl)))) none o,85⟩)
       (fun q=>q≤n∧∀ i,q≤i→w'.getD i 0=0) (fun q=>q) n 20 Has.z (Kept.of rfl KT.z KM.z) ⟨Nat.le_refl _,fun i hi=>getD_ge (by omega)⟩ 85 (by kernel_rfl) ?_
      rintro q ⟨q1,q2⟩
      obtain ⟨W2,hW2⟩:∃ W,dOf 18446744073709551616 w'=W:=⟨_,rfl⟩
      have hA:a=dv o+10^k*(c+10^(19-0)*W2):=by rw [h7,← t4,hW2,Nat.mul_comm W2,Nat.add_comm c]
      have hWc:0<W2∨0<c:=by
       rw [← t4,hW2] at hW; omega
      obtain ⟨q9,hq9⟩:∃ q9,q9+1=q+1:=⟨q,rfl⟩
      cases q with
      | zero =>
        have hW0:W2=0:=by rw [← hW2,← dOf_trim q2]; rfl
        simp only [oV,oM,oNum]
        simp only [go_sem,Nat.succ_pos,Nat.lt_irrefl]
        refine trX_loopV HE hP.mix (fun y:T3=>iL [4,0] none y.j) (fun y=>⟨upd (upd (upd (upd (upd (fun _=>.junk) 2 (.str ⟨#[]⟩)) 3 (.sl 4 0 (0) 1)) 4 (iV none y.j y.k)) 5 (.int .u64 (y.r:Int))) 6 (.int .i64 (y.i:Int)),iM .u8 (upd (upd (fun _=>.unused) 0 (.live [.opq (.nat a),.pad])) 4 (.live (List.map (fun d:Nat=>AV.int .u64 (d:Int)) (w'++tl)))) none y.j o y.o,85⟩)
         (fun y=>y.i≤19∧y.o.length=y.k∧byt y.o∧y.r<10^(19-y.i)∧a=dv y.o+10^y.k*(y.r+10^(19-y.i)*W2)∧(W2=0→y.r=0→Canon (y.o.map (·-48)))∧(y.j=none→y.o=o∧y.k=k∧y.i=0∧(0<W2∨0<y.r))) (fun y=>20-y.i) ⟨none,0,c,k,o⟩ (fun y=>iX none 17 y.j)
         (fun x r hr=>iL_has (k:=.u8) (l:=o) Has.z none x.j r hr) (Kept.of rfl KT.z KM.z) ⟨by simp,h2,h6,t3,hA,fun e1 e2=>absurd hWc (by have e1:W2=0:=e1; have e2:c=0:=e2; omega),fun _=>⟨rfl,rfl,rfl,hWc⟩⟩ 85 (by kernel_rfl) ?_
        rintro ⟨j,i,r,k',o'⟩ ⟨s1,s2,s3,s4,s5,s6,s7⟩
        simp only [] at s1 s2 s3 s4 s5 s6 s7
        have hpw:i<19→10^(19-i)=10*10^(19-(i+1)):=fun h=>by rw [show 19-i=19-(i+1)+1 by omega,Nat.pow_succ,Nat.mul_comm]
        have hm:(r:Int).tmod 10=((r % 10:Nat):Int):=rfl
        have hrb:r<18446744073709551616:=Nat.lt_of_lt_of_le s4 (Nat.le_trans (Nat.pow_le_pow_right (by decide) (show 19-i≤19 by omega)) (by decide))
        have hdv:IntKind.u64.wrap ((r:Int).tdiv 10)=((r / 10:Nat):Int):=wu_div r 10 hrb
        have hu8:=u8_dig r
        have hwi:=wi_add1 i (by omega)
        have hq0':0<q9+1:=Nat.succ_pos q9
        by_cases hi:i<19
        · by_cases hr:0<r
          · have hgo:1≤r+10^(19-i)*W2:=by omega
            have hkb:k'+1≤1099511627776:=by
             have h1:10^k'*1≤10^k'*(r+10^(19-i)*W2):=Nat.mul_le_mul_left _ hgo
             have h2:2^k'≤10^k':=Nat.pow_le_pow_left (by decide) _
             have h3:=blen_lt a
             have h4:k'<blen a:=(Nat.pow_lt_pow_iff_right (a:=2) (by decide)).1 (by omega)
             omega
            have hst:∀ o'':List Nat,o''=o'++[48+r % 10]→o''.length=k'+1∧byt o''∧r / 10<10^(19-(i+1))∧a=dv o''+10^(k'+1)*(r / 10+10^(19-(i+1))*W2)∧(W2=0→r / 10=0→Canon (o''.map (·-48))):=fun o'' ho=>by
             subst ho
             refine ⟨by simp [s2],byt_snoc s3 r,by have:=hpw hi; omega,?_,fun e1 e2=>snoc_canon _ _ ?_⟩
             · rw [dv_snoc,s2,Nat.pow_succ]
               rw [hpw hi,Nat.mul_assoc] at s5
               exact dig_step s5
             · rw [e1,Nat.mul_zero,Nat.add_zero] at hgo
               omega
            rcases j with _|_|_
            · obtain ⟨e1,e2,_,_⟩:=s7 rfl
              subst e1
              subst e2
              simp only [iV,iM,oV,oM,oNum,iX,iP,gM]
              simp only [go_sem,hi,hr,hm,hdv,hu8,hwi,hkb,map_snoc,hq0']
              first
               | (have h9':=h9 rfl
                  obtain ⟨ho,hk⟩:=h9'
                  subst ho
                  subst hk
                  obtain ⟨z1,z2,z3,z4,z5⟩:=hst [48+r % 10] rfl
                  exact ⟨by decide,⟨by simp,fun _=>trivial⟩,by decide,⟨some false,i+1,r / 10,1,[48+r % 10]⟩,Kept.of rfl KT.z KM.z,⟨by simp only []; omega,z1,z2,z3,z4,z5,fun e=>by simp at e⟩,by simp only []; omega⟩)
               | (obtain ⟨z1,z2,z3,z4,z5⟩:=hst (o'++[48+r % 10]) rfl
                  exact ⟨by decide,⟨s2,by simp,fun _=>trivial⟩,by decide,⟨some false,i+1,r / 10,k'+1,o'++[48+r % 10]⟩,Kept.of rfl KT.z KM.z,⟨by simp only []; omega,z1,z2,z3,z4,z5,fun e=>by simp at e⟩,by simp only []; omega⟩)
            · simp only [iV,iM,oV,oM,oNum,iX,iP,gM]
              simp only [go_sem,hi,hr,hm,hdv,hu8,hwi,hkb,map_snoc,hq0']
              obtain ⟨z1,z2,z3,z4,z5⟩:=hst (o'++[48+r % 10]) rfl
              exact ⟨by decide,⟨s2,by simp,fun _=>trivial⟩,by decide,⟨some true,i+1,r / 10,k'+1,o'++[48+r % 10]⟩,Kept.of rfl KT.z KM.z,⟨by simp only []; omega,z1,z2,z3,z4,z5,fun e=>by simp at e⟩,by simp only []; omega⟩
            · simp only [iV,iM,oV,oM,oNum,iX,iP,gM]
              simp only [go_sem,hi,hr,hm,hdv,hu8,hwi,hkb,map_snoc,hq0']
              obtain ⟨z1,z2,z3,z4,z5⟩:=hst (o'++[48+r % 10]) rfl
              exact ⟨by decide,⟨s2,by simp,fun _=>trivial⟩,by decide,⟨some false,i+1,r / 10,k'+1,o'++[48+r % 10]⟩,Kept.of rfl KT.z KM.z,⟨by simp only []; omega,z1,z2,z3,z4,z5,fun e=>by simp at e⟩,by simp only []; omega⟩
          · have hr0:r=0:=by omega
            have hsp:w'++tl=w'.take (0)++(w'.drop (0)++tl):=by rw [← List.append_assoc,List.take_append_drop]
            have hdt:dOf 18446744073709551616 (w'.take (0))=W2:=(dOf_trim q2).trans hW2
            have hW2lt:W2<dOf 18446744073709551616 w:=by rw [hW2] at t4; omega
            have hend:a=dv o'+10^k'*dOf 18446744073709551616 (w'.take (0)):=by
             rw [hdt,s5,hr0,Nat.zero_add]
             first
              | (rw [show 19-i=0 by omega,Nat.pow_zero,Nat.one_mul])
              | (rw [hW0,Nat.mul_zero])
            have hcn:w'.take (0)=[]→Canon (o'.map (·-48)):=fun e=>s6 (by rw [← hdt,e]; rfl) hr0
            have htl:(0)+(w'.drop (0)++tl).length=x.length:=by rw [List.length_append,List.length_drop]; omega
            have hct:Canon (w'.take (0)):=by
             first
              | (exact canon_take (by omega) hzn)
              | (intro h; exact absurd rfl h)
            have hlt:(w'.take (0)).length=0:=by rw [List.length_take]; omega
            rcases j with _|_|_
            · obtain ⟨_,_,e3,e4⟩:=s7 rfl
              first
               | omega
               | (exfalso; omega)
            · simp only [iV,iM,oV,oM,oNum,iP,gM]
              simp only [go_sem,hi,hr,Nat.lt_irrefl]
              rw [hsp]
              exact ⟨⟨0,w'.take (0),w'.drop (0)++tl,some (iP none false),k',o'⟩,Kept.of rfl KT.z KM.z,⟨hlt,s2,fun d hd=>t2 d (List.mem_of_mem_take hd),hct,htl,s3,hend,hcn,fun e=>by simp at e⟩,by simp only []; rw [hdt]; exact hW2lt⟩
            · simp only [iV,iM,oV,oM,oNum,iP,gM]
              simp only [go_sem,hi,hr,Nat.lt_irrefl]
              rw [hsp]
              exact ⟨⟨0,w'.take (0),w'.drop (0)++tl,some (iP none true),k',o'⟩,Kept.of rfl KT.z KM.z,⟨hlt,s2,fun d hd=>t2 d (List.mem_of_mem_take hd),hct,htl,s3,hend,hcn,fun e=>by simp at e⟩,by simp only []; rw [hdt]; exact hW2lt⟩
        · have hr0:r=0:=by
           rw [show 19-i=0 by omega] at s4; omega
          have hsp:w'++tl=w'.take (0)++(w'.drop (0)++tl):=by rw [← List.append_assoc,List.take_append_drop]
          have hdt:dOf 18446744073709551616 (w'.take (0))=W2:=(dOf_trim q2).trans hW2
          have hW2lt:W2<dOf 18446744073709551616 w:=by rw [hW2] at t4; omega
          have hend:a=dv o'+10^k'*dOf 18446744073709551616 (w'.take (0)):=by
           rw [hdt,s5,hr0,Nat.zero_add]
           first
            | (rw [show 19-i=0 by omega,Nat.pow_zero,Nat.one_mul])
            | (rw [hW0,Nat.mul_zero])
          have hcn:w'.take (0)=[]→Canon (o'.map (·-48)):=fun e=>s6 (by rw [← hdt,e]; rfl) hr0
          have htl:(0)+(w'.drop (0)++tl).length=x.length:=by rw [List.length_append,List.length_drop]; omega
          have hct:Canon (w'.take (0)):=by
           first
            | (exact canon_take (by omega) hzn)
            | (intro h; exact absurd rfl h)
          have hlt:(w'.take (0)).length=0:=by rw [List.length_take]; omega
          rcases j with _|_|_
          · obtain ⟨_,_,e3,e4⟩:=s7 rfl
            first
             | omega
             | (exfalso; omega)
          · simp only [iV,iM,oV,oM,oNum,iP,gM]
            simp only [go_sem,hi]
            rw [hsp]
            exact ⟨⟨0,w'.take (0),w'.drop (0)++tl,some (iP none false),k',o'⟩,Kept.of rfl KT.z KM.z,⟨hlt,s2,fun d hd=>t2 d (List.mem_of_mem_take hd),hct,htl,s3,hend,hcn,fun e=>by simp at e⟩,by simp only []; rw [hdt]; exact hW2lt⟩
          · simp only [iV,iM,oV,oM,oNum,iP,gM]
            simp only [go_sem,hi]
            rw [hsp]
            exact ⟨⟨0,w'.take (0),w'.drop (0)++tl,some (iP none true),k',o'⟩,Kept.of rfl KT.z KM.z,⟨hlt,s2,fun d hd=>t2 d (List.mem_of_mem_take hd),hct,htl,s3,hend,hcn,fun e=>by simp at e⟩,by simp only []; rw [hdt]; exact hW2lt⟩
      | succ q =>
        have hql:q<w'.length:=by omega
        have hqg:q<(w'++tl).length:=by rw [List.length_append]; omega
        have hqn:q<w'.length+tl.length:=by omega
        have hgt:(w'++tl).getD q 0=w'.getD q 0:=getD_left hql
        have hqi:=wi_nat q (by omega)
        have hq1:q<q+1:=by omega
        have hq2:q≤q+1:=by omega
        have hq3:q≤w'.length+tl.length:=by omega
        rcases (by cases (w'.getD q 0 == 0)<;>simp:(w'.getD q 0 == 0)=true∨(w'.getD q 0 == 0)=false) with hz|hz
        · simp only [oV,oM,oNum]
          simp only [go_sem,Nat.succ_pos,hqi,hq1,hqg,hqn,gU hqg,hgt,hz,hq2,hq3]
          exact ⟨by simp,q,Kept.of rfl KT.z KM.z,⟨by omega,fun i hi=>by
           rcases Nat.eq_or_lt_of_le hi with rfl|hi
           · simpa using hz
           · exact q2 i hi⟩,by omega⟩
        · have hzn:w'.getD q 0 ≠ 0:=by simpa using hz
          have hW0:0<W2:=by
           rw [← hW2]; exact dOf_pos hql hzn
          simp only [oV,oM,oNum]
          simp only [go_sem,Nat.succ_pos,hqi,hq1,hqg,hqn,gU hqg,hgt,hz]
          refine trX_loopV HE hP.mix (fun y:T3=>iL [4,0] none y.j) (fun y=>⟨upd (upd (upd (upd (upd (fun _=>.junk) 2 (.str ⟨#[]⟩)) 3 (.sl 4 0 (q+1) 1)) 4 (iV none y.j y.k)) 5 (.int .u64 (y.r:Int))) 6 (.int .i64 (y.i:Int)),iM .u8 (upd (upd (fun _=>.unused) 0 (.live [.opq (.nat a),.pad])) 4 (.live (List.map (fun d:Nat=>AV.int .u64 (d:Int)) (w'++tl)))) none y.j o y.o,85⟩)
           (fun y=>y.i≤19∧y.o.length=y.k∧byt y.o∧y.r<10^(19-y.i)∧a=dv y.o+10^y.k*(y.r+10^(19-y.i)*W2)∧(W2=0→y.r=0→Canon (y.o.map (·-48)))∧(y.j=none→y.o=o∧y.k=k∧y.i=0∧(0<W2∨0<y.r))) (fun y=>20-y.i) ⟨none,0,c,k,o⟩ (fun y=>iX none 15 y.j)
           (fun x r hr=>iL_has (k:=.u8) (l:=o) Has.z none x.j r hr) (Kept.of rfl KT.z KM.z) ⟨by simp,h2,h6,t3,hA,fun e1 e2=>absurd hWc (by have e1:W2=0:=e1; have e2:c=0:=e2; omega),fun _=>⟨rfl,rfl,rfl,hWc⟩⟩ 85 (by kernel_rfl) ?_
          rintro ⟨j,i,r,k',o'⟩ ⟨s1,s2,s3,s4,s5,s6,s7⟩
          simp only [] at s1 s2 s3 s4 s5 s6 s7
          have hpw:i<19→10^(19-i)=10*10^(19-(i+1)):=fun h=>by rw [show 19-i=19-(i+1)+1 by omega,Nat.pow_succ,Nat.mul_comm]
          have hm:(r:Int).tmod 10=((r % 10:Nat):Int):=rfl
          have hrb:r<18446744073709551616:=Nat.lt_of_lt_of_le s4 (Nat.le_trans (Nat.pow_le_pow_right (by decide) (show 19-i≤19 by omega)) (by decide))
          have hdv:IntKind.u64.wrap ((r:Int).tdiv 10)=((r / 10:Nat):Int):=wu_div r 10 hrb
          have hu8:=u8_dig r
          have hwi:=wi_add1 i (by omega)
          have hq0':0<q9+1:=Nat.succ_pos q9
          have hq0:0<q+1:=Nat.succ_pos q
          by_cases hi:i<19
          · have hgo:1≤r+10^(19-i)*W2:=by
             have:=Nat.mul_pos (Nat.pow_pos (show 0<10 by decide) (n:=19-i)) hW0
             omega
            have hr:=hq0
            have hkb:k'+1≤1099511627776:=by
             have h1:10^k'*1≤10^k'*(r+10^(19-i)*W2):=Nat.mul_le_mul_left _ hgo
             have h2:2^k'≤10^k':=Nat.pow_le_pow_left (by decide) _
             have h3:=blen_lt a
             have h4:k'<blen a:=(Nat.pow_lt_pow_iff_right (a:=2) (by decide)).1 (by omega)
             omega
            have hst:∀ o'':List Nat,o''=o'++[48+r % 10]→o''.length=k'+1∧byt o''∧r / 10<10^(19-(i+1))∧a=dv o''+10^(k'+1)*(r / 10+10^(19-(i+1))*W2)∧(W2=0→r / 10=0→Canon (o''.map (·-48))):=fun o'' ho=>by
             subst ho
             refine ⟨by simp [s2],byt_snoc s3 r,by have:=hpw hi; omega,?_,fun e1 e2=>snoc_canon _ _ ?_⟩
             · rw [dv_snoc,s2,Nat.pow_succ]
               rw [hpw hi,Nat.mul_assoc] at s5
               exact dig_step s5
             · rw [e1,Nat.mul_zero,Nat.add_zero] at hgo
               omega
            rcases j with _|_|_
            · obtain ⟨e1,e2,_,_⟩:=s7 rfl
              subst e1
              subst e2
              simp only [iV,iM,oV,oM,oNum,iX,iP,gM]
              simp only [go_sem,hi,hr,hm,hdv,hu8,hwi,hkb,map_snoc,hq0']
              first
               | (have h9':=h9 rfl
                  obtain ⟨ho,hk⟩:=h9'
                  subst ho
                  subst hk
                  obtain ⟨z1,z2,z3,z4,z5⟩:=hst [48+r % 10] rfl
                  exact ⟨by decide,⟨by simp,fun _=>trivial⟩,by decide,⟨some false,i+1,r / 10,1,[48+r % 10]⟩,Kept.of rfl KT.z KM.z,⟨by simp only []; omega,z1,z2,z3,z4,z5,fun e=>by simp at e⟩,by simp only []; omega⟩)
               | (obtain ⟨z1,z2,z3,z4,z5⟩:=hst (o'++[48+r % 10]) rfl
                  exact ⟨by decide,⟨s2,by simp,fun _=>trivial⟩,by decide,⟨some false,i+1,r / 10,k'+1,o'++[48+r % 10]⟩,Kept.of rfl KT.z KM.z,⟨by simp only []; omega,z1,z2,z3,z4,z5,fun e=>by simp at e⟩,by simp only []; omega⟩)
            · simp only [iV,iM,oV,oM,oNum,iX,iP,gM]
              simp only [go_sem,hi,hr,hm,hdv,hu8,hwi,hkb,map_snoc,hq0']
              obtain ⟨z1,z2,z3,z4,z5⟩:=hst (o'++[48+r % 10]) rfl
              exact ⟨by decide,⟨s2,by simp,fun _=>trivial⟩,by decide,⟨some true,i+1,r / 10,k'+1,o'++[48+r % 10]⟩,Kept.of rfl KT.z KM.z,⟨by simp only []; omega,z1,z2,z3,z4,z5,fun e=>by simp at e⟩,by simp only []; omega⟩
            · simp only [iV,iM,oV,oM,oNum,iX,iP,gM]
              simp only [go_sem,hi,hr,hm,hdv,hu8,hwi,hkb,map_snoc,hq0']
              obtain ⟨z1,z2,z3,z4,z5⟩:=hst (o'++[48+r % 10]) rfl
              exact ⟨by decide,⟨s2,by simp,fun _=>trivial⟩,by decide,⟨some false,i+1,r / 10,k'+1,o'++[48+r % 10]⟩,Kept.of rfl KT.z KM.z,⟨by simp only []; omega,z1,z2,z3,z4,z5,fun e=>by simp at e⟩,by simp only []; omega⟩
          · have hr0:r=0:=by
             rw [show 19-i=0 by omega] at s4; omega
            have hsp:w'++tl=w'.take (q+1)++(w'.drop (q+1)++tl):=by rw [← List.append_assoc,List.take_append_drop]
            have hdt:dOf 18446744073709551616 (w'.take (q+1))=W2:=(dOf_trim q2).trans hW2
            have hW2lt:W2<dOf 18446744073709551616 w:=by rw [hW2] at t4; omega
            have hend:a=dv o'+10^k'*dOf 18446744073709551616 (w'.take (q+1)):=by
             rw [hdt,s5,hr0,Nat.zero_add]
             first
              | (rw [show 19-i=0 by omega,Nat.pow_zero,Nat.one_mul])
              | (rw [hW0,Nat.mul_zero])
            have hcn:w'.take (q+1)=[]→Canon (o'.map (·-48)):=fun e=>s6 (by rw [← hdt,e]; rfl) hr0
            have htl:(q+1)+(w'.drop (q+1)++tl).length=x.length:=by rw [List.length_append,List.length_drop]; omega
            have hct:Canon (w'.take (q+1)):=by
             first
              | (exact canon_take (by omega) hzn)
              | (intro h; exact absurd rfl h)
            have hlt:(w'.take (q+1)).length=q+1:=by rw [List.length_take]; omega
            rcases j with _|_|_
            · obtain ⟨_,_,e3,e4⟩:=s7 rfl
              first
               | omega
               | (exfalso; omega)
            · simp only [iV,iM,oV,oM,oNum,iP,gM]
              simp only [go_sem,hi]
              rw [hsp]
              exact ⟨⟨q+1,w'.take (q+1),w'.drop (q+1)++tl,some (iP none false),k',o'⟩,Kept.of rfl KT.z KM.z,⟨hlt,s2,fun d hd=>t2 d (List.mem_of_mem_take hd),hct,htl,s3,hend,hcn,fun e=>by simp at e⟩,by simp only []; rw [hdt]; exact hW2lt⟩
            · simp only [iV,iM,oV,oM,oNum,iP,gM]
              simp only [go_sem,hi]
              rw [hsp]
              exact ⟨⟨q+1,w'.take (q+1),w'.drop (q+1)++tl,some (iP none true),k',o'⟩,Kept.of rfl KT.z KM.z,⟨hlt,s2,fun d hd=>t2 d (List.mem_of_mem_take hd),hct,htl,s3,hend,hcn,fun e=>by simp at e⟩,by simp only []; rw [hdt]; exact hW2lt⟩
     ·
      simp only [oV,oM,oNum]
      simp only [go_sem,hn]
      refine short_ic hP (L:=[110,4,0]) (y:=10000000000000000000) (by repeat (first|exact GenM.nil|refine GenM.upd ?_ rfl (by first|rfl|exact objOnly_U))) rfl rfl h1 (by omega) h3 (by decide) (by decide) ?_
      intro nx w' c t1 t2 t3 t4
      simp only [go_sem]
      refine trX_loop HE hP.mix [110,4,0] (fun q:Nat=>⟨upd (upd (upd (upd (fun _=>.junk) 2 (.str ⟨#[]⟩)) 3 (.sl 4 0 q 1)) 4 (oV (some (false,false)) k)) 5 (.int .u64 (c:Int)),oM .u8 (upd (upd (fun _=>.unused) 0 (.live [.opq (.nat a),.pad])) 4 (.live (List.map (fun d:Nat=>AV.int .u64 (d:Int)) (w'++tl)))) (some (false,false)) o,85⟩)
       (fun q=>q≤n∧∀ i,q≤i→w'.getD i 0=0) (fun q=>q) n 20 Has.z (Kept.of rfl KT.z KM.z) ⟨Nat.le_refl _,fun i hi=>getD_ge (by omega)⟩ 85 (by kernel_rfl) ?_
      rintro q ⟨q1,q2⟩
      obtain ⟨W2,hW2⟩:∃ W,dOf 18446744073709551616 w'=W:=⟨_,rfl⟩
      have hA:a=dv o+10^k*(c+10^(19-0)*W2):=by rw [h7,← t4,hW2,Nat.mul_comm W2,Nat.add_comm c]
      have hWc:0<W2∨0<c:=by
       rw [← t4,hW2] at hW; omega
      obtain ⟨q9,hq9⟩:∃ q9,q9+1=q+1:=⟨q,rfl⟩
      cases q with
      | zero =>
        have hW0:W2=0:=by rw [← hW2,← dOf_trim q2]; rfl
        simp only [oV,oM,oNum]
        simp only [go_sem,Nat.succ_pos,Nat.lt_irrefl]
        refine trX_loopV HE hP.mix (fun y:T3=>iL [4,0] (some (false,false)) y.j) (fun y=>⟨upd (upd (upd (upd (upd (fun _=>.junk) 2 (.str ⟨#[]⟩)) 3 (.sl 4 0 (0) 1)) 4 (iV (some (false,false)) y.j y.k)) 5 (.int .u64 (y.r:Int))) 6 (.int .i64 (y.i:Int)),iM .u8 (upd (upd (fun _=>.unused) 0 (.live [.opq (.nat a),.pad])) 4 (.live (List.map (fun d:Nat=>AV.int .u64 (d:Int)) (w'++tl)))) (some (false,false)) y.j o y.o,85⟩)
         (fun y=>y.i≤19∧y.o.length=y.k∧byt y.o∧y.r<10^(19-y.i)∧a=dv y.o+10^y.k*(y.r+10^(19-y.i)*W2)∧(W2=0→y.r=0→Canon (y.o.map (·-48)))∧(y.j=none→y.o=o∧y.k=k∧y.i=0∧(0<W2∨0<y.r))) (fun y=>20-y.i) ⟨none,0,c,k,o⟩ (fun y=>iX (some (false,false)) 17 y.j)
         (fun x r hr=>iL_has (k:=.u8) (l:=o) Has.z (some (false,false)) x.j r hr) (Kept.of rfl KT.z KM.z) ⟨by simp,h2,h6,t3,hA,fun e1 e2=>absurd hWc (by have e1:W2=0:=e1; have e2:c=0:=e2; omega),fun _=>⟨rfl,rfl,rfl,hWc⟩⟩ 85 (by kernel_rfl) ?_
        rintro ⟨j,i,r,k',o'⟩ ⟨s1,s2,s3,s4,s5,s6,s7⟩
        simp only [] at s1 s2 s3 s4 s5 s6 s7
        have hpw:i<19→10^(19-i)=10*10^(19-(i+1)):=fun h=>by rw [show 19-i=19-(i+1)+1 by omega,Nat.pow_succ,Nat.mul_comm]
        have hm:(r:Int).tmod 10=((r % 10:Nat):Int):=rfl
        have hrb:r<18446744073709551616:=Nat.lt_of_lt_of_le s4 (Nat.le_trans (Nat.pow_le_pow_right (by decide) (show 19-i≤19 by omega)) (by decide))
        have hdv:IntKind.u64.wrap ((r:Int).tdiv 10)=((r / 10:Nat):Int):=wu_div r 10 hrb
        have hu8:=u8_dig r
        have hwi:=wi_add1 i (by omega)
        have hq0':0<q9+1:=Nat.succ_pos q9
        by_cases hi:i<19
        · by_cases hr:0<r
          · have hgo:1≤r+10^(19-i)*W2:=by omega
            have hkb:k'+1≤1099511627776:=by
             have h1:10^k'*1≤10^k'*(r+10^(19-i)*W2):=Nat.mul_le_mul_left _ hgo
             have h2:2^k'≤10^k':=Nat.pow_le_pow_left (by decide) _
             have h3:=blen_lt a
             have h4:k'<blen a:=(Nat.pow_lt_pow_iff_right (a:=2) (by decide)).1 (by omega)
             omega
            have hst:∀ o'':List Nat,o''=o'++[48+r % 10]→o''.length=k'+1∧byt o''∧r / 10<10^(19-(i+1))∧a=dv o''+10^(k'+1)*(r / 10+10^(19-(i+1))*W2)∧(W2=0→r / 10=0→Canon (o''.map (·-48))):=fun o'' ho=>by
             subst ho
             refine ⟨by simp [s2],byt_snoc s3 r,by have:=hpw hi; omega,?_,fun e1 e2=>snoc_canon _ _ ?_⟩
             · rw [dv_snoc,s2,Nat.pow_succ]
               rw [hpw hi,Nat.mul_assoc] at s5
               exact dig_step s5
             · rw [e1,Nat.mul_zero,Nat.add_zero] at hgo
               omega
            rcases j with _|_|_
            · obtain ⟨e1,e2,_,_⟩:=s7 rfl
              subst e1
              subst e2
              simp only [iV,iM,oV,oM,oNum,iX,iP,gM]
              simp only [go_sem,hi,hr,hm,hdv,hu8,hwi,hkb,map_snoc,hq0']
              first
               | (have h9':=h9 rfl
                  obtain ⟨ho,hk⟩:=h9'
                  subst ho
                  subst hk
                  obtain ⟨z1,z2,z3,z4,z5⟩:=hst [48+r % 10] rfl
                  exact ⟨by decide,⟨by simp,fun _=>trivial⟩,by decide,⟨some false,i+1,r / 10,1,[48+r % 10]⟩,Kept.of rfl KT.z KM.z,⟨by simp only []; omega,z1,z2,z3,z4,z5,fun e=>by simp at e⟩,by simp only []; omega⟩)
               | (obtain ⟨z1,z2,z3,z4,z5⟩:=hst (o'++[48+r % 10]) rfl
                  exact ⟨by decide,⟨s2,by simp,fun _=>trivial⟩,by decide,⟨some false,i+1,r / 10,k'+1,o'++[48+r % 10]⟩,Kept.of rfl KT.z KM.z,⟨by simp only []; omega,z1,z2,z3,z4,z5,fun e=>by simp at e⟩,by simp only []; omega⟩)
            · simp only [iV,iM,oV,oM,oNum,iX,iP,gM]
              simp only [go_sem,hi,hr,hm,hdv,hu8,hwi,hkb,map_snoc,hq0']
              obtain ⟨z1,z2,z3,z4,z5⟩:=hst (o'++[48+r % 10]) rfl
              exact ⟨by decide,⟨s2,by simp,fun _=>trivial⟩,by decide,⟨some true,i+1,r / 10,k'+1,o'++[48+r % 10]⟩,Kept.of rfl KT.z KM.z,⟨by simp only []; omega,z1,z2,z3,z4,z5,fun e=>by simp at e⟩,by simp only []; omega⟩
            · simp only [iV,iM,oV,oM,oNum,iX,iP,gM]
              simp only [go_sem,hi,hr,hm,hdv,hu8,hwi,hkb,map_snoc,hq0']
              obtain ⟨z1,z2,z3,z4,z5⟩:=hst (o'++[48+r % 10]) rfl
              exact ⟨by decide,⟨s2,by simp,fun _=>trivial⟩,by decide,⟨some false,i+1,r / 10,k'+1,o'++[48+r % 10]⟩,Kept.of rfl KT.z KM.z,⟨by simp only []; omega,z1,z2,z3,z4,z5,fun e=>by simp at e⟩,by simp only []; omega⟩
          · have hr0:r=0:=by omega
            have hsp:w'++tl=w'.take (0)++(w'.drop (0)++tl):=by rw [← List.append_assoc,List.take_append_drop]
            have hdt:dOf 18446744073709551616 (w'.take (0))=W2:=(dOf_trim q2).trans hW2
            have hW2lt:W2<dOf 18446744073709551616 w:=by rw [hW2] at t4; omega
            have hend:a=dv o'+10^k'*dOf 18446744073709551616 (w'.take (0)):=by
             rw [hdt,s5,hr0,Nat.zero_add]
             first
              | (rw [show 19-i=0 by omega,Nat.pow_zero,Nat.one_mul])
              | (rw [hW0,Nat.mul_zero])
            have hcn:w'.take (0)=[]→Canon (o'.map (·-48)):=fun e=>s6 (by rw [← hdt,e]; rfl) hr0
            have htl:(0)+(w'.drop (0)++tl).length=x.length:=by rw [List.length_append,List.length_drop]; omega
            have hct:Canon (w'.take (0)):=by
             first
              | (exact canon_take (by omega) hzn)
              | (intro h; exact absurd rfl h)
            have hlt:(w'.take (0)).length=0:=by rw [List.length_take]; omega
            rcases j with _|_|_
            · obtain ⟨_,_,e3,e4⟩:=s7 rfl
              first
               | omega
               | (exfalso; omega)
            · simp only [iV,iM,oV,oM,oNum,iP,gM]
              simp only [go_sem,hi,hr,Nat.lt_irrefl]
              rw [hsp]
              exact ⟨⟨0,w'.take (0),w'.drop (0)++tl,some (iP (some (false,false)) false),k',o'⟩,Kept.of rfl KT.z KM.z,⟨hlt,s2,fun d hd=>t2 d (List.mem_of_mem_take hd),hct,htl,s3,hend,hcn,fun e=>by simp at e⟩,by simp only []; rw [hdt]; exact hW2lt⟩
            · simp only [iV,iM,oV,oM,oNum,iP,gM]
              simp only [go_sem,hi,hr,Nat.lt_irrefl]
              rw [hsp]
              exact ⟨⟨0,w'.take (0),w'.drop (0)++tl,some (iP (some (false,false)) true),k',o'⟩,Kept.of rfl KT.z KM.z,⟨hlt,s2,fun d hd=>t2 d (List.mem_of_mem_take hd),hct,htl,s3,hend,hcn,fun e=>by simp at e⟩,by simp only []; rw [hdt]; exact hW2lt⟩
        · have hr0:r=0:=by
           rw [show 19-i=0 by omega] at s4; omega
          have hsp:w'++tl=w'.take (0)++(w'.drop (0)++tl):=by rw [← List.append_assoc,List.take_append_drop]
          have hdt:dOf 18446744073709551616 (w'.take (0))=W2:=(dOf_trim q2).trans hW2
          have hW2lt:W2<dOf 18446744073709551616 w:=by rw [hW2] at t4; omega
          have hend:a=dv o'+10^k'*dOf 18446744073709551616 (w'.take (0)):=by
           rw [hdt,s5,hr0,Nat.zero_add]
           first
            | (rw [show 19-i=0 by omega,Nat.pow_zero,Nat.one_mul])
            | (rw [hW0,Nat.mul_zero])
          have hcn:w'.take (0)=[]→Canon (o'.map (·-48)):=fun e=>s6 (by rw [← hdt,e]; rfl) hr0
          have htl:(0)+(w'.drop (0)++tl).length=x.length:=by rw [List.length_append,List.length_drop]; omega
          have hct:Canon (w'.take (0)):=by
           first
            | (exact canon_take (by omega) hzn)
            | (intro h; exact absurd rfl h)
          have hlt:(w'.take (0)).length=0:=by rw [List.length_take]; omega
          rcases j with _|_|_
          · obtain ⟨_,_,e3,e4⟩:=s7 rfl
            first
             | omega
             | (exfalso; omega)
          · simp only [iV,iM,oV,oM,oNum,iP,gM]
            simp only [go_sem,hi]
            rw [hsp]
            exact ⟨⟨0,w'.take (0),w'.drop (0)++tl,some (iP (some (false,false)) false),k',o'⟩,Kept.of rfl KT.z KM.z,⟨hlt,s2,fun d hd=>t2 d (List.mem_of_mem_take hd),hct,htl,s3,hend,hcn,fun e=>by simp at e⟩,by simp only []; rw [hdt]; exact hW2lt⟩
          · simp only [iV,iM,oV,oM,oNum,iP,gM]
            simp only [go_sem,hi]
            rw [hsp]
            exact ⟨⟨0,w'.take (0),w'.drop (0)++tl,some (iP (some (false,false)) true),k',o'⟩,Kept.of rfl KT.z KM.z,⟨hlt,s2,fun d hd=>t2 d (List.mem_of_mem_take hd),hct,htl,s3,hend,hcn,fun e=>by simp at e⟩,by simp only []; rw [hdt]; exact hW2lt⟩
      | succ q =>
        have hql:q<w'.length:=by omega
        have hqg:q<(w'++tl).length:=by rw [List.length_append]; omega
        have hqn:q<w'.length+tl.length:=by omega
        have hgt:(w'++tl).getD q 0=w'.getD q 0:=getD_left hql
        have hqi:=wi_nat q (by omega)
        have hq1:q<q+1:=by omega
        have hq2:q≤q+1:=by omega
        have hq3:q≤w'.length+tl.length:=by omega
        rcases (by cases (w'.getD q 0 == 0)<;>simp:(w'.getD q 0 == 0)=true∨(w'.getD q 0 == 0)=false) with hz|hz
        · simp only [oV,oM,oNum]
          simp only [go_sem,Nat.succ_pos,hqi,hq1,hqg,hqn,gU hqg,hgt,hz,hq2,hq3]
          exact ⟨by simp,q,Kept.of rfl KT.z KM.z,⟨by omega,fun i hi=>by
           rcases Nat.eq_or_lt_of_le hi with rfl|hi
           · simpa using hz
           · exact q2 i hi⟩,by omega⟩
        · have hzn:w'.getD q 0 ≠ 0:=by simpa using hz
          have hW0:0<W2:=by
           rw [← hW2]; exact dOf_pos hql hzn
          simp only [oV,oM,oNum]
          simp only [go_sem,Nat.succ_pos,hqi,hq1,hqg,hqn,gU hqg,hgt,hz]
          refine trX_loopV HE hP.mix (fun y:T3=>iL [4,0] (some (false,false)) y.j) (fun y=>⟨upd (upd (upd (upd (upd (fun _=>.junk) 2 (.str ⟨#[]⟩)) 3 (.sl 4 0 (q+1) 1)) 4 (iV (some (false,false)) y.j y.k)) 5 (.int .u64 (y.r:Int))) 6 (.int .i64 (y.i:Int)),iM .u8 (upd (upd (fun _=>.unused) 0 (.live [.opq (.nat a),.pad])) 4 (.live (List.map (fun d:Nat=>AV.int .u64 (d:Int)) (w'++tl)))) (some (false,false)) y.j o y.o,85⟩)
           (fun y=>y.i≤19∧y.o.length=y.k∧byt y.o∧y.r<10^(19-y.i)∧a=dv y.o+10^y.k*(y.r+10^(19-y.i)*W2)∧(W2=0→y.r=0→Canon (y.o.map (·-48)))∧(y.j=none→y.o=o∧y.k=k∧y.i=0∧(0<W2∨0<y.r))) (fun y=>20-y.i) ⟨none,0,c,k,o⟩ (fun y=>iX (some (false,false)) 15 y.j)
           (fun x r hr=>iL_has (k:=.u8) (l:=o) Has.z (some (false,false)) x.j r hr) (Kept.of rfl KT.z KM.z) ⟨by simp,h2,h6,t3,hA,fun e1 e2=>absurd hWc (by have e1:W2=0:=e1; have e2:c=0:=e2; omega),fun _=>⟨rfl,rfl,rfl,hWc⟩⟩ 85 (by kernel_rfl) ?_
          rintro ⟨j,i,r,k',o'⟩ ⟨s1,s2,s3,s4,s5,s6,s7⟩
          simp only [] at s1 s2 s3 s4 s5 s6 s7
          have hpw:i<19→10^(19-i)=10*10^(19-(i+1)):=fun h=>by rw [show 19-i=19-(i+1)+1 by omega,Nat.pow_succ,Nat.mul_comm]
          have hm:(r:Int).tmod 10=((r % 10:Nat):Int):=rfl
          have hrb:r<18446744073709551616:=Nat.lt_of_lt_of_le s4 (Nat.le_trans (Nat.pow_le_pow_right (by decide) (show 19-i≤19 by omega)) (by decide))
          have hdv:IntKind.u64.wrap ((r:Int).tdiv 10)=((r / 10:Nat):Int):=wu_div r 10 hrb
          have hu8:=u8_dig r
          have hwi:=wi_add1 i (by omega)
          have hq0':0<q9+1:=Nat.succ_pos q9
          have hq0:0<q+1:=Nat.succ_pos q
          by_cases hi:i<19
          · have hgo:1≤r+10^(19-i)*W2:=by
             have:=Nat.mul_pos (Nat.pow_pos (show 0<10 by decide) (n:=19-i)) hW0
             omega
            have hr:=hq0
            have hkb:k'+1≤1099511627776:=by
             have h1:10^k'*1≤10^k'*(r+10^(19-i)*W2):=Nat.mul_le_mul_left _ hgo
             have h2:2^k'≤10^k':=Nat.pow_le_pow_left (by decide) _
             have h3:=blen_lt a
             have h4:k'<blen a:=(Nat.pow_lt_pow_iff_right (a:=2) (by decide)).1 (by omega)
             omega
            have hst:∀ o'':List Nat,o''=o'++[48+r % 10]→o''.length=k'+1∧byt o''∧r / 10<10^(19-(i+1))∧a=dv o''+10^(k'+1)*(r / 10+10^(19-(i+1))*W2)∧(W2=0→r / 10=0→Canon (o''.map (·-48))):=fun o'' ho=>by
             subst ho
             refine ⟨by simp [s2],byt_snoc s3 r,by have:=hpw hi; omega,?_,fun e1 e2=>snoc_canon _ _ ?_⟩
             · rw [dv_snoc,s2,Nat.pow_succ]
               rw [hpw hi,Nat.mul_assoc] at s5
               exact dig_step s5
             · rw [e1,Nat.mul_zero,Nat.add_zero] at hgo
               omega
            rcases j with _|_|_
            · obtain ⟨e1,e2,_,_⟩:=s7 rfl
              subst e1
              subst e2
              simp only [iV,iM,oV,oM,oNum,iX,iP,gM]
              simp only [go_sem,hi,hr,hm,hdv,hu8,hwi,hkb,map_snoc,hq0']
              first
               | (have h9':=h9 rfl
                  obtain ⟨ho,hk⟩:=h9'
                  subst ho
                  subst hk
                  obtain ⟨z1,z2,z3,z4,z5⟩:=hst [48+r % 10] rfl
                  exact ⟨by decide,⟨by simp,fun _=>trivial⟩,by decide,⟨some false,i+1,r / 10,1,[48+r % 10]⟩,Kept.of rfl KT.z KM.z,⟨by simp only []; omega,z1,z2,z3,z4,z5,fun e=>by simp at e⟩,by simp only []; omega⟩)
               | (obtain ⟨z1,z2,z3,z4,z5⟩:=hst (o'++[48+r % 10]) rfl
                  exact ⟨by decide,⟨s2,by simp,fun _=>trivial⟩,by decide,⟨some false,i+1,r / 10,k'+1,o'++[48+r % 10]⟩,Kept.of rfl KT.z KM.z,⟨by simp only []; omega,z1,z2,z3,z4,z5,fun e=>by simp at e⟩,by simp only []; omega⟩)
            · simp only [iV,iM,oV,oM,oNum,iX,iP,gM]
              simp only [go_sem,hi,hr,hm,hdv,hu8,hwi,hkb,map_snoc,hq0']
              obtain ⟨z1,z2,z3,z4,z5⟩:=hst (o'++[48+r % 10]) rfl
              exact ⟨by decide,⟨s2,by simp,fun _=>trivial⟩,by decide,⟨some true,i+1,r / 10,k'+1,o'++[48+r % 10]⟩,Kept.of rfl KT.z KM.z,⟨by simp only []; omega,z1,z2,z3,z4,z5,fun e=>by simp at e⟩,by simp only []; omega⟩
            · simp only [iV,iM,oV,oM,oNum,iX,iP,gM]
              simp only [go_sem,hi,hr,hm,hdv,hu8,hwi,hkb,map_snoc,hq0']
              obtain ⟨z1,z2,z3,z4,z5⟩:=hst (o'++[48+r % 10]) rfl
              exact ⟨by decide,⟨s2,by simp,fun _=>trivial⟩,by decide,⟨some false,i+1,r / 10,k'+1,o'++[48+r % 10]⟩,Kept.of rfl KT.z KM.z,⟨by simp only []; omega,z1,z2,z3,z4,z5,fun e=>by simp at e⟩,by simp only []; omega⟩
          · have hr0:r=0:=by
             rw [show 19-i=0 by omega] at s4; omega
            have hsp:w'++tl=w'.take (q+1)++(w'.drop (q+1)++tl):=by rw [← List.append_assoc,List.take_append_drop]
            have hdt:dOf 18446744073709551616 (w'.take (q+1))=W2:=(dOf_trim q2).trans hW2
            have hW2lt:W2<dOf 18446744073709551616 w:=by rw [hW2] at t4; omega
            have hend:a=dv o'+10^k'*dOf 18446744073709551616 (w'.take (q+1)):=by
             rw [hdt,s5,hr0,Nat.zero_add]
             first
              | (rw [show 19-i=0 by omega,Nat.pow_zero,Nat.one_mul])
              | (rw [hW0,Nat.mul_zero])
            have hcn:w'.take (q+1)=[]→Canon (o'.map (·-48)):=fun e=>s6 (by rw [← hdt,e]; rfl) hr0
            have htl:(q+1)+(w'.drop (q+1)++tl).length=x.length:=by rw [List.length_append,List.length_drop]; omega
            have hct:Canon (w'.take (q+1)):=by
             first
              | (exact canon_take (by omega) hzn)
              | (intro h; exact absurd rfl h)
            have hlt:(w'.take (q+1)).length=q+1:=by rw [List.length_take]; omega
            rcases j with _|_|_
            · obtain ⟨_,_,e3,e4⟩:=s7 rfl
              first
               | omega
               | (exfalso; omega)
            · simp only [iV,iM,oV,oM,oNum,iP,gM]
              simp only [go_sem,hi]
              rw [hsp]
              exact ⟨⟨q+1,w'.take (q+1),w'.drop (q+1)++tl,some (iP (some (false,false)) false),k',o'⟩,Kept.of rfl KT.z KM.z,⟨hlt,s2,fun d hd=>t2 d (List.mem_of_mem_take hd),hct,htl,s3,hend,hcn,fun e=>by simp at e⟩,by simp only []; rw [hdt]; exact hW2lt⟩
            · simp only [iV,iM,oV,oM,oNum,iP,gM]
              simp only [go_sem,hi]
              rw [hsp]
              exact ⟨⟨q+1,w'.take (q+1),w'.drop (q+1)++tl,some (iP (some (false,false)) true),k',o'⟩,Kept.of rfl KT.z KM.z,⟨hlt,s2,fun d hd=>t2 d (List.mem_of_mem_take hd),hct,htl,s3,hend,hcn,fun e=>by simp at e⟩,by simp only []; rw [hdt]; exact hW2lt⟩
     ·
      simp only [oV,oM,oNum]
      simp only [go_sem,hn]
      refine short_ic hP (L:=[120,4,0]) (y:=10000000000000000000) (by repeat (first|exact GenM.nil|refine GenM.upd ?_ rfl (by first|rfl|exact objOnly_U))) rfl rfl h1 (by omega) h3 (by decide) (by decide) ?_
      intro nx w' c t1 t2 t3 t4
      simp only [go_sem]
      refine trX_loop HE hP.mix [120,4,0] (fun q:Nat=>⟨upd (upd (upd (upd (fun _=>.junk) 2 (.str ⟨#[]⟩)) 3 (.sl 4 0 q 1)) 4 (oV (some (false,true)) k)) 5 (.int .u64 (c:Int)),oM .u8 (upd (upd (fun _=>.unused) 0 (.live [.opq (.nat a),.pad])) 4 (.live (List.map (fun d:Nat=>AV.int .u64 (d:Int)) (w'++tl)))) (some (false,true)) o,85⟩)
       (fun q=>q≤n∧∀ i,q≤i→w'.getD i 0=0) (fun q=>q) n 20 Has.z (Kept.of rfl KT.z KM.z) ⟨Nat.le_refl _,fun i hi=>getD_ge (by omega)⟩ 85 (by kernel_rfl) ?_
      rintro q ⟨q1,q2⟩
      obtain ⟨W2,hW2⟩:∃ W,dOf 18446744073709551616 w'=W:=⟨_,rfl⟩
      have hA:a=dv o+10^k*(c+10^(19-0)*W2):=by rw [h7,← t4,hW2,Nat.mul_comm W2,Nat.add_comm c]
      have hWc:0<W2∨0<c:=by
       rw [← t4,hW2] at hW; omega
      obtain ⟨q9,hq9⟩:∃ q9,q9+1=q+1:=⟨q,rfl⟩
      cases q with
      | zero =>
        have hW0:W2=0:=by rw [← hW2,← dOf_trim q2]; rfl
        simp only [oV,oM,oNum]
        simp only [go_sem,Nat.succ_pos,Nat.lt_irrefl]
        refine trX_loopV HE hP.mix (fun y:T3=>iL [4,0] (some (false,true)) y.j) (fun y=>⟨upd (upd (upd (upd (upd (fun _=>.junk) 2 (.str ⟨#[]⟩)) 3 (.sl 4 0 (0) 1)) 4 (iV (some (false,true)) y.j y.k)) 5 (.int .u64 (y.r:Int))) 6 (.int .i64 (y.i:Int)),iM .u8 (upd (upd (fun _=>.unused) 0 (.live [.opq (.nat a),.pad])) 4 (.live (List.map (fun d:Nat=>AV.int .u64 (d:Int)) (w'++tl)))) (some (false,true)) y.j o y.o,85⟩)
         (fun y=>y.i≤19∧y.o.length=y.k∧byt y.o∧y.r<10^(19-y.i)∧a=dv y.o+10^y.k*(y.r+10^(19-y.i)*W2)∧(W2=0→y.r=0→Canon (y.o.map (·-48)))∧(y.j=none→y.o=o∧y.k=k∧y.i=0∧(0<W2∨0<y.r))) (fun y=>20-y.i) ⟨none,0,c,k,o⟩ (fun y=>iX (some (false,true)) 17 y.j)
         (fun x r hr=>iL_has (k:=.u8) (l:=o) Has.z (some (false,true)) x.j r hr) (Kept.of rfl KT.z KM.z) ⟨by simp,h2,h6,t3,hA,fun e1 e2=>absurd hWc (by have e1:W2=0:=e1; have e2:c=0:=e2; omega),fun _=>⟨rfl,rfl,rfl,hWc⟩⟩ 85 (by kernel_rfl) ?_
        rintro ⟨j,i,r,k',o'⟩ ⟨s1,s2,s3,s4,s5,s6,s7⟩
        simp only [] at s1 s2 s3 s4 s5 s6 s7
        have hpw:i<19→10^(19-i)=10*10^(19-(i+1)):=fun h=>by rw [show 19-i=19-(i+1)+1 by omega,Nat.pow_succ,Nat.mul_comm]
        have hm:(r:Int).tmod 10=((r % 10:Nat):Int):=rfl
        have hrb:r<18446744073709551616:=Nat.lt_of_lt_of_le s4 (Nat.le_trans (Nat.pow_le_pow_right (by decide) (show 19-i≤19 by omega)) (by decide))
        have hdv:IntKind.u64.wrap ((r:Int).tdiv 10)=((r / 10:Nat):Int):=wu_div r 10 hrb
        have hu8:=u8_dig r
        have hwi:=wi_add1 i (by omega)
        have hq0':0<q9+1:=Nat.succ_pos q9
        by_cases hi:i<19
        · by_cases hr:0<r
          · have hgo:1≤r+10^(19-i)*W2:=by omega
            have hkb:k'+1≤1099511627776:=by
             have h1:10^k'*1≤10^k'*(r+10^(19-i)*W2):=Nat.mul_le_mul_left _ hgo
             have h2:2^k'≤10^k':=Nat.pow_le_pow_left (by decide) _
             have h3:=blen_lt a
             have h4:k'<blen a:=(Nat.pow_lt_pow_iff_right (a:=2) (by decide)).1 (by omega)
             omega
            have hst:∀ o'':List Nat,o''=o'++[48+r % 10]→o''.length=k'+1∧byt o''∧r / 10<10^(19-(i+1))∧a=dv o''+10^(k'+1)*(r / 10+10^(19-(i+1))*W2)∧(W2=0→r / 10=0→Canon (o''.map (·-48))):=fun o'' ho=>by
             subst ho
             refine ⟨by simp [s2],byt_snoc s3 r,by have:=hpw hi; omega,?_,fun e1 e2=>snoc_canon _ _ ?_⟩
             · rw [dv_snoc,s2,Nat.pow_succ]
               rw [hpw hi,Nat.mul_assoc] at s5
               exact dig_step s5
             · rw [e1,Nat.mul_zero,Nat.add_zero] at hgo
               omega
            rcases j with _|_|_
            · obtain ⟨e1,e2,_,_⟩:=s7 rfl
              subst e1
              subst e2
              simp only [iV,iM,oV,oM,oNum,iX,iP,gM]
              simp only [go_sem,hi,hr,hm,hdv,hu8,hwi,hkb,map_snoc,hq0']
              first
               | (have h9':=h9 rfl
                  obtain ⟨ho,hk⟩:=h9'
                  subst ho
                  subst hk
                  obtain ⟨z1,z2,z3,z4,z5⟩:=hst [48+r % 10] rfl
                  exact ⟨by decide,⟨by simp,fun _=>trivial⟩,by decide,⟨some false,i+1,r / 10,1,[48+r % 10]⟩,Kept.of rfl KT.z KM.z,⟨by simp only []; omega,z1,z2,z3,z4,z5,fun e=>by simp at e⟩,by simp only []; omega⟩)
               | (obtain ⟨z1,z2,z3,z4,z5⟩:=hst (o'++[48+r % 10]) rfl
                  exact ⟨by decide,⟨s2,by simp,fun _=>trivial⟩,by decide,⟨some false,i+1,r / 10,k'+1,o'++[48+r % 10]⟩,Kept.of rfl KT.z KM.z,⟨by simp only []; omega,z1,z2,z3,z4,z5,fun e=>by simp at e⟩,by simp only []; omega⟩)
            · simp only [iV,iM,oV,oM,oNum,iX,iP,gM]
              simp only [go_sem,hi,hr,hm,hdv,hu8,hwi,hkb,map_snoc,hq0']
              obtain ⟨z1,z2,z3,z4,z5⟩:=hst (o'++[48+r % 10]) rfl
              exact ⟨by decide,⟨s2,by simp,fun _=>trivial⟩,by decide,⟨some true,i+1,r / 10,k'+1,o'++[48+r % 10]⟩,Kept.of rfl KT.z KM.z,⟨by simp only []; omega,z1,z2,z3,z4,z5,fun e=>by simp at e⟩,by simp only []; omega⟩
            · simp only [iV,iM,oV,oM,oNum,iX,iP,gM]
              simp only [go_sem,hi,hr,hm,hdv,hu8,hwi,hkb,map_snoc,hq0']
              obtain ⟨z1,z2,z3,z4,z5⟩:=hst (o'++[48+r % 10]) rfl
              exact ⟨by decide,⟨s2,by simp,fun _=>trivial⟩,by decide,⟨some false,i+1,r / 10,k'+1,o'++[48+r % 10]⟩,Kept.of rfl KT.z KM.z,⟨by simp only []; omega,z1,z2,z3,z4,z5,fun e=>by simp at e⟩,by simp only []; omega⟩
          · have hr0:r=0:=by omega
            have hsp:w'++tl=w'.take (0)++(w'.drop (0)++tl):=by rw [← List.append_assoc,List.take_append_drop]
            have hdt:dOf 18446744073709551616 (w'.take (0))=W2:=(dOf_trim q2).trans hW2
            have hW2lt:W2<dOf 18446744073709551616 w:=by rw [hW2] at t4; omega
            have hend:a=dv o'+10^k'*dOf 18446744073709551616 (w'.take (0)):=by
             rw [hdt,s5,hr0,Nat.zero_add]
             first
              | (rw [show 19-i=0 by omega,Nat.pow_zero,Nat.one_mul])
              | (rw [hW0,Nat.mul_zero])
            have hcn:w'.take (0)=[]→Canon (o'.map (·-48)):=fun e=>s6 (by rw [← hdt,e]; rfl) hr0
            have htl:(0)+(w'.drop (0)++tl).length=x.length:=by rw [List.length_append,List.length_drop]; omega
            have hct:Canon (w'.take (0)):=by
             first
              | (exact canon_take (by omega) hzn)
              | (intro h; exact absurd rfl h)
            have hlt:(w'.take (0)).length=0:=by rw [List.length_take]; omega
            rcases j with _|_|_
            · obtain ⟨_,_,e3,e4⟩:=s7 rfl
              first
               | omega
               | (exfalso; omega)
            · simp only [iV,iM,oV,oM,oNum,iP,gM]
              simp only [go_sem,hi,hr,Nat.lt_irrefl]
              rw [hsp]
              exact ⟨⟨0,w'.take (0),w'.drop (0)++tl,some (iP (some (false,true)) false),k',o'⟩,Kept.of rfl KT.z KM.z,⟨hlt,s2,fun d hd=>t2 d (List.mem_of_mem_take hd),hct,htl,s3,hend,hcn,fun e=>by simp at e⟩,by simp only []; rw [hdt]; exact hW2lt⟩
            · simp only [iV,iM,oV,oM,oNum,iP,gM]
              simp only [go_sem,hi,hr,Nat.lt_irrefl]
              rw [hsp]
              exact ⟨⟨0,w'.take (0),w'.drop (0)++tl,some (iP (some (false,true)) true),k',o'⟩,Kept.of rfl KT.z KM.z,⟨hlt,s2,fun d hd=>t2 d (List.mem_of_mem_take hd),hct,htl,s3,hend,hcn,fun e=>by simp at e⟩,by simp only []; rw [hdt]; exact hW2lt⟩
        · have hr0:r=0:=by
           rw [show 19-i=0 by omega] at s4; omega
          have hsp:w'++tl=w'.take (0)++(w'.drop (0)++tl):=by rw [← List.append_assoc,List.take_append_drop]
          have hdt:dOf 18446744073709551616 (w'.take (0))=W2:=(dOf_trim q2).trans hW2
          have hW2lt:W2<dOf 18446744073709551616 w:=by rw [hW2] at t4; omega
          have hend:a=dv o'+10^k'*dOf 18446744073709551616 (w'.take (0)):=by
           rw [hdt,s5,hr0,Nat.zero_add]
           first
            | (rw [show 19-i=0 by omega,Nat.pow_zero,Nat.one_mul])
            | (rw [hW0,Nat.mul_zero])
          have hcn:w'.take (0)=[]→Canon (o'.map (·-48)):=fun e=>s6 (by rw [← hdt,e]; rfl) hr0
          have htl:(0)+(w'.drop (0)++tl).length=x.length:=by rw [List.length_append,List.length_drop]; omega
          have hct:Canon (w'.take (0)):=by
           first
            | (exact canon_take (by omega) hzn)
            | (intro h; exact absurd rfl h)
          have hlt:(w'.take (0)).length=0:=by rw [List.length_take]; omega
          rcases j with _|_|_
          · obtain ⟨_,_,e3,e4⟩:=s7 rfl
            first
             | omega
             | (exfalso; omega)
          · simp only [iV,iM,oV,oM,oNum,iP,gM]
            simp only [go_sem,hi]
            rw [hsp]
            exact ⟨⟨0,w'.take (0),w'.drop (0)++tl,some (iP (some (false,true)) false),k',o'⟩,Kept.of rfl KT.z KM.z,⟨hlt,s2,fun d hd=>t2 d (List.mem_of_mem_take hd),hct,htl,s3,hend,hcn,fun e=>by simp at e⟩,by simp only []; rw [hdt]; exact hW2lt⟩
          · simp only [iV,iM,oV,oM,oNum,iP,gM]
            simp only [go_sem,hi]
            rw [hsp]
            exact ⟨⟨0,w'.take (0),w'.drop (0)++tl,some (iP (some (false,true)) true),k',o'⟩,Kept.of rfl KT.z KM.z,⟨hlt,s2,fun d hd=>t2 d (List.mem_of_mem_take hd),hct,htl,s3,hend,hcn,fun e=>by simp at e⟩,by simp only []; rw [hdt]; exact hW2lt⟩
      | succ q =>
        have hql:q<w'.length:=by omega
        have hqg:q<(w'++tl).length:=by rw [List.length_append]; omega
        have hqn:q<w'.length+tl.length:=by omega
        have hgt:(w'++tl).getD q 0=w'.getD q 0:=getD_left hql
        have hqi:=wi_nat q (by omega)
        have hq1:q<q+1:=by omega
        have hq2:q≤q+1:=by omega
        have hq3:q≤w'.length+tl.length:=by omega
        rcases (by cases (w'.getD q 0 == 0)<;>simp:(w'.getD q 0 == 0)=true∨(w'.getD q 0 == 0)=false) with hz|hz
        · simp only [oV,oM,oNum]
          simp only [go_sem,Nat.succ_pos,hqi,hq1,hqg,hqn,gU hqg,hgt,hz,hq2,hq3]
          exact ⟨by simp,q,Kept.of rfl KT.z KM.z,⟨by omega,fun i hi=>by
           rcases Nat.eq_or_lt_of_le hi with rfl|hi
           · simpa using hz
           · exact q2 i hi⟩,by omega⟩
        · have hzn:w'.getD q 0 ≠ 0:=by simpa using hz
          have hW0:0<W2:=by
           rw [← hW2]; exact dOf_pos hql hzn
          simp only [oV,oM,oNum]
          simp only [go_sem,Nat.succ_pos,hqi,hq1,hqg,hqn,gU hqg,hgt,hz]
          refine trX_loopV HE hP.mix (fun y:T3=>iL [4,0] (some (false,true)) y.j) (fun y=>⟨upd (upd (upd (upd (upd (fun _=>.junk) 2 (.str ⟨#[]⟩)) 3 (.sl 4 0 (q+1) 1)) 4 (iV (some (false,true)) y.j y.k)) 5 (.int .u64 (y.r:Int))) 6 (.int .i64 (y.i:Int)),iM .u8 (upd (upd (fun _=>.unused) 0 (.live [.opq (.nat a),.pad])) 4 (.live (List.map (fun d:Nat=>AV.int .u64 (d:Int)) (w'++tl)))) (some (false,true)) y.j o y.o,85⟩)
           (fun y=>y.i≤19∧y.o.length=y.k∧byt y.o∧y.r<10^(19-y.i)∧a=dv y.o+10^y.k*(y.r+10^(19-y.i)*W2)∧(W2=0→y.r=0→Canon (y.o.map (·-48)))∧(y.j=none→y.o=o∧y.k=k∧y.i=0∧(0<W2∨0<y.r))) (fun y=>20-y.i) ⟨none,0,c,k,o⟩ (fun y=>iX (some (false,true)) 15 y.j)
           (fun x r hr=>iL_has (k:=.u8) (l:=o) Has.z (some (false,true)) x.j r hr) (Kept.of rfl KT.z KM.z) ⟨by simp,h2,h6,t3,hA,fun e1 e2=>absurd hWc (by have e1:W2=0:=e1; have e2:c=0:=e2; omega),fun _=>⟨rfl,rfl,rfl,hWc⟩⟩ 85 (by kernel_rfl) ?_
          rintro ⟨j,i,r,k',o'⟩ ⟨s1,s2,s3,s4,s5,s6,s7⟩
          simp only [] at s1 s2 s3 s4 s5 s6 s7
          have hpw:i<19→10^(19-i)=10*10^(19-(i+1)):=fun h=>by rw [show 19-i=19-(i+1)+1 by omega,Nat.pow_succ,Nat.mul_comm]
          have hm:(r:Int).tmod 10=((r % 10:Nat):Int):=rfl
          have hrb:r<18446744073709551616:=Nat.lt_of_lt_of_le s4 (Nat.le_trans (Nat.pow_le_pow_right (by decide) (show 19-i≤19 by omega)) (by decide))
          have hdv:IntKind.u64.wrap ((r:Int).tdiv 10)=((r / 10:Nat):Int):=wu_div r 10 hrb
          have hu8:=u8_dig r
          have hwi:=wi_add1 i (by omega)
          have hq0':0<q9+1:=Nat.succ_pos q9
          have hq0:0<q+1:=Nat.succ_pos q
          by_cases hi:i<19
          · have hgo:1≤r+10^(19-i)*W2:=by
             have:=Nat.mul_pos (Nat.pow_pos (show 0<10 by decide) (n:=19-i)) hW0
             omega
            have hr:=hq0
            have hkb:k'+1≤1099511627776:=by
             have h1:10^k'*1≤10^k'*(r+10^(19-i)*W2):=Nat.mul_le_mul_left _ hgo
             have h2:2^k'≤10^k':=Nat.pow_le_pow_left (by decide) _
             have h3:=blen_lt a
             have h4:k'<blen a:=(Nat.pow_lt_pow_iff_right (a:=2) (by decide)).1 (by omega)
             omega
            have hst:∀ o'':List Nat,o''=o'++[48+r % 10]→o''.length=k'+1∧byt o''∧r / 10<10^(19-(i+1))∧a=dv o''+10^(k'+1)*(r / 10+10^(19-(i+1))*W2)∧(W2=0→r / 10=0→Canon (o''.map (·-48))):=fun o'' ho=>by
             subst ho
             refine ⟨by simp [s2],byt_snoc s3 r,by have:=hpw hi; omega,?_,fun e1 e2=>snoc_canon _ _ ?_⟩
             · rw [dv_snoc,s2,Nat.pow_succ]
               rw [hpw hi,Nat.mul_assoc] at s5
               exact dig_step s5
             · rw [e1,Nat.mul_zero,Nat.add_zero] at hgo
               omega
            rcases j with _|_|_
            · obtain ⟨e1,e2,_,_⟩:=s7 rfl
              subst e1
              subst e2
              simp only [iV,iM,oV,oM,oNum,iX,iP,gM]
              simp only [go_sem,hi,hr,hm,hdv,hu8,hwi,hkb,map_snoc,hq0']
              first
               | (have h9':=h9 rfl
                  obtain ⟨ho,hk⟩:=h9'
                  subst ho
                  subst hk
                  obtain ⟨z1,z2,z3,z4,z5⟩:=hst [48+r % 10] rfl
                  exact ⟨by decide,⟨by simp,fun _=>trivial⟩,by decide,⟨some false,i+1,r / 10,1,[48+r % 10]⟩,Kept.of rfl KT.z KM.z,⟨by simp only []; omega,z1,z2,z3,z4,z5,fun e=>by simp at e⟩,by simp only []; omega⟩)
               | (obtain ⟨z1,z2,z3,z4,z5⟩:=hst (o'++[48+r % 10]) rfl
                  exact ⟨by decide,⟨s2,by simp,fun _=>trivial⟩,by decide,⟨some false,i+1,r / 10,k'+1,o'++[48+r % 10]⟩,Kept.of rfl KT.z KM.z,⟨by simp only []; omega,z1,z2,z3,z4,z5,fun e=>by simp at e⟩,by simp only []; omega⟩)
            · simp only [iV,iM,oV,oM,oNum,iX,iP,gM]
              simp only [go_sem,hi,hr,hm,hdv,hu8,hwi,hkb,map_snoc,hq0']
              obtain ⟨z1,z2,z3,z4,z5⟩:=hst (o'++[48+r % 10]) rfl
              exact ⟨by decide,⟨s2,by simp,fun _=>trivial⟩,by decide,⟨some true,i+1,r / 10,k'+1,o'++[48+r % 10]⟩,Kept.of rfl KT.z KM.z,⟨by simp only []; omega,z1,z2,z3,z4,z5,fun e=>by simp at e⟩,by simp only []; omega⟩
            · simp only [iV,iM,oV,oM,oNum,iX,iP,gM]
              simp only [go_sem,hi,hr,hm,hdv,hu8,hwi,hkb,map_snoc,hq0']
              obtain ⟨z1,z2,z3,z4,z5⟩:=hst (o'++[48+r % 10]) rfl
              exact ⟨by decide,⟨s2,by simp,fun _=>trivial⟩,by decide,⟨some false,i+1,r / 10,k'+1,o'++[48+r % 10]⟩,Kept.of rfl KT.z KM.z,⟨by simp only []; omega,z1,z2,z3,z4,z5,fun e=>by simp at e⟩,by simp only []; omega⟩
          · have hr0:r=0:=by
             rw [show 19-i=0 by omega] at s4; omega
            have hsp:w'++tl=w'.take (q+1)++(w'.drop (q+1)++tl):=by rw [← List.append_assoc,List.take_append_drop]
            have hdt:dOf 18446744073709551616 (w'.take (q+1))=W2:=(dOf_trim q2).trans hW2
            have hW2lt:W2<dOf 18446744073709551616 w:=by rw [hW2] at t4; omega
            have hend:a=dv o'+10^k'*dOf 18446744073709551616 (w'.take (q+1)):=by
             rw [hdt,s5,hr0,Nat.zero_add]
             first
              | (rw [show 19-i=0 by omega,Nat.pow_zero,Nat.one_mul])
              | (rw [hW0,Nat.mul_zero])
            have hcn:w'.take (q+1)=[]→Canon (o'.map (·-48)):=fun e=>s6 (by rw [← hdt,e]; rfl) hr0
            have htl:(q+1)+(w'.drop (q+1)++tl).length=x.length:=by rw [List.length_append,List.length_drop]; omega
            have hct:Canon (w'.take (q+1)):=by
             first
              | (exact canon_take (by omega) hzn)
              | (intro h; exact absurd rfl h)
            have hlt:(w'.take (q+1)).length=q+1:=by rw [List.length_take]; omega
            rcases j with _|_|_
            · obtain ⟨_,_,e3,e4⟩:=s7 rfl
              first
               | omega
               | (exfalso; omega)
            · simp only [iV,iM,oV,oM,oNum,iP,gM]
              simp only [go_sem,hi]
              rw [hsp]
              exact ⟨⟨q+1,w'.take (q+1),w'.drop (q+1)++tl,some (iP (some (false,true)) false),k',o'⟩,Kept.of rfl KT.z KM.z,⟨hlt,s2,fun d hd=>t2 d (List.mem_of_mem_take hd),hct,htl,s3,hend,hcn,fun e=>by simp at e⟩,by simp only []; rw [hdt]; exact hW2lt⟩
            · simp only [iV,iM,oV,oM,oNum,iP,gM]
              simp only [go_sem,hi]
              rw [hsp]
              exact ⟨⟨q+1,w'.take (q+1),w'.drop (q+1)++tl,some (iP (some (false,true)) true),k',o'⟩,Kept.of rfl KT.z KM.z,⟨hlt,s2,fun d hd=>t2 d (List.mem_of_mem_take hd),hct,htl,s3,hend,hcn,fun e=>by simp at e⟩,by simp only []; rw [hdt]; exact hW2lt⟩
     ·
      simp only [oV,oM,oNum]
      simp only [go_sem,hn]
      refine short_ic hP (L:=[130,4,0]) (y:=10000000000000000000) (by repeat (first|exact GenM.nil|refine GenM.upd ?_ rfl (by first|rfl|exact objOnly_U))) rfl rfl h1 (by omega) h3 (by decide) (by decide) ?_
      intro nx w' c t1 t2 t3 t4
      simp only [go_sem]
      refine trX_loop HE hP.mix [130,4,0] (fun q:Nat=>⟨upd (upd (upd (upd (fun _=>.junk) 2 (.str ⟨#[]⟩)) 3 (.sl 4 0 q 1)) 4 (oV (some (true,false)) k)) 5 (.int .u64 (c:Int)),oM .u8 (upd (upd (fun _=>.unused) 0 (.live [.opq (.nat a),.pad])) 4 (.live (List.map (fun d:Nat=>AV.int .u64 (d:Int)) (w'++tl)))) (some (true,false)) o,85⟩)
       (fun q=>q≤n∧∀ i,q≤i→w'.getD i 0=0) (fun q=>q) n 20 Has.z (Kept.of rfl KT.z KM.z) ⟨Nat.le_refl _,fun i hi=>getD_ge (by omega)⟩ 85 (by kernel_rfl) ?_
      rintro q ⟨q1,q2⟩
      obtain ⟨W2,hW2⟩:∃ W,dOf 18446744073709551616 w'=W:=⟨_,rfl⟩
      have hA:a=dv o+10^k*(c+10^(19-0)*W2):=by rw [h7,← t4,hW2,Nat.mul_comm W2,Nat.add_comm c]
      have hWc:0<W2∨0<c:=by
       rw [← t4,hW2] at hW; omega
      obtain ⟨q9,hq9⟩:∃ q9,q9+1=q+1:=⟨q,rfl⟩
      cases q with
      | zero =>
        have hW0:W2=0:=by rw [← hW2,← dOf_trim q2]; rfl
        simp only [oV,oM,oNum]
        simp only [go_sem,Nat.succ_pos,Nat.lt_irrefl]
        refine trX_loopV HE hP.mix (fun y:T3=>iL [4,0] (some (true,false)) y.j) (fun y=>⟨upd (upd (upd (upd (upd (fun _=>.junk) 2 (.str ⟨#[]⟩)) 3 (.sl 4 0 (0) 1)) 4 (iV (some (true,false)) y.j y.k)) 5 (.int .u64 (y.r:Int))) 6 (.int .i64 (y.i:Int)),iM .u8 (upd (upd (fun _=>.unused) 0 (.live [.opq (.nat a),.pad])) 4 (.live (List.map (fun d:Nat=>AV.int .u64 (d:Int)) (w'++tl)))) (some (true,false)) y.j o y.o,85⟩)
         (fun y=>y.i≤19∧y.o.length=y.k∧byt y.o∧y.r<10^(19-y.i)∧a=dv y.o+10^y.k*(y.r+10^(19-y.i)*W2)∧(W2=0→y.r=0→Canon (y.o.map (·-48)))∧(y.j=none→y.o=o∧y.k=k∧y.i=0∧(0<W2∨0<y.r))) (fun y=>20-y.i) ⟨none,0,c,k,o⟩ (fun y=>iX (some (true,false)) 17 y.j)
         (fun x r hr=>iL_has (k:=.u8) (l:=o) Has.z (some (true,false)) x.j r hr) (Kept.of rfl KT.z KM.z) ⟨by simp,h2,h6,t3,hA,fun e1 e2=>absurd hWc (by have e1:W2=0:=e1; have e2:c=0:=e2; omega),fun _=>⟨rfl,rfl,rfl,hWc⟩⟩ 85 (by kernel_rfl) ?_
        rintro ⟨j,i,r,k',o'⟩ ⟨s1,s2,s3,s4,s5,s6,s7⟩
        simp only [] at s1 s2 s3 s4 s5 s6 s7
        have hpw:i<19→10^(19-i)=10*10^(19-(i+1)):=fun h=>by rw [show 19-i=19-(i+1)+1 by omega,Nat.pow_succ,Nat.mul_comm]
        have hm:(r:Int).tmod 10=((r % 10:Nat):Int):=rfl
        have hrb:r<18446744073709551616:=Nat.lt_of_lt_of_le s4 (Nat.le_trans (Nat.pow_le_pow_right (by decide) (show 19-i≤19 by omega)) (by decide))
        have hdv:IntKind.u64.wrap ((r:Int).tdiv 10)=((r / 10:Nat):Int):=wu_div r 10 hrb
        have hu8:=u8_dig r
        have hwi:=wi_add1 i (by omega)
        have hq0':0<q9+1:=Nat.succ_pos q9
        by_cases hi:i<19
        · by_cases hr:0<r
          · have hgo:1≤r+10^(19-i)*W2:=by omega
            have hkb:k'+1≤1099511627776:=by
             have h1:10^k'*1≤10^k'*(r+10^(19-i)*W2):=Nat.mul_le_mul_left _ hgo
             have h2:2^k'≤10^k':=Nat.pow_le_pow_left (by decide) _
             have h3:=blen_lt a
             have h4:k'<blen a:=(Nat.pow_lt_pow_iff_right (a:=2) (by decide)).1 (by omega)
             omega
            have hst:∀ o'':List Nat,o''=o'++[48+r % 10]→o''.length=k'+1∧byt o''∧r / 10<10^(19-(i+1))∧a=dv o''+10^(k'+1)*(r / 10+10^(19-(i+1))*W2)∧(W2=0→r / 10=0→Canon (o''.map (·-48))):=fun o'' ho=>by
             subst ho
             refine ⟨by simp [s2],byt_snoc s3 r,by have:=hpw hi; omega,?_,fun e1 e2=>snoc_canon _ _ ?_⟩
             · rw [dv_snoc,s2,Nat.pow_succ]
               rw [hpw hi,Nat.mul_assoc] at s5
               exact dig_step s5
             · rw [e1,Nat.mul_zero,Nat.add_zero] at hgo
               omega
            rcases j with _|_|_
            · obtain ⟨e1,e2,_,_⟩:=s7 rfl
              subst e1
              subst e2
              simp only [iV,iM,oV,oM,oNum,iX,iP,gM]
              simp only [go_sem,hi,hr,hm,hdv,hu8,hwi,hkb,map_snoc,hq0']
              first
               | (have h9':=h9 rfl
                  obtain ⟨ho,hk⟩:=h9'
                  subst ho
                  subst hk
                  obtain ⟨z1,z2,z3,z4,z5⟩:=hst [48+r % 10] rfl
                  exact ⟨by decide,⟨by simp,fun _=>trivial⟩,by decide,⟨some false,i+1,r / 10,1,[48+r % 10]⟩,Kept.of rfl KT.z KM.z,⟨by simp only []; omega,z1,z2,z3,z4,z5,fun e=>by simp at e⟩,by simp only []; omega⟩)
               | (obtain ⟨z1,z2,z3,z4,z5⟩:=hst (o'++[48+r % 10]) rfl
                  exact ⟨by decide,⟨s2,by simp,fun _=>trivial⟩,by decide,⟨some false,i+1,r / 10,k'+1,o'++[48+r % 10]⟩,Kept.of rfl KT.z KM.z,⟨by simp only []; omega,z1,z2,z3,z4,z5,fun e=>by simp at e⟩,by simp only []; omega⟩)
            · simp only [iV,iM,oV,oM,oNum,iX,iP,gM]
              simp only [go_sem,hi,hr,hm,hdv,hu8,hwi,hkb,map_snoc,hq0']
              obtain ⟨z1,z2,z3,z4,z5⟩:=hst (o'++[48+r % 10]) rfl
              exact ⟨by decide,⟨s2,by simp,fun _=>trivial⟩,by decide,⟨some true,i+1,r / 10,k'+1,o'++[48+r % 10]⟩,Kept.of rfl KT.z KM.z,⟨by simp only []; omega,z1,z2,z3,z4,z5,fun e=>by simp at e⟩,by simp only []; omega⟩
            · simp only [iV,iM,oV,oM,oNum,iX,iP,gM]
              simp only [go_sem,hi,hr,hm,hdv,hu8,hwi,hkb,map_snoc,hq0']
              obtain ⟨z1,z2,z3,z4,z5⟩:=hst (o'++[48+r % 10]) rfl
              exact ⟨by decide,⟨s2,by simp,fun _=>trivial⟩,by decide,⟨some false,i+1,r / 10,k'+1,o'++[48+r % 10]⟩,Kept.of rfl KT.z KM.z,⟨by simp only []; omega,z1,z2,z3,z4,z5,fun e=>by simp at e⟩,by simp only []; omega⟩
          · have hr0:r=0:=by omega
            have hsp:w'++tl=w'.take (0)++(w'.drop (0)++tl):=by rw [← List.append_assoc,List.take_append_drop]
            have hdt:dOf 18446744073709551616 (w'.take (0))=W2:=(dOf_trim q2).trans hW2
            have hW2lt:W2<dOf 18446744073709551616 w:=by rw [hW2] at t4; omega
            have hend:a=dv o'+10^k'*dOf 18446744073709551616 (w'.take (0)):=by
             rw [hdt,s5,hr0,Nat.zero_add]
             first
              | (rw [show 19-i=0 by omega,Nat.pow_zero,Nat.one_mul])
              | (rw [hW0,Nat.mul_zero])
            have hcn:w'.take (0)=[]→Canon (o'.map (·-48)):=fun e=>s6 (by rw [← hdt,e]; rfl) hr0
            have htl:(0)+(w'.drop (0)++tl).length=x.length:=by rw [List.length_append,List.length_drop]; omega
            have hct:Canon (w'.take (0)):=by
             first
              | (exact canon_take (by omega) hzn)
              | (intro h; exact absurd rfl h)
            have hlt:(w'.take (0)).length=0:=by rw [List.length_take]; omega
            rcases j with _|_|_
            · obtain ⟨_,_,e3,e4⟩:=s7 rfl
              first
               | omega
               | (exfalso; omega)
            · simp only [iV,iM,oV,oM,oNum,iP,gM]
              simp only [go_sem,hi,hr,Nat.lt_irrefl]
              rw [hsp]
              exact ⟨⟨0,w'.take (0),w'.drop (0)++tl,some (iP (some (true,false)) false),k',o'⟩,Kept.of rfl KT.z KM.z,⟨hlt,s2,fun d hd=>t2 d (List.mem_of_mem_take hd),hct,htl,s3,hend,hcn,fun e=>by simp at e⟩,by simp only []; rw [hdt]; exact hW2lt⟩
            · simp only [iV,iM,oV,oM,oNum,iP,gM]
              simp only [go_sem,hi,hr,Nat.lt_irrefl]
              rw [hsp]
              exact ⟨⟨0,w'.take (0),w'.drop (0)++tl,some (iP (some (true,false)) true),k',o'⟩,Kept.of rfl KT.z KM.z,⟨hlt,s2,fun d hd=>t2 d (List.mem_of_mem_take hd),hct,htl,s3,hend,hcn,fun e=>by simp at e⟩,by simp only []; rw [hdt]; exact hW2lt⟩
        · have hr0:r=0:=by
           rw [show 19-i=0 by omega] at s4; omega
          have hsp:w'++tl=w'.take (0)++(w'.drop (0)++tl):=by rw [← List.append_assoc,List.take_append_drop]
          have hdt:dOf 18446744073709551616 (w'.take (0))=W2:=(dOf_trim q2).trans hW2
          have hW2lt:W2<dOf 18446744073709551616 w:=by rw [hW2] at t4; omega
          have hend:a=dv o'+10^k'*dOf 18446744073709551616 (w'.take (0)):=by
           rw [hdt,s5,hr0,Nat.zero_add]
           first
            | (rw [show 19-i=0 by omega,Nat.pow_zero,Nat.one_mul])
            | (rw [hW0,Nat.mul_zero])
          have hcn:w'.take (0)=[]→Canon (o'.map (·-48)):=fun e=>s6 (by rw [← hdt,e]; rfl) hr0
          have htl:(0)+(w'.drop (0)++tl).length=x.length:=by rw [List.length_append,List.length_drop]; omega
          have hct:Canon (w'.take (0)):=by
           first
            | (exact canon_take (by omega) hzn)
            | (intro h; exact absurd rfl h)
          have hlt:(w'.take (0)).length=0:=by rw [List.length_take]; omega
          rcases j with _|_|_
          · obtain ⟨_,_,e3,e4⟩:=s7 rfl
            first
             | omega
             | (exfalso; omega)
          · simp only [iV,iM,oV,oM,oNum,iP,gM]
            simp only [go_sem,hi]
            rw [hsp]
            exact ⟨⟨0,w'.take (0),w'.drop (0)++tl,some (iP (some (true,false)) false),k',o'⟩,Kept.of rfl KT.z KM.z,⟨hlt,s2,fun d hd=>t2 d (List.mem_of_mem_take hd),hct,htl,s3,hend,hcn,fun e=>by simp at e⟩,by simp only []; rw [hdt]; exact hW2lt⟩
          · simp only [iV,iM,oV,oM,oNum,iP,gM]
            simp only [go_sem,hi]
            rw [hsp]
            exact ⟨⟨0,w'.take (0),w'.drop (0)++tl,some (iP (some (true,false)) true),k',o'⟩,Kept.of rfl KT.z KM.z,⟨hlt,s2,fun d hd=>t2 d (List.mem_of_mem_take hd),hct,htl,s3,hend,hcn,fun e=>by simp at e⟩,by simp only []; rw [hdt]; exact hW2lt⟩
      | succ q =>
        have hql:q<w'.length:=by omega
        have hqg:q<(w'++tl).length:=by rw [List.length_append]; omega
        have hqn:q<w'.length+tl.length:=by omega
        have hgt:(w'++tl).getD q 0=w'.getD q 0:=getD_left hql
        have hqi:=wi_nat q (by omega)
        have hq1:q<q+1:=by omega
        have hq2:q≤q+1:=by omega
        have hq3:q≤w'.length+tl.length:=by omega
        rcases (by cases (w'.getD q 0 == 0)<;>simp:(w'.getD q 0 == 0)=true∨(w'.getD q 0 == 0)=false) with hz|hz
        · simp only [oV,oM,oNum]
          simp only [go_sem,Nat.succ_pos,hqi,hq1,hqg,hqn,gU hqg,hgt,hz,hq2,hq3]
          exact ⟨by simp,q,Kept.of rfl KT.z KM.z,⟨by omega,fun i hi=>by
           rcases Nat.eq_or_lt_of_le hi with rfl|hi
           · simpa using hz
           · exact q2 i hi⟩,by omega⟩
        · have hzn:w'.getD q 0 ≠ 0:=by simpa using hz
          have hW0:0<W2:=by
           rw [← hW2]; exact dOf_pos hql hzn
          simp only [oV,oM,oNum]
          simp only [go_sem,Nat.succ_pos,hqi,hq1,hqg,hqn,gU hqg,hgt,hz]
          refine trX_loopV HE hP.mix (fun y:T3=>iL [4,0] (some (true,false)) y.j) (fun y=>⟨upd (upd (upd (upd (upd (fun _=>.junk) 2 (.str ⟨#[]⟩)) 3 (.sl 4 0 (q+1) 1)) 4 (iV (some (true,false)) y.j y.k)) 5 (.int .u64 (y.r:Int))) 6 (.int .i64 (y.i:Int)),iM .u8 (upd (upd (fun _=>.unused) 0 (.live [.opq (.nat a),.pad])) 4 (.live (List.map (fun d:Nat=>AV.int .u64 (d:Int)) (w'++tl)))) (some (true,false)) y.j o y.o,85⟩)
           (fun y=>y.i≤19∧y.o.length=y.k∧byt y.o∧y.r<10^(19-y.i)∧a=dv y.o+10^y.k*(y.r+10^(19-y.i)*W2)∧(W2=0→y.r=0→Canon (y.o.map (·-48)))∧(y.j=none→y.o=o∧y.k=k∧y.i=0∧(0<W2∨0<y.r))) (fun y=>20-y.i) ⟨none,0,c,k,o⟩ (fun y=>iX (some (true,false)) 15 y.j)
           (fun x r hr=>iL_has (k:=.u8) (l:=o) Has.z (some (true,false)) x.j r hr) (Kept.of rfl KT.z KM.z) ⟨by simp,h2,h6,t3,hA,fun e1 e2=>absurd hWc (by have e1:W2=0:=e1; have e2:c=0:=e2; omega),fun _=>⟨rfl,rfl,rfl,hWc⟩⟩ 85 (by kernel_rfl) ?_
          rintro ⟨j,i,r,k',o'⟩ ⟨s1,s2,s3,s4,s5,s6,s7⟩
          simp only [] at s1 s2 s3 s4 s5 s6 s7
          have hpw:i<19→10^(19-i)=10*10^(19-(i+1)):=fun h=>by rw [show 19-i=19-(i+1)+1 by omega,Nat.pow_succ,Nat.mul_comm]
          have hm:(r:Int).tmod 10=((r % 10:Nat):Int):=rfl
          have hrb:r<18446744073709551616:=Nat.lt_of_lt_of_le s4 (Nat.le_trans (Nat.pow_le_pow_right (by decide) (show 19-i≤19 by omega)) (by decide))
          have hdv:IntKind.u64.wrap ((r:Int).tdiv 10)=((r / 10:Nat):Int):=wu_div r 10 hrb
          have hu8:=u8_dig r
          have hwi:=wi_add1 i (by omega)
          have hq0':0<q9+1:=Nat.succ_pos q9
          have hq0:0<q+1:=Nat.succ_pos q
          by_cases hi:i<19
          · have hgo:1≤r+10^(19-i)*W2:=by
             have:=Nat.mul_pos (Nat.pow_pos (show 0<10 by decide) (n:=19-i)) hW0
             omega
            have hr:=hq0
            have hkb:k'+1≤1099511627776:=by
             have h1:10^k'*1≤10^k'*(r+10^(19-i)*W2):=Nat.mul_le_mul_left _ hgo
             have h2:2^k'≤10^k':=Nat.pow_le_pow_left (by decide) _
             have h3:=blen_lt a
             have h4:k'<blen a:=(Nat.pow_lt_pow_iff_right (a:=2) (by decide)).1 (by omega)
             omega
            have hst:∀ o'':List Nat,o''=o'++[48+r % 10]→o''.length=k'+1∧byt o''∧r / 10<10^(19-(i+1))∧a=dv o''+10^(k'+1)*(r / 10+10^(19-(i+1))*W2)∧(W2=0→r / 10=0→Canon (o''.map (·-48))):=fun o'' ho=>by
             subst ho
             refine ⟨by simp [s2],byt_snoc s3 r,by have:=hpw hi; omega,?_,fun e1 e2=>snoc_canon _ _ ?_⟩
             · rw [dv_snoc,s2,Nat.pow_succ]
               rw [hpw hi,Nat.mul_assoc] at s5
               exact dig_step s5
             · rw [e1,Nat.mul_zero,Nat.add_zero] at hgo
               omega
            rcases j with _|_|_
            · obtain ⟨e1,e2,_,_⟩:=s7 rfl
              subst e1
              subst e2
              simp only [iV,iM,oV,oM,oNum,iX,iP,gM]
              simp only [go_sem,hi,hr,hm,hdv,hu8,hwi,hkb,map_snoc,hq0']
              first
               | (have h9':=h9 rfl
                  obtain ⟨ho,hk⟩:=h9'
                  subst ho
                  subst hk
                  obtain ⟨z1,z2,z3,z4,z5⟩:=hst [48+r % 10] rfl
                  exact ⟨by decide,⟨by simp,fun _=>trivial⟩,by decide,⟨some false,i+1,r / 10,1,[48+r % 10]⟩,Kept.of rfl KT.z KM.z,⟨by simp only []; omega,z1,z2,z3,z4,z5,fun e=>by simp at e⟩,by simp only []; omega⟩)
               | (obtain ⟨z1,z2,z3,z4,z5⟩:=hst (o'++[48+r % 10]) rfl
                  exact ⟨by decide,⟨s2,by simp,fun _=>trivial⟩,by decide,⟨some false,i+1,r / 10,k'+1,o'++[48+r % 10]⟩,Kept.of rfl KT.z KM.z,⟨by simp only []; omega,z1,z2,z3,z4,z5,fun e=>by simp at e⟩,by simp only []; omega⟩)
            · simp only [iV,iM,oV,oM,oNum,iX,iP,gM]
              simp only [go_sem,hi,hr,hm,hdv,hu8,hwi,hkb,map_snoc,hq0']
              obtain ⟨z1,z2,z3,z4,z5⟩:=hst (o'++[48+r % 10]) rfl
              exact ⟨by decide,⟨s2,by simp,fun _=>trivial⟩,by decide,⟨some true,i+1,r / 10,k'+1,o'++[48+r % 10]⟩,Kept.of rfl KT.z KM.z,⟨by simp only []; omega,z1,z2,z3,z4,z5,fun e=>by simp at e⟩,by simp only []; omega⟩
            · simp only [iV,iM,oV,oM,oNum,iX,iP,gM]
              simp only [go_sem,hi,hr,hm,hdv,hu8,hwi,hkb,map_snoc,hq0']
              obtain ⟨z1,z2,z3,z4,z5⟩:=hst (o'++[48+r % 10]) rfl
              exact ⟨by decide,⟨s2,by simp,fun _=>trivial⟩,by decide,⟨some false,i+1,r / 10,k'+1,o'++[48+r % 10]⟩,Kept.of rfl KT.z KM.z,⟨by simp only []; omega,z1,z2,z3,z4,z5,fun e=>by simp at e⟩,by simp only []; omega⟩
          · have hr0:r=0:=by
             rw [show 19-i=0 by omega] at s4; omega
            have hsp:w'++tl=w'.take (q+1)++(w'.drop (q+1)++tl):=by rw [← List.append_assoc,List.take_append_drop]
            have hdt:dOf 18446744073709551616 (w'.take (q+1))=W2:=(dOf_trim q2).trans hW2
            have hW2lt:W2<dOf 18446744073709551616 w:=by rw [hW2] at t4; omega
            have hend:a=dv o'+10^k'*dOf 18446744073709551616 (w'.take (q+1)):=by
             rw [hdt,s5,hr0,Nat.zero_add]
             first
              | (rw [show 19-i=0 by omega,Nat.pow_zero,Nat.one_mul])
              | (rw [hW0,Nat.mul_zero])
            have hcn:w'.take (q+1)=[]→Canon (o'.map (·-48)):=fun e=>s6 (by rw [← hdt,e]; rfl) hr0
            have htl:(q+1)+(w'.drop (q+1)++tl).length=x.length:=by rw [List.length_append,List.length_drop]; omega
            have hct:Canon (w'.take (q+1)):=by
             first
              | (exact canon_take (by omega) hzn)
              | (intro h; exact absurd rfl h)
            have hlt:(w'.take (q+1)).length=q+1:=by rw [List.length_take]; omega
            rcases j with _|_|_
            · obtain ⟨_,_,e3,e4⟩:=s7 rfl
              first
               | omega
               | (exfalso; omega)
            · simp only [iV,iM,oV,oM,oNum,iP,gM]
              simp only [go_sem,hi]
              rw [hsp]
              exact ⟨⟨q+1,w'.take (q+1),w'.drop (q+1)++tl,some (iP (some (true,false)) false),k',o'⟩,Kept.of rfl KT.z KM.z,⟨hlt,s2,fun d hd=>t2 d (List.mem_of_mem_take hd),hct,htl,s3,hend,hcn,fun e=>by simp at e⟩,by simp only []; rw [hdt]; exact hW2lt⟩
            · simp only [iV,iM,oV,oM,oNum,iP,gM]
              simp only [go_sem,hi]
              rw [hsp]
              exact ⟨⟨q+1,w'.take (q+1),w'.drop (q+1)++tl,some (iP (some (true,false)) true),k',o'⟩,Kept.of rfl KT.z KM.z,⟨hlt,s2,fun d hd=>t2 d (List.mem_of_mem_take hd),hct,htl,s3,hend,hcn,fun e=>by simp at e⟩,by simp only []; rw [hdt]; exact hW2lt⟩
     ·
      simp only [oV,oM,oNum]
      simp only [go_sem,hn]
      refine short_ic hP (L:=[140,4,0]) (y:=10000000000000000000) (by repeat (first|exact GenM.nil|refine GenM.upd ?_ rfl (by first|rfl|exact objOnly_U))) rfl rfl h1 (by omega) h3 (by decide) (by decide) ?_
      intro nx w' c t1 t2 t3 t4
      simp only [go_sem]
      refine trX_loop HE hP.mix [140,4,0] (fun q:Nat=>⟨upd (upd (upd (upd (fun _=>.junk) 2 (.str ⟨#[]⟩)) 3 (.sl 4 0 q 1)) 4 (oV (some (true,true)) k)) 5 (.int .u64 (c:Int)),oM .u8 (upd (upd (fun _=>.unused) 0 (.live [.opq (.nat a),.pad])) 4 (.live (List.map (fun d:Nat=>AV.int .u64 (d:Int)) (w'++tl)))) (some (true,true)) o,85⟩)
       (fun q=>q≤n∧∀ i,q≤i→w'.getD i 0=0) (fun q=>q) n 20 Has.z (Kept.of rfl KT.z KM.z) ⟨Nat.le_refl _,fun i hi=>getD_ge (by omega)⟩ 85 (by kernel_rfl) ?_
      rintro q ⟨q1,q2⟩
      obtain ⟨W2,hW2⟩:∃ W,dOf 18446744073709551616 w'=W:=⟨_,rfl⟩
      have hA:a=dv o+10^k*(c+10^(19-0)*W2):=by rw [h7,← t4,hW2,Nat.mul_comm W2,Nat.add_comm c]
      have hWc:0<W2∨0<c:=by
       rw [← t4,hW2] at hW; omega
      obtain ⟨q9,hq9⟩:∃ q9,q9+1=q+1:=⟨q,rfl⟩
      cases q with
      | zero =>
        have hW0:W2=0:=by rw [← hW2,← dOf_trim q2]; rfl
        simp only [oV,oM,oNum]
        simp only [go_sem,Nat.succ_pos,Nat.lt_irrefl]
        refine trX_loopV HE hP.mix (fun y:T3=>iL [4,0] (some (true,true)) y.j) (fun y=>⟨upd (upd (upd (upd (upd (fun _=>.junk) 2 (.str ⟨#[]⟩)) 3 (.sl 4 0 (0) 1)) 4 (iV (some (true,true)) y.j y.k)) 5 (.int .u64 (y.r:Int))) 6 (.int .i64 (y.i:Int)),iM .u8 (upd (upd (fun _=>.unused) 0 (.live [.opq (.nat a),.pad])) 4 (.live (List.map (fun d:Nat=>AV.int .u64 (d:Int)) (w'++tl)))) (some (true,true)) y.j o y.o,85⟩)
         (fun y=>y.i≤19∧y.o.length=y.k∧byt y.o∧y.r<10^(19-y.i)∧a=dv y.o+10^y.k*(y.r+10^(19-y.i)*W2)∧(W2=0→y.r=0→Canon (y.o.map (·-48)))∧(y.j=none→y.o=o∧y.k=k∧y.i=0∧(0<W2∨0<y.r))) (fun y=>20-y.i) ⟨none,0,c,k,o⟩ (fun y=>iX (some (true,true)) 17 y.j)
         (fun x r hr=>iL_has (k:=.u8) (l:=o) Has.z (some (true,true)) x.j r hr) (Kept.of rfl KT.z KM.z) ⟨by simp,h2,h6,t3,hA,fun e1 e2=>absurd hWc (by have e1:W2=0:=e1; have e2:c=0:=e2; omega),fun _=>⟨rfl,rfl,rfl,hWc⟩⟩ 85 (by kernel_rfl) ?_
        rintro ⟨j,i,r,k',o'⟩ ⟨s1,s2,s3,s4,s5,s6,s7⟩
        simp only [] at s1 s2 s3 s4 s5 s6 s7
        have hpw:i<19→10^(19-i)=10*10^(19-(i+1)):=fun h=>by rw [show 19-i=19-(i+1)+1 by omega,Nat.pow_succ,Nat.mul_comm]
        have hm:(r:Int).tmod 10=((r % 10:Nat):Int):=rfl
        have hrb:r<18446744073709551616:=Nat.lt_of_lt_of_le s4 (Nat.le_trans (Nat.pow_le_pow_right (by decide) (show 19-i≤19 by omega)) (by decide))
        have hdv:IntKind.u64.wrap ((r:Int).tdiv 10)=((r / 10:Nat):Int):=wu_div r 10 hrb
        have hu8:=u8_dig r
        have hwi:=wi_add1 i (by omega)
        have hq0':0<q9+1:=Nat.succ_pos q9
        by_cases hi:i<19
        · by_cases hr:0<r
          · have hgo:1≤r+10^(19-i)*W2:=by omega
            have hkb:k'+1≤1099511627776:=by
             have h1:10^k'*1≤10^k'*(r+10^(19-i)*W2):=Nat.mul_le_mul_left _ hgo
             have h2:2^k'≤10^k':=Nat.pow_le_pow_left (by decide) _
             have h3:=blen_lt a
             have h4:k'<blen a:=(Nat.pow_lt_pow_iff_right (a:=2) (by decide)).1 (by omega)
             omega
            have hst:∀ o'':List Nat,o''=o'++[48+r % 10]→o''.length=k'+1∧byt o''∧r / 10<10^(19-(i+1))∧a=dv o''+10^(k'+1)*(r / 10+10^(19-(i+1))*W2)∧(W2=0→r / 10=0→Canon (o''.map (·-48))):=fun o'' ho=>by
             subst ho
             refine ⟨by simp [s2],byt_snoc s3 r,by have:=hpw hi; omega,?_,fun e1 e2=>snoc_canon _ _ ?_⟩
             · rw [dv_snoc,s2,Nat.pow_succ]
               rw [hpw hi,Nat.mul_assoc] at s5
               exact dig_step s5
             · rw [e1,Nat.mul_zero,Nat.add_zero] at hgo
               omega
            rcases j with _|_|_
            · obtain ⟨e1,e2,_,_⟩:=s7 rfl
              subst e1
              subst e2
              simp only [iV,iM,oV,oM,oNum,iX,iP,gM]
              simp only [go_sem,hi,hr,hm,hdv,hu8,hwi,hkb,map_snoc,hq0']
              first
               | (have h9':=h9 rfl
                  obtain ⟨ho,hk⟩:=h9'
                  subst ho
                  subst hk
                  obtain ⟨z1,z2,z3,z4,z5⟩:=hst [48+r % 10] rfl
                  exact ⟨by decide,⟨by simp,fun _=>trivial⟩,by decide,⟨some false,i+1,r / 10,1,[48+r % 10]⟩,Kept.of rfl KT.z KM.z,⟨by simp only []; omega,z1,z2,z3,z4,z5,fun e=>by simp at e⟩,by simp only []; omega⟩)
               | (obtain ⟨z1,z2,z3,z4,z5⟩:=hst (o'++[48+r % 10]) rfl
                  exact ⟨by decide,⟨s2,by simp,fun _=>trivial⟩,by decide,⟨some false,i+1,r / 10,k'+1,o'++[48+r % 10]⟩,Kept.of rfl KT.z KM.z,⟨by simp only []; omega,z1,z2,z3,z4,z5,fun e=>by simp at e⟩,by simp only []; omega⟩)
            · simp only [iV,iM,oV,oM,oNum,iX,iP,gM]
              simp only [go_sem,hi,hr,hm,hdv,hu8,hwi,hkb,map_snoc,hq0']
              obtain ⟨z1,z2,z3,z4,z5⟩:=hst (o'++[48+r % 10]) rfl
              exact ⟨by decide,⟨s2,by simp,fun _=>trivial⟩,by decide,⟨some true,i+1,r / 10,k'+1,o'++[48+r % 10]⟩,Kept.of rfl KT.z KM.z,⟨by simp only []; omega,z1,z2,z3,z4,z5,fun e=>by simp at e⟩,by simp only []; omega⟩
            · simp only [iV,iM,oV,oM,oNum,iX,iP,gM]
              simp only [go_sem,hi,hr,hm,hdv,hu8,hwi,hkb,map_snoc,hq0']
              obtain ⟨z1,z2,z3,z4,z5⟩:=hst (o'++[48+r % 10]) rfl
              exact ⟨by decide,⟨s2,by simp,fun _=>trivial⟩,by decide,⟨some false,i+1,r / 10,k'+1,o'++[48+r % 10]⟩,Kept.of rfl KT.z KM.z,⟨by simp only []; omega,z1,z2,z3,z4,z5,fun e=>by simp at e⟩,by simp only []; omega⟩
          · have hr0:r=0:=by omega
            have hsp:w'++tl=w'.take (0)++(w'.drop (0)++tl):=by rw [← List.append_assoc,List.take_append_drop]
            have hdt:dOf 18446744073709551616 (w'.take (0))=W2:=(dOf_trim q2).trans hW2
            have hW2lt:W2<dOf 18446744073709551616 w:=by rw [hW2] at t4; omega
            have hend:a=dv o'+10^k'*dOf 18446744073709551616 (w'.take (0)):=by
             rw [hdt,s5,hr0,Nat.zero_add]
             first
              | (rw [show 19-i=0 by omega,Nat.pow_zero,Nat.one_mul])
              | (rw [hW0,Nat.mul_zero])
            have hcn:w'.take (0)=[]→Canon (o'.map (·-48)):=fun e=>s6 (by rw [← hdt,e]; rfl) hr0
            have htl:(0)+(w'.drop (0)++tl).length=x.length:=by rw [List.length_append,List.length_drop]; omega
            have hct:Canon (w'.take (0)):=by
             first
              | (exact canon_take (by omega) hzn)
              | (intro h; exact absurd rfl h)
            have hlt:(w'.take (0)).length=0:=by rw [List.length_take]; omega
            rcases j with _|_|_
            · obtain ⟨_,_,e3,e4⟩:=s7 rfl
              first
               | omega
               | (exfalso; omega)
            · simp only [iV,iM,oV,oM,oNum,iP,gM]
              simp only [go_sem,hi,hr,Nat.lt_irrefl]
              rw [hsp]
              exact ⟨⟨0,w'.take (0),w'.drop (0)++tl,some (iP (some (true,true)) false),k',o'⟩,Kept.of rfl KT.z KM.z,⟨hlt,s2,fun d hd=>t2 d (List.mem_of_mem_take hd),hct,htl,s3,hend,hcn,fun e=>by simp at e⟩,by simp only []; rw [hdt]; exact hW2lt⟩
            · simp only [iV,iM,oV,oM,oNum,iP,gM]
              simp only [go_sem,hi,hr,Nat.lt_irrefl]
              rw [hsp]
              exact ⟨⟨0,w'.take (0),w'.drop (0)++tl,some (iP (some (true,true)) true),k',o'⟩,Kept.of rfl KT.z KM.z,⟨hlt,s2,fun d hd=>t2 d (List.mem_of_mem_take hd),hct,htl,s3,hend,hcn,fun e=>by simp at e⟩,by simp only []; rw [hdt]; exact hW2lt⟩
        · have hr0:r=0:=by
           rw [show 19-i=0 by omega] at s4; omega
          have hsp:w'++tl=w'.take (0)++(w'.drop (0)++tl):=by rw [← List.append_assoc,List.take_append_drop]
          have hdt:dOf 18446744073709551616 (w'.take (0))=W2:=(dOf_trim q2).trans hW2
          have hW2lt:W2<dOf 18446744073709551616 w:=by rw [hW2] at t4; omega
          have hend:a=dv o'+10^k'*dOf 18446744073709551616 (w'.take (0)):=by
           rw [hdt,s5,hr0,Nat.zero_add]
           first
            | (rw [show 19-i=0 by omega,Nat.pow_zero,Nat.one_mul])
            | (rw [hW0,Nat.mul_zero])
          have hcn:w'.take (0)=[]→Canon (o'.map (·-48)):=fun e=>s6 (by rw [← hdt,e]; rfl) hr0
          have htl:(0)+(w'.drop (0)++tl).length=x.length:=by rw [List.length_append,List.length_drop]; omega
          have hct:Canon (w'.take (0)):=by
           first
            | (exact canon_take (by omega) hzn)
            | (intro h; exact absurd rfl h)
          have hlt:(w'.take (0)).length=0:=by rw [List.length_take]; omega
          rcases j with _|_|_
          · obtain ⟨_,_,e3,e4⟩:=s7 rfl
            first
             | omega
             | (exfalso; omega)
          · simp only [iV,iM,oV,oM,oNum,iP,gM]
            simp only [go_sem,hi]
            rw [hsp]
            exact ⟨⟨0,w'.take (0),w'.drop (0)++tl,some (iP (some (true,true)) false),k',o'⟩,Kept.of rfl KT.z KM.z,⟨hlt,s2,fun d hd=>t2 d (List.mem_of_mem_take hd),hct,htl,s3,hend,hcn,fun e=>by simp at e⟩,by simp only []; rw [hdt]; exact hW2lt⟩
          · simp only [iV,iM,oV,oM,oNum,iP,gM]
            simp only [go_sem,hi]
            rw [hsp]
            exact ⟨⟨0,w'.take (0),w'.drop (0)++tl,some (iP (some (true,true)) true),k',o'⟩,Kept.of rfl KT.z KM.z,⟨hlt,s2,fun d hd=>t2 d (List.mem_of_mem_take hd),hct,htl,s3,hend,hcn,fun e=>by simp at e⟩,by simp only []; rw [hdt]; exact hW2lt⟩
      | succ q =>
        have hql:q<w'.length:=by omega
        have hqg:q<(w'++tl).length:=by rw [List.length_append]; omega
        have hqn:q<w'.length+tl.length:=by omega
        have hgt:(w'++tl).getD q 0=w'.getD q 0:=getD_left hql
        have hqi:=wi_nat q (by omega)
        have hq1:q<q+1:=by omega
        have hq2:q≤q+1:=by omega
        have hq3:q≤w'.length+tl.length:=by omega
        rcases (by cases (w'.getD q 0 == 0)<;>simp:(w'.getD q 0 == 0)=true∨(w'.getD q 0 == 0)=false) with hz|hz
        · simp only [oV,oM,oNum]
          simp only [go_sem,Nat.succ_pos,hqi,hq1,hqg,hqn,gU hqg,hgt,hz,hq2,hq3]
          exact ⟨by simp,q,Kept.of rfl KT.z KM.z,⟨by omega,fun i hi=>by
           rcases Nat.eq_or_lt_of_le hi with rfl|hi
           · simpa using hz
           · exact q2 i hi⟩,by omega⟩
        · have hzn:w'.getD q 0 ≠ 0:=by simpa using hz
          have hW0:0<W2:=by
           rw [← hW2]; exact dOf_pos hql hzn
          simp only [oV,oM,oNum]
          simp only [go_sem,Nat.succ_pos,hqi,hq1,hqg,hqn,gU hqg,hgt,hz]
          refine trX_loopV HE hP.mix (fun y:T3=>iL [4,0] (some (true,true)) y.j) (fun y=>⟨upd (upd (upd (upd (upd (fun _=>.junk) 2 (.str ⟨#[]⟩)) 3 (.sl 4 0 (q+1) 1)) 4 (iV (some (true,true)) y.j y.k)) 5 (.int .u64 (y.r:Int))) 6 (.int .i64 (y.i:Int)),iM .u8 (upd (upd (fun _=>.unused) 0 (.live [.opq (.nat a),.pad])) 4 (.live (List.map (fun d:Nat=>AV.int .u64 (d:Int)) (w'++tl)))) (some (true,true)) y.j o y.o,85⟩)
           (fun y=>y.i≤19∧y.o.length=y.k∧byt y.o∧y.r<10^(19-y.i)∧a=dv y.o+10^y.k*(y.r+10^(19-y.i)*W2)∧(W2=0→y.r=0→Canon (y.o.map (·-48)))∧(y.j=none→y.o=o∧y.k=k∧y.i=0∧(0<W2∨0<y.r))) (fun y=>20-y.i) ⟨none,0,c,k,o⟩ (fun y=>iX (some (true,true)) 15 y.j)
           (fun x r hr=>iL_has (k:=.u8) (l:=o) Has.z (some (true,true)) x.j r hr) (Kept.of rfl KT.z KM.z) ⟨by simp,h2,h6,t3,hA,fun e1 e2=>absurd hWc (by have e1:W2=0:=e1; have e2:c=0:=e2; omega),fun _=>⟨rfl,rfl,rfl,hWc⟩⟩ 85 (by kernel_rfl) ?_
          rintro ⟨j,i,r,k',o'⟩ ⟨s1,s2,s3,s4,s5,s6,s7⟩
          simp only [] at s1 s2 s3 s4 s5 s6 s7
          have hpw:i<19→10^(19-i)=10*10^(19-(i+1)):=fun h=>by rw [show 19-i=19-(i+1)+1 by omega,Nat.pow_succ,Nat.mul_comm]
          have hm:(r:Int).tmod 10=((r % 10:Nat):Int):=rfl
          have hrb:r<18446744073709551616:=Nat.lt_of_lt_of_le s4 (Nat.le_trans (Nat.pow_le_pow_right (by decide) (show 19-i≤19 by omega)) (by decide))
          have hdv:IntKind.u64.wrap ((r:Int).tdiv 10)=((r / 10:Nat):Int):=wu_div r 10 hrb
          have hu8:=u8_dig r
          have hwi:=wi_add1 i (by omega)
          have hq0':0<q9+1:=Nat.succ_pos q9
          have hq0:0<q+1:=Nat.succ_pos q
          by_cases hi:i<19
          · have hgo:1≤r+10^(19-i)*W2:=by
             have:=Nat.mul_pos (Nat.pow_pos (show 0<10 by decide) (n:=19-i)) hW0
             omega
            have hr:=hq0
            have hkb:k'+1≤1099511627776:=by
             have h1:10^k'*1≤10^k'*(r+10^(19-i)*W2):=Nat.mul_le_mul_left _ hgo
             have h2:2^k'≤10^k':=Nat.pow_le_pow_left (by decide) _
             have h3:=blen_lt a
             have h4:k'<blen a:=(Nat.pow_lt_pow_iff_right (a:=2) (by decide)).1 (by omega)
             omega
            have hst:∀ o'':List Nat,o''=o'++[48+r % 10]→o''.length=k'+1∧byt o''∧r / 10<10^(19-(i+1))∧a=dv o''+10^(k'+1)*(r / 10+10^(19-(i+1))*W2)∧(W2=0→r / 10=0→Canon (o''.map (·-48))):=fun o'' ho=>by
             subst ho
             refine ⟨by simp [s2],byt_snoc s3 r,by have:=hpw hi; omega,?_,fun e1 e2=>snoc_canon _ _ ?_⟩
             · rw [dv_snoc,s2,Nat.pow_succ]
               rw [hpw hi,Nat.mul_assoc] at s5
               exact dig_step s5
             · rw [e1,Nat.mul_zero,Nat.add_zero] at hgo
               omega
            rcases j with _|_|_
            · obtain ⟨e1,e2,_,_⟩:=s7 rfl
              subst e1
              subst e2
              simp only [iV,iM,oV,oM,oNum,iX,iP,gM]
              simp only [go_sem,hi,hr,hm,hdv,hu8,hwi,hkb,map_snoc,hq0']
              first
               | (have h9':=h9 rfl
                  obtain ⟨ho,hk⟩:=h9'
                  subst ho
                  subst hk
                  obtain ⟨z1,z2,z3,z4,z5⟩:=hst [48+r % 10] rfl
                  exact ⟨by decide,⟨by simp,fun _=>trivial⟩,by decide,⟨some false,i+1,r / 10,1,[48+r % 10]⟩,Kept.of rfl KT.z KM.z,⟨by simp only []; omega,z1,z2,z3,z4,z5,fun e=>by simp at e⟩,by simp only []; omega⟩)
               | (obtain ⟨z1,z2,z3,z4,z5⟩:=hst (o'++[48+r % 10]) rfl
                  exact ⟨by decide,⟨s2,by simp,fun _=>trivial⟩,by decide,⟨some false,i+1,r / 10,k'+1,o'++[48+r % 10]⟩,Kept.of rfl KT.z KM.z,⟨by simp only []; omega,z1,z2,z3,z4,z5,fun e=>by simp at e⟩,by simp only []; omega⟩)
            · simp only [iV,iM,oV,oM,oNum,iX,iP,gM]
              simp only [go_sem,hi,hr,hm,hdv,hu8,hwi,hkb,map_snoc,hq0']
              obtain ⟨z1,z2,z3,z4,z5⟩:=hst (o'++[48+r % 10]) rfl
              exact ⟨by decide,⟨s2,by simp,fun _=>trivial⟩,by decide,⟨some true,i+1,r / 10,k'+1,o'++[48+r % 10]⟩,Kept.of rfl KT.z KM.z,⟨by simp only []; omega,z1,z2,z3,z4,z5,fun e=>by simp at e⟩,by simp only []; omega⟩
            · simp only [iV,iM,oV,oM,oNum,iX,iP,gM]
              simp only [go_sem,hi,hr,hm,hdv,hu8,hwi,hkb,map_snoc,hq0']
              obtain ⟨z1,z2,z3,z4,z5⟩:=hst (o'++[48+r % 10]) rfl
              exact ⟨by decide,⟨s2,by simp,fun _=>trivial⟩,by decide,⟨some false,i+1,r / 10,k'+1,o'++[48+r % 10]⟩,Kept.of rfl KT.z KM.z,⟨by simp only []; omega,z1,z2,z3,z4,z5,fun e=>by simp at e⟩,by simp only []; omega⟩
          · have hr0:r=0:=by
             rw [show 19-i=0 by omega] at s4; omega
            have hsp:w'++tl=w'.take (q+1)++(w'.drop (q+1)++tl):=by rw [← List.append_assoc,List.take_append_drop]
            have hdt:dOf 18446744073709551616 (w'.take (q+1))=W2:=(dOf_trim q2).trans hW2
            have hW2lt:W2<dOf 18446744073709551616 w:=by rw [hW2] at t4; omega
            have hend:a=dv o'+10^k'*dOf 18446744073709551616 (w'.take (q+1)):=by
             rw [hdt,s5,hr0,Nat.zero_add]
             first
              | (rw [show 19-i=0 by omega,Nat.pow_zero,Nat.one_mul])
              | (rw [hW0,Nat.mul_zero])
            have hcn:w'.take (q+1)=[]→Canon (o'.map (·-48)):=fun e=>s6 (by rw [← hdt,e]; rfl) hr0
            have htl:(q+1)+(w'.drop (q+1)++tl).length=x.length:=by rw [List.length_append,List.length_drop]; omega
            have hct:Canon (w'.take (q+1)):=by
             first
              | (exact canon_take (by omega) hzn)
              | (intro h; exact absurd rfl h)
            have hlt:(w'.take (q+1)).length=q+1:=by rw [List.length_take]; omega
            rcases j with _|_|_
            · obtain ⟨_,_,e3,e4⟩:=s7 rfl
              first
               | omega
               | (exfalso; omega)
            · simp only [iV,iM,oV,oM,oNum,iP,gM]
              simp only [go_sem,hi]
              rw [hsp]
              exact ⟨⟨q+1,w'.take (q+1),w'.drop (q+1)++tl,some (iP (some (true,true)) false),k',o'⟩,Kept.of rfl KT.z KM.z,⟨hlt,s2,fun d hd=>t2 d (List.mem_of_mem_take hd),hct,htl,s3,hend,hcn,fun e=>by simp at e⟩,by simp only []; rw [hdt]; exact hW2lt⟩
            · simp only [iV,iM,oV,oM,oNum,iP,gM]
              simp only [go_sem,hi]
              rw [hsp]
              exact ⟨⟨q+1,w'.take (q+1),w'.drop (q+1)++tl,some (iP (some (true,true)) true),k',o'⟩,Kept.of rfl KT.z KM.z,⟨hlt,s2,fun d hd=>t2 d (List.mem_of_mem_take hd),hct,htl,s3,hend,hcn,fun e=>by simp at e⟩,by simp only []; rw [hdt]; exact hW2lt⟩
   · have hn0:n=0:=by omega
     have hw0:w=[]:=List.length_eq_zero_iff.1 (by omega)
     subst hw0
     have hao:a=dv o:=by rw [h7]; simp [dOf]
     have hon:0<k:=by
      rcases Nat.eq_zero_or_pos k with hk|hk
      · have:o=[]:=List.length_eq_zero_iff.1 (by omega)
        rw [this] at hao; simp [dv,dOf] at hao; omega
      · exact hk
     have hdl:=text_end h6 hao (h8 rfl) h0
     have hkb:k≤1099511627776:=by
      have e:=congrArg List.length hdl
      unfold decL dec10 at e
      rw [if_neg (by omega),List.length_reverse,List.length_map,List.length_reverse,h2] at e
      have h1:=digs_length_le 10 a (blen a) (by decide) (Nat.lt_of_lt_of_le (blen_lt a) (Nat.pow_le_pow_left (by decide) _))
      omega
     rcases D with _|p
     · have:=h9 rfl; omega
     ·
      obtain ⟨nm,hnm,hn0',hn4'⟩:∃ nm,oNum p=nm∧nm ≠ 0∧nm ≠ 4:=⟨_,rfl,by rcases p with ⟨_|_,_|_⟩<;>simp [oNum],by rcases p with ⟨_|_,_|_⟩<;>simp [oNum]⟩
      have hna:(nm == 0)=false:=by simpa using hn0'
      have hnb:(nm == 4)=false:=by simpa using hn4'
      have hnc:(0 == nm)=false:=by simpa using Ne.symm hn0'
      have hnd:(4 == nm)=false:=by simpa using Ne.symm hn4'
      have hr:[nm,4,0].contains nm=true:=by simp
      have hg:∀ z:List Nat,GenM [nm,4,0] (upd (upd (upd (fun _=>.unused) 0 (.live [.opq (.nat a),.pad])) 4 (.live (List.map (fun d:Nat=>AV.int .u64 (d:Int)) (tl)))) nm (.live (z.map fun d:Nat=>AV.int .u8 (d:Int)))):=fun z=>((GenM.nil.upd (by simp) rfl).upd (by simp) objOnly_U).upd hr objOnly_U
      simp only [oV,oM,hnm]
      have hk1:IntKind.i64.wrap ((k:Int)-1)=((k-1-0:Nat):Int):=by rw [IntKind.wrap_i64]; omega
      simp only [go_sem,hn,hk1,hna,hnb,hnc,hnd]
      refine trX_loop HE hP.mix [nm,4,0] (fun q:Nat × List Nat=>⟨upd (upd (upd (upd (fun _=>.junk) 2 (.str ⟨#[]⟩)) 4 (.sl nm 0 k 1)) 7 (.int .i64 (q.1:Int))) 8 (.int .i64 ((k-1-q.1:Nat):Int)),upd (upd (upd (fun _=>.unused) 0 (.live [.opq (.nat a),.pad])) 4 (.live (List.map (fun d:Nat=>AV.int .u64 (d:Int)) (tl)))) nm (.live (q.2.map fun d:Nat=>AV.int .u8 (d:Int))),85⟩)
       (fun q=>q.1≤k-1∧q.2.length=k∧∀ t,t<k→q.2.getD t 0=if t<q.1∨k-1-q.1<t then o.getD (k-1-t) 0 else o.getD t 0) (fun q=>k-q.1) (0,o) 20
       (by exact (hg o).1) (Kept.of rfl KT.z (by exact KM.gen (hg o))) ⟨by simp,h2,fun t ht=>by rw [if_neg (by omega)]⟩ 85 (by kernel_rfl) ?_
      rintro ⟨i,z⟩ ⟨q1,q2,q3⟩
      simp only [] at q1 q2 q3
      by_cases hi:i<k-1-i
      · have x1:i<k:=by omega
        have x2:k-1-i<k:=by omega
        have x3:i<z.length:=by omega
        have x4:k-1-i<z.length:=by omega
        have x5:=wi_add1 i (by omega)
        have x6:IntKind.i64.wrap (((k-1-i:Nat):Int)-1)=((k-1-(i+1):Nat):Int):=by rw [IntKind.wrap_i64]; omega
        have x7:i<(z.set (k-1-i) (z.getD i 0)).length:=by rw [List.length_set]; exact x3
        have x8:k-1-i<(z.set i (z.getD (k-1-i) 0)).length:=by rw [List.length_set]; exact x4
        simp only [go_sem,hi,x1,x2,x3,x4,x5,x6,x7,x8,gU x3,gU x4,gU x8,upd_upd,hna,hnb,hnc,hnd]
        refine ⟨(i+1,(z.set i (z.getD (k-1-i) 0)).set (k-1-i) (z.getD i 0)),Kept.of rfl KT.z (KM.gen (hg _)),⟨by simp only []; omega,by simp only [List.length_set]; exact q2,fun t ht=>?_⟩,by simp only []; omega⟩
        simp only []
        by_cases e1:t=k-1-i
        · rw [e1,getD_set_eq _ _ _ x8,q3 i x1,if_neg (by omega),if_pos (.inr (by omega))]; congr 1; omega
        · rw [getD_set_ne _ _ _ _ (Ne.symm e1)]
          by_cases e2:t=i
          · rw [e2,getD_set_eq _ _ _ x3,q3 _ x2,if_neg (by omega),if_pos (.inl (by omega))]
          · rw [getD_set_ne _ _ _ _ (Ne.symm e2),q3 t ht]
            by_cases e3:t<i∨k-1-i<t
            · rw [if_pos e3,if_pos (by omega)]
            · rw [if_neg e3,if_neg (by omega)]
      · have hz:z=o.reverse:=by
         refine List.ext_getElem? fun t=>?_
         by_cases ht:t<k
         · have:=q3 t ht
           rw [List.getElem?_reverse (by omega),h2]
           have e:z.getD t 0=o.getD (k-1-t) 0:=by
            rw [this]; split
            · rfl
            · congr 1; omega
           rw [List.getElem?_eq_getElem (show t<z.length by omega),List.getElem?_eq_getElem (show k-1-t<o.length by omega),← getD_get (by omega),← getD_get (by omega),e]
         · rw [List.getElem?_eq_none (by omega),List.getElem?_eq_none (by rw [List.length_reverse]; omega)]
        have hzt:z.take k=z:=List.take_of_length_le (by omega)
        have hbb:∀ l:List Nat,(l.map fun d:Nat=>AV.int .u8 (d:Int)).all isB=true:=fun l=>by rw [List.all_map]; simp [isB]
        simp only [go_sem,hi,hzt,q2,hbb,hna,hnb,hnc,hnd]
        rw [hz,← hdl]
        exact .refl _
def TextS:List AV→Option (Prop × AV):=on1 fun a=>(blen a≤68719476736,.str (decS a))
theorem TextS_ok (hP:PrgOk P) (args p r):TextS args=some (p,r)→p→CSpec P 53 args r:=on1_ok (fun a h=>by exact Text_spec hP a h) args p r
attribute [go_sem] TextS
def bl (s:ByteArray):List Nat:=s.data.toList.map UInt8.toNat
theorem size_bl (s:ByteArray):s.size=(bl s).length:=by unfold bl; rw [List.length_map,Array.length_toList]; rfl
def valL (l:List Nat):Nat:=l.foldl (fun v c=>10*v+(c-48)) 0
def okD (l:List Nat):Prop:=l ≠ []∧¬ (1<l.length∧l.getD 0 0=48)∧∀ c ∈ l,48≤c∧c≤57
theorem valL_from (b:List Nat):∀ v:Nat,b.foldl (fun v c=>10*v+(c-48)) v=v*10^b.length+valL b:=by
 induction b with
 | nil=>intro v; simp [valL]
 | cons c b ih =>
   intro v
   unfold valL
   rw [List.foldl_cons,List.foldl_cons,ih,ih (10*0+(c-48)),List.length_cons,Nat.pow_succ,Nat.add_mul,Nat.mul_zero,Nat.zero_add,Nat.mul_comm 10 v,Nat.mul_assoc,Nat.mul_comm 10 (10^_)]
   omega
theorem valL_app (a b:List Nat):valL (a++b)=valL a*10^b.length+valL b:=by
 have:=valL_from b (valL a)
 unfold valL at this ⊢
 rw [List.foldl_append]; exact this
structure PS where
 s:ByteArray
 k:Nat
 D:OD
 n:Nat
 d:List Nat
theorem cut_nil (hP:PrgOk P):CSpec P 67 [.nils] (.agg [.opq (.nat (0)),.pad]):=by
 have HE:=Sf_ok hP
 refine CSpec_go (E:=⟨T0,Sf⟩) (fn67 hP) HE hP.mix ?_
 simp only [go_sem]
 refine trX_loop HE hP.mix [0] (fun _:Unit=>⟨upd (upd (upd (fun _=>.junk) 0 .nils) 2 (.ref 0 0)) 3 (.int .i64 0),upd (fun _=>.unused) 0 (.live [.int .u64 0,.nils]),33⟩)
  (fun _=>True) (fun _=>0) () 20 Has.z (Kept.of rfl KT.z KM.z) trivial 33 (by kernel_rfl) ?_
 intro _ _
 simp only [go_sem,Int.lt_irrefl]
 exact Conv.nat1 (by decide)
def cutS2:List AV→Option (Prop × AV)
 | [.nils]=>some (True,(.agg [.opq (.nat (0)),.pad]))
 | [.imm n cs]=>cutS [.imm n cs]
 | _=>none
theorem cutS2_ok (hP:PrgOk P) (args p r) (h:cutS2 args=some (p,r)) (hp:p):CSpec P 67 args r:=by
 unfold cutS2 at h
 split at h
 · simp only [Option.some.injEq,Prod.mk.injEq] at h
   obtain ⟨rfl,rfl⟩:=h
   exact cut_nil hP
 · exact cutS_ok hP _ _ _ h hp
 · simp at h
attribute [go_sem] cutS2
noncomputable def Sg:Nat→List AV→Option (Prop × AV):=addS Sf 67 cutS2
theorem Sg_ok (hP:PrgOk P):EnvOk P ⟨T0,Sg⟩:=((Sf_ok hP).add (cutS2_ok hP))
theorem Sg_at (f a):Sg f a=(addS Sf 67 cutS2) f a:=rfl
attribute [go_sem] Sg_at
theorem valL_dv {l:List Nat} (h:∀ c ∈ l,48≤c):valL l=dv l.reverse:=by
 induction l with
 | nil=>rfl
 | cons c t ih =>
   have e:=valL_app [c] t
   simp only [List.singleton_append] at e
   have hc:=h c (by simp)
   have e2:valL [c]=c-48:=by simp [valL]
   rw [e,e2,ih (fun d hd=>h d (by simp [hd])),List.reverse_cons,show c=48+(c-48) by omega,dv_snoc,List.length_reverse,Nat.mul_comm,Nat.add_comm]
   congr 2; omega
theorem decL_val {l:List Nat} (h:okD l):decL (valL l)=l:=by
 obtain ⟨h1,h2,h3⟩:=h
 have hb:byt l.reverse:=fun c hc=>by have:=h3 c (by simpa using hc); omega
 have hv:=valL_dv (l:=l) (fun c hc=>(h3 c hc).1)
 obtain ⟨c,t,rfl⟩:∃ c t,l=c::t:=by cases l with|nil=>exact absurd rfl h1|cons c t=>exact ⟨c,t,rfl⟩
 have hc:=h3 c (by simp)
 have e:=valL_app [c] t
 simp only [List.singleton_append] at e
 have e2:valL [c]=c-48:=by simp [valL]
 rcases Nat.eq_zero_or_pos (c-48) with h0|h0
 · have ht:t=[]:=by
    cases t with
    | nil=>rfl
    | cons d t=>exact absurd ⟨by simp,by simp; omega⟩ h2
   subst ht
   have hc48:c=48:=by omega
   subst hc48; rfl
 · have hp:0<valL (c::t):=by
    rw [e,e2]; have:0<(c-48)*10^t.length:=Nat.mul_pos h0 (Nat.pow_pos (by decide))
    omega
   have:=text_end hb hv (fun hne=>by simp; omega) hp
   rw [this,List.reverse_reverse]
theorem bytesS_bl (s:ByteArray):bytesS ((bl s).map fun d:Nat=>AV.int .u8 (d:Int))=s:=by
 obtain ⟨a⟩:=s
 unfold bytesS bl
 congr 1
 rw [List.map_map,List.map_map]
 have:((toB ∘ fun d:Nat=>AV.int .u8 (d:Int)) ∘ UInt8.toNat)=id:=by funext b; simp [toB]
 rw [this,List.map_id]
theorem bl_bytesS {m:List Nat} (h:∀ c ∈ m,c<256):bl (bytesS (m.map fun d:Nat=>AV.int .u8 (d:Int)))=m:=by
 unfold bytesS bl
 simp only [List.map_map]
 conv=>rhs; rw [← List.map_id m]
 refine List.map_congr_left fun c hc=>?_
 have:=h c hc
 simp [toB]; omega
theorem dig10 (a:Nat):∀ d ∈ digs 10 a,d<10:=digs_lt 10 a (by decide)
theorem okD_decL (a:Nat):okD (decL a):=by
 unfold decL
 split
 · exact ⟨by simp,by simp,by simp⟩
 · rename_i ha
   have hne:digs 10 a ≠ []:=by intro e; have:=dOf_digs 10 a (by decide); rw [e] at this; simp [dOf] at this; omega
   have hc:=digs_canon 10 a (by decide) hne
   have hall:∀ c ∈ dec10 a,48≤c∧c≤57:=fun c hc=>by
    obtain ⟨d,hd,rfl⟩:=List.mem_map.1 hc
    have:=dig10 a d hd; omega
   refine ⟨by simp [dec10,hne],?_,fun c hc=>hall c (by simpa using hc)⟩
   rintro ⟨_,h2⟩
   have hne2:dec10 a ≠ []:=by simp [dec10,hne]
   have e:(dec10 a).reverse.getD 0 0=(dec10 a).getLast hne2:=by
    rw [List.getD_eq_getElem?_getD,List.getElem?_reverse (List.length_pos_iff.2 hne2),Nat.sub_zero,List.getLast_eq_getElem,List.getElem?_eq_getElem]; rfl
   rw [e] at h2
   have h3:(dec10 a).getLast hne2=48+(digs 10 a).getLast hne:=by
    have:dec10 a=(digs 10 a).map (48+·):=rfl
    simp only [this]; exact List.getLast_map ..
   omega
theorem bl_decS (a:Nat):bl (decS a)=decL a:=bl_bytesS fun c hc=>by have:=(okD_decL a).2.2 c hc; omega
theorem decL_len (a:Nat):(decL a).length≤blen a+1:=by
 unfold decL; split
 · simp
 · rw [List.length_reverse]; unfold dec10; rw [List.length_map]
   have:=digs_length_le 10 a (blen a) (by decide) (Nat.lt_of_lt_of_le (blen_lt a) (Nat.pow_le_pow_left (by decide) _))
   omega
theorem str_same (x y:ByteArray):(x.toList == y.toList)=decide (x=y):=by
 rw [ByteArray.toList_eq,ByteArray.toList_eq,Bool.eq_iff_iff,beq_iff_eq,decide_eq_true_eq]
 constructor
 · intro h; cases x; cases y; congr 1; exact Array.ext' h
 · intro h; rw [h]
theorem strs_only (f):∀ l:List ByteArray,onlyL f (l.map AV.str)=true
 | []=>rfl
 | s::l=>by simp only [List.map_cons,onlyL,AV.only,Bool.true_and]; exact strs_only f l
theorem strs_drop (l:List ByteArray) (i:Nat):(l.map AV.str).drop i=(l.drop i).map AV.str:=List.map_drop.symm
theorem strs_head (l:List ByteArray):AV.head (l.map AV.str)=true:=by cases l<;>rfl
attribute [go_sem] strs_only strs_drop strs_head
theorem lap_cons {α:Type} (a:α) (l r:List α):List.append (a::l) r=a::List.append l r:=rfl
theorem lap_nil {α:Type} (r:List α):List.append [] r=r:=rfl
attribute [go_sem] lap_cons lap_nil
theorem gcd_blen {a b n:Nat} (ha:blen a≤n) (hb:blen b≤n):blen (Nat.gcd a b)≤n:=by
 rcases Nat.eq_zero_or_pos a with h|h
 · subst h; rw [Nat.gcd_zero_left]; exact hb
 · exact blen_le_of (Nat.le_of_dvd h (Nat.gcd_dvd_left a b)) ha
noncomputable def Sh:Nat→List AV→Option (Prop × AV):=addS (addS (addS Sg 53 TextS) 33 GcdS) 69 AddS
theorem Sh_ok (hP:PrgOk P):EnvOk P ⟨T0,Sh⟩:=((((Sg_ok hP).add (TextS_ok hP)).add (GcdS_ok hP)).add (AddS_ok hP))
theorem Sh_at (f a):Sh f a=(addS (addS (addS Sg 53 TextS) 33 GcdS) 69 AddS) f a:=rfl
attribute [go_sem] Sh_at
theorem Conv.rnat (n:Nat):Conv (.imm (digs 65536 (n)).length (List.map (fun d:Nat=>AV.int .u32 (d:Int)) (digs 65536 (n)))) (.opq (.rnat (n))):=CvL.conv (by simpa [Pay.open,Pay.width] using CvL.fold (.rnat n) [] rfl)
theorem dOf_digs16 (a:Nat):dOf 65536 (digs 65536 a)=a:=dOf_digs _ _ (by decide)
attribute [go_sem] dOf_digs16
structure RS where
 m:Nat
 D:OD
 k:Nat
 o:List Nat
noncomputable def Sk:Nat→List AV→Option (Prop × AV):=Sh
theorem Sk_ok (hP:PrgOk P):EnvOk P ⟨T0,Sk⟩:=(Sh_ok hP)
attribute [go_sem] Sk
structure AS where
 i:Nat
 c:Nat
 D:OD
 o:List Nat
noncomputable def Sl:Nat→List AV→Option (Prop × AV):=Sk
theorem Sl_ok (hP:PrgOk P):EnvOk P ⟨T0,Sl⟩:=(Sk_ok hP)
attribute [go_sem] Sl
noncomputable def Sm:Nat→List AV→Option (Prop × AV):=Sl
theorem Sm_ok (hP:PrgOk P):EnvOk P ⟨T0,Sm⟩:=(Sl_ok hP)
attribute [go_sem] Sm
noncomputable def Sn:Nat→List AV→Option (Prop × AV):=Sm
theorem Sn_ok (hP:PrgOk P):EnvOk P ⟨T0,Sn⟩:=(Sm_ok hP)
attribute [go_sem] Sn
theorem bytesS_size (x:List AV):(bytesS x).size=x.length:=by
 unfold bytesS
 rw [← ByteArray.size_data]
 simp
instance okD_dec (l:List Nat):Decidable (okD l):=by unfold okD; infer_instance
noncomputable def So:Nat→List AV→Option (Prop × AV):=Sn
theorem So_ok (hP:PrgOk P):EnvOk P ⟨T0,So⟩:=(Sn_ok hP)
attribute [go_sem] So
noncomputable def Sp:Nat→List AV→Option (Prop × AV):=So
theorem Sp_ok (hP:PrgOk P):EnvOk P ⟨T0,Sp⟩:=(So_ok hP)
attribute [go_sem] Sp
noncomputable def Sr:Nat→List AV→Option (Prop × AV):=Sp
theorem Sr_all (hP:PrgOk P) (T) (hT:TyOk P T):EnvOk P ⟨T,Sr⟩:=((Sp_ok hP).re hT)
attribute [go_sem] Sr
def wC (z:Int):List AV:=[.bool (decide (z<0)),.opq (.nat z.natAbs),.pad]
theorem CvL.wholeIn (z:Int) {xs bs} (h:CvL xs bs):CvL ((.agg [.opq (.whole (z)),.pad,.pad])::xs) (.agg (wC z)::bs):=.agg (by simpa [Pay.open,Pay.width,wC] using CvL.unfold (.whole z) []) h
theorem CvL.wholeOut (z:Int) {xs bs} (h:CvL xs bs):CvL (.agg (wC z)::xs) ((.agg [.opq (.whole (z)),.pad,.pad])::bs):=.agg (by simpa [Pay.open,Pay.width,wC] using CvL.fold (.whole z) [] rfl) h
theorem Conv.whole (z:Int):Conv (.agg (wC z)) (.agg [.opq (.whole (z)),.pad,.pad]):=CvL.conv (.wholeOut z .nil)
def sg (m:Bool) (a:Nat):Int:=if m then -(a:Int) else a
theorem sg_t (a:Nat):sg true a = -(a:Int):=rfl
theorem sg_f (a:Nat):sg false a=(a:Int):=rfl
theorem sg_abs (m a):(sg m a).natAbs=a:=by cases m<;>simp [sg]
theorem sg_neg (m a):decide (sg m a<0)=(m && decide (0<a)):=by cases m<;>simp [sg]<;>omega
theorem sg_of (z:Int):sg (decide (z<0)) z.natAbs=z:=by
 unfold sg; by_cases h:z<0
 · rw [decide_eq_true h]; simp; omega
 · rw [decide_eq_false h]; simp; omega
def rawW:AV→Option (Prop × Int)
 | .agg [.opq (.whole z),.pad,.pad]=>some (True,z)
 | .agg [.bool m,.opq (.nat a),.pad]=>some (m=true→0<a,sg m a)
 | _=>none
theorem rawW_atom (z:Int):rawW (.agg [.opq (.whole (z)),.pad,.pad])=some (True,z):=rfl
theorem rawW_raw (m a):rawW (.agg [.bool m,.opq (.nat a),.pad])=some (m=true→0<a,sg m a):=rfl
theorem rawW_cv {v:AV} {p z} (h:rawW v=some (p,z)) (hp:p) {xs bs} (k:CvL xs bs):CvL (v::xs) ((.agg [.opq (.whole (z)),.pad,.pad])::bs):=by
 unfold rawW at h
 split at h
 · simp only [Option.some.injEq,Prod.mk.injEq] at h
   obtain ⟨rfl,rfl⟩:=h
   exact .agg (.refl _) k
 · simp only [Option.some.injEq,Prod.mk.injEq] at h
   obtain ⟨rfl,rfl⟩:=h
   rename_i m a
   have e:wC (sg m a)=[.bool m,.opq (.nat a),.pad]:=by
    unfold wC; rw [sg_abs,sg_neg]
    cases m
    · rfl
    · rw [decide_eq_true (hp rfl)]; rfl
   rw [← e]; exact .wholeOut _ k
 · simp at h
def onW1 (f:Int→Prop × AV):List AV→Option (Prop × AV)
 | [x]=>(rawW x).map fun a=>(a.1∧(f a.2).1,(f a.2).2)
 | _=>none
def onW2 (f:Int→Int→Prop × AV):List AV→Option (Prop × AV)
 | [x,y]=>(rawW x).bind fun a=>(rawW y).map fun b=>(a.1∧b.1∧(f a.2 b.2).1,(f a.2 b.2).2)
 | _=>none
theorem onW1_ok {fi:Nat} {f:Int→Prop × AV} (h:∀ a,(f a).1→CSpec P fi [(.agg [.opq (.whole (a)),.pad,.pad])] (f a).2) (args p r) (he:onW1 f args=some (p,r)) (hp:p):CSpec P fi args r:=by
 unfold onW1 at he
 split at he
 · simp only [Option.map_eq_some_iff,Prod.exists,Prod.mk.injEq] at he
   obtain ⟨q,a,h1,rfl,rfl⟩:=he
   exact (h a hp.2).cv (rawW_cv h1 hp.1 .nil)
 · simp at he
theorem onW2_ok {fi:Nat} {f:Int→Int→Prop × AV} (h:∀ a b,(f a b).1→CSpec P fi [(.agg [.opq (.whole (a)),.pad,.pad]),(.agg [.opq (.whole (b)),.pad,.pad])] (f a b).2) (args p r) (he:onW2 f args=some (p,r)) (hp:p):CSpec P fi args r:=by
 unfold onW2 at he
 split at he
 · simp only [Option.bind_eq_some_iff,Option.map_eq_some_iff,Prod.exists,Prod.mk.injEq] at he
   obtain ⟨q,a,h1,q',b,h2,rfl,rfl⟩:=he
   exact (h a b hp.2.2).cv (rawW_cv h1 hp.1 (rawW_cv h2 hp.2.1 .nil))
 · simp at he
theorem onW1_eq (f x):onW1 f [x]=(rawW x).map fun a=>(a.1∧(f a.2).1,(f a.2).2):=rfl
theorem onW2_eq (f x y):onW2 f [x,y]=(rawW x).bind fun a=>(rawW y).map fun b=>(a.1∧b.1∧(f a.2 b.2).1,(f a.2 b.2).2):=rfl
attribute [go_sem] rawW_atom rawW_raw onW1_eq onW2_eq
abbrev wl (z:Int):Nat:=blen z.natAbs
theorem wMake_spec (hP:PrgOk P) (m:Bool) (a:Nat) (ha:blen a≤68719476736):CSpec P 37 [.bool m,(.agg [.opq (.nat (a)),.pad])] (.agg [.opq (.whole (sg m a)),.pad,.pad]):=by
 have HE:=Sr_all hP T1 hP.t1
 refine CSpec.conv (r:=.agg (wC (sg m a))) ?_ (.whole _)
 unfold wC
 rw [sg_abs,sg_neg]
 refine CSpec_go (E:=⟨T1,Sr⟩) (fn37 hP) HE hP.mix ?_
 cases m
 · simp only [go_sem,ha]
   exact .refl _
 · rcases Nat.eq_zero_or_pos a with h|h
   · subst h
     have hb:blen 0=0:=by decide
     simp only [go_sem,ha,hb]
     exact .refl _
   · have hb:0<blen a:=by
      have:blen a ≠ 0:=by rw [Ne,blen_zero_iff]; omega
      omega
     simp only [go_sem,ha,hb,h]
     exact .refl _
def wMakeS:List AV→Option (Prop × AV)
 | [.bool m,x]=>(rawN x).map fun a=>(a.1∧blen a.2≤68719476736,(.agg [.opq (.whole (sg m a.2)),.pad,.pad]))
 | _=>none
theorem wMakeS_eq (m x):wMakeS [.bool m,x]=(rawN x).map fun a=>(a.1∧blen a.2≤68719476736,(.agg [.opq (.whole (sg m a.2)),.pad,.pad])):=rfl
theorem wMakeS_ok (hP:PrgOk P) (args p r) (he:wMakeS args=some (p,r)) (hp:p):CSpec P 37 args r:=by
 unfold wMakeS at he
 split at he
 · simp only [Option.map_eq_some_iff,Prod.exists,Prod.mk.injEq] at he
   obtain ⟨q,a,h1,rfl,rfl⟩:=he
   exact (wMake_spec hP _ a hp.2).cv (.cons rfl (rawN_cv h1 hp.1 .nil))
 · simp at he
attribute [go_sem] wMakeS_eq
noncomputable def Wt0:Nat→List AV→Option (Prop × AV):=addS Sr 37 wMakeS
theorem Wt0_all (hP:PrgOk P) (T) (hT:TyOk P T):EnvOk P ⟨T,Wt0⟩:=((Sr_all hP T hT).add (wMakeS_ok hP))
theorem Wt0_at (f a):Wt0 f a=(addS Sr 37 wMakeS) f a:=rfl
attribute [go_sem] Wt0_at
def sgnZ (z:Int):Int:=if z=0 then 0 else if z<0 then -1 else 1
def cmpZ (a b:Int):Int:=if a<b then -1 else if b<a then 1 else 0
theorem wSign_spec (hP:PrgOk P) (z:Int) (h:wl z≤68719476736):CSpec P 39 [(.agg [.opq (.whole (z)),.pad,.pad])] (.int .i64 (sgnZ z)):=by
 have HE:=Wt0_all hP T1 hP.t1
 refine CSpec.cv ?_ (.wholeIn z .nil)
 unfold wC
 refine CSpec_go (E:=⟨T1,Wt0⟩) (fn39 hP) HE hP.mix ?_
 unfold sgnZ
 unfold wl at h
 by_cases h0:z=0
 · have hb:(blen z.natAbs == 0)=true:=beq_iff_eq.2 ((blen_zero_iff _).2 (by omega))
   rw [if_pos h0]
   simp only [go_sem,h,hb]
   exact .refl _
 · have hb:(blen z.natAbs == 0)=false:=beq_eq_false_iff_ne.2 fun e=>h0 (by have:=(blen_zero_iff _).1 e; omega)
   rw [if_neg h0]
   by_cases h1:z<0
   · rw [if_pos h1]
     simp only [go_sem,h,hb,h1]
     exact .refl _
   · rw [if_neg h1]
     simp only [go_sem,h,hb,h1]
     exact .refl _
def wSignS:List AV→Option (Prop × AV):=onW1 fun a=>(wl a≤68719476736,.int .i64 (sgnZ a))
theorem wSignS_ok (hP:PrgOk P) (args p r):wSignS args=some (p,r)→p→CSpec P 39 args r:=onW1_ok (fun a h=>by exact wSign_spec hP a h) args p r
attribute [go_sem] wSignS
theorem wAbs_spec (hP:PrgOk P) (z:Int):CSpec P 61 [(.agg [.opq (.whole (z)),.pad,.pad])] (.agg [.opq (.nat (z.natAbs)),.pad]):=by
 have HE:=Wt0_all hP T1 hP.t1
 refine CSpec.cv ?_ (.wholeIn z .nil)
 unfold wC
 refine CSpec_go (E:=⟨T1,Wt0⟩) (fn61 hP) HE hP.mix ?_
 simp only [go_sem]
 exact .refl _
def wAbsS:List AV→Option (Prop × AV):=onW1 fun a=>(True,(.agg [.opq (.nat (a.natAbs)),.pad]))
theorem wAbsS_ok (hP:PrgOk P) (args p r):wAbsS args=some (p,r)→p→CSpec P 61 args r:=onW1_ok (fun a _=>by exact wAbs_spec hP a) args p r
attribute [go_sem] wAbsS
theorem wOf_spec (hP:PrgOk P) (n:Int) (h1 : -9223372036854775808≤n) (h2:n≤9223372036854775807):CSpec P 42 [.int .i64 n] (.agg [.opq (.whole (n)),.pad,.pad]):=by
 have HE:=Wt0_all hP T1 hP.t1
 refine CSpec.conv (r:=.agg (wC n)) ?_ (.whole _)
 unfold wC
 refine CSpec_go (E:=⟨T1,Wt0⟩) (fn42 hP) HE hP.mix ?_
 by_cases h:n<0
 · have e1:IntKind.u64.wrap n=n+18446744073709551616:=by rw [IntKind.wrap_u64]; omega
   have e2:IntKind.u64.wrap (0-(n+18446744073709551616)) = -n:=by rw [IntKind.wrap_u64]; omega
   have e3:((0:Int)≤-n)=True:=eq_true (by omega)
   have e4:(-n<18446744073709551616)=True:=eq_true (by omega)
   have e5:(-n).toNat=n.natAbs:=by omega
   simp only [go_sem,h,e1,e2,e3,e4,e5]
   exact .refl _
 · have e1:IntKind.u64.wrap n=n:=by rw [IntKind.wrap_u64]; omega
   have e3:((0:Int)≤n)=True:=eq_true (by omega)
   have e4:(n<18446744073709551616)=True:=eq_true (by omega)
   have e5:n.toNat=n.natAbs:=by omega
   simp only [go_sem,h,e1,e3,e4,e5]
   exact .refl _
def wOfS:List AV→Option (Prop × AV)
 | [.int .i64 n]=>some (-9223372036854775808≤n∧n≤9223372036854775807,(.agg [.opq (.whole (n)),.pad,.pad]))
 | _=>none
theorem wOfS_ok (hP:PrgOk P) (args p r) (h:wOfS args=some (p,r)) (hp:p):CSpec P 42 args r:=by
 unfold wOfS at h
 split at h
 · simp only [Option.some.injEq,Prod.mk.injEq] at h
   obtain ⟨rfl,rfl⟩:=h
   exact wOf_spec hP _ hp.1 hp.2
 · simp at h
attribute [go_sem] wOfS
theorem wCmp_spec (hP:PrgOk P) (a b:Int) (ha:wl a≤68719476736) (hb:wl b≤68719476736):CSpec P 81 [(.agg [.opq (.whole (a)),.pad,.pad]),(.agg [.opq (.whole (b)),.pad,.pad])] (.int .i64 (cmpZ a b)):=by
 have HE:=Wt0_all hP T1 hP.t1
 refine CSpec.cv ?_ (.wholeIn a (.wholeIn b .nil))
 unfold wC
 unfold wl at ha hb
 refine CSpec_go (E:=⟨T1,Wt0⟩) (fn81 hP) HE hP.mix ?_
 by_cases h1:a<0
 · by_cases h2:b<0
   · have e:cmpZ a b=cmpI b.natAbs a.natAbs:=by
      unfold cmpZ cmpI; repeat' split
      all_goals omega
     simp only [go_sem,h1,h2,ha,hb]
     rw [e]; exact .refl _
   · have e:cmpZ a b = -1:=by unfold cmpZ; rw [if_pos (by omega)]
     simp only [go_sem,h1,h2,ha,hb]
     rw [e]; exact .refl _
 · by_cases h2:b<0
   · have e:cmpZ a b=1:=by unfold cmpZ; rw [if_neg (by omega),if_pos (by omega)]
     simp only [go_sem,h1,h2,ha,hb]
     rw [e]; exact .refl _
   · have e:cmpZ a b=cmpI a.natAbs b.natAbs:=by
      unfold cmpZ cmpI; repeat' split
      all_goals omega
     simp only [go_sem,h1,h2,ha,hb]
     rw [e]; exact .refl _
def wCmpS:List AV→Option (Prop × AV):=onW2 fun a b=>(wl a≤68719476736∧wl b≤68719476736,.int .i64 (cmpZ a b))
theorem wCmpS_ok (hP:PrgOk P) (args p r):wCmpS args=some (p,r)→p→CSpec P 81 args r:=onW2_ok (fun a b h=>by exact wCmp_spec hP a b h.1 h.2) args p r
attribute [go_sem] wCmpS
theorem wNeg_spec (hP:PrgOk P) (a:Int) (ha:wl a≤68719476736):CSpec P 40 [(.agg [.opq (.whole (a)),.pad,.pad])] (.agg [.opq (.whole (-a)),.pad,.pad]):=by
 have HE:=Wt0_all hP T1 hP.t1
 refine CSpec.cv ?_ (.wholeIn a .nil)
 unfold wC
 unfold wl at ha
 refine CSpec_go (E:=⟨T1,Wt0⟩) (fn40 hP) HE hP.mix ?_
 have e:sg (!decide (a<0)) a.natAbs = -a:=by
  by_cases h:a<0
  · rw [decide_eq_true h]; simp [sg]; omega
  · rw [decide_eq_false h]; simp [sg]; omega
 simp only [go_sem,ha,e]
 exact .refl _
def wNegS:List AV→Option (Prop × AV):=onW1 fun a=>(wl a≤68719476736,(.agg [.opq (.whole (-a)),.pad,.pad]))
theorem wNegS_ok (hP:PrgOk P) (args p r):wNegS args=some (p,r)→p→CSpec P 40 args r:=onW1_ok (fun a h=>by exact wNeg_spec hP a h) args p r
attribute [go_sem] wNegS
theorem wAdd_spec (hP:PrgOk P) (a b:Int) (ha:wl a≤34359738368) (hb:wl b≤34359738368):CSpec P 87 [(.agg [.opq (.whole (a)),.pad,.pad]),(.agg [.opq (.whole (b)),.pad,.pad])] (.agg [.opq (.whole (a+b)),.pad,.pad]):=by
 have HE:=Wt0_all hP T1 hP.t1
 refine CSpec.cv ?_ (.wholeIn a (.wholeIn b .nil))
 unfold wC
 unfold wl at ha hb
 have hs:=Nat.le_trans (blen_add_le ha hb) (show _≤68719476736 by decide)
 have ha':=Nat.le_trans ha (show _≤68719476736 by decide)
 have hb':=Nat.le_trans hb (show _≤68719476736 by decide)
 refine CSpec_go (E:=⟨T1,Wt0⟩) (fn87 hP) HE hP.mix ?_
 by_cases h1:a<0
 · by_cases h2:b<0
   · have e:sg true (a.natAbs+b.natAbs)=a+b:=by rw [sg_t]; omega
     simp only [go_sem,h1,h2,ha',hb',hs,e]
     exact .refl _
   · rcases Nat.lt_or_ge a.natAbs b.natAbs with h|h
     · have hc:cmpI a.natAbs b.natAbs = -1:=cmpI_lt h
       have hn:(b.natAbs<a.natAbs)=False:=eq_false (by omega)
       have hd:=Nat.le_trans (blen_mono (Nat.sub_le b.natAbs a.natAbs)) hb'
       have e:sg false (b.natAbs-a.natAbs)=a+b:=by rw [sg_f]; omega
       simp only [go_sem,h1,h2,ha',hb',hc,hn,hd,e]
       exact .refl _
     · have hc:decide (cmpI a.natAbs b.natAbs<0)=false:=cmp_ge h
       have hn:(a.natAbs<b.natAbs)=False:=eq_false (by omega)
       have hd:=Nat.le_trans (blen_mono (Nat.sub_le a.natAbs b.natAbs)) ha'
       have e:sg true (a.natAbs-b.natAbs)=a+b:=by rw [sg_t]; omega
       simp only [go_sem,h1,h2,ha',hb',hc,hn,hd,e]
       exact .refl _
 · by_cases h2:b<0
   · rcases Nat.lt_or_ge a.natAbs b.natAbs with h|h
     · have hc:cmpI a.natAbs b.natAbs = -1:=cmpI_lt h
       have hn:(b.natAbs<a.natAbs)=False:=eq_false (by omega)
       have hd:=Nat.le_trans (blen_mono (Nat.sub_le b.natAbs a.natAbs)) hb'
       have e:sg true (b.natAbs-a.natAbs)=a+b:=by rw [sg_t]; omega
       simp only [go_sem,h1,h2,ha',hb',hc,hn,hd,e]
       exact .refl _
     · have hc:decide (cmpI a.natAbs b.natAbs<0)=false:=cmp_ge h
       have hn:(a.natAbs<b.natAbs)=False:=eq_false (by omega)
       have hd:=Nat.le_trans (blen_mono (Nat.sub_le a.natAbs b.natAbs)) ha'
       have e:sg false (a.natAbs-b.natAbs)=a+b:=by rw [sg_f]; omega
       simp only [go_sem,h1,h2,ha',hb',hc,hn,hd,e]
       exact .refl _
   · have e:sg false (a.natAbs+b.natAbs)=a+b:=by rw [sg_f]; omega
     simp only [go_sem,h1,h2,ha',hb',hs,e]
     exact .refl _
def wAddS:List AV→Option (Prop × AV):=onW2 fun a b=>(wl a≤34359738368∧wl b≤34359738368,(.agg [.opq (.whole (a+b)),.pad,.pad]))
theorem wAddS_ok (hP:PrgOk P) (args p r):wAddS args=some (p,r)→p→CSpec P 87 args r:=onW2_ok (fun a b h=>by exact wAdd_spec hP a b h.1 h.2) args p r
attribute [go_sem] wAddS
noncomputable def Wt1:Nat→List AV→Option (Prop × AV):=addS (addS (addS (addS (addS (addS Wt0 39 wSignS) 61 wAbsS) 42 wOfS) 81 wCmpS) 40 wNegS) 87 wAddS
theorem Wt1_all (hP:PrgOk P) (T) (hT:TyOk P T):EnvOk P ⟨T,Wt1⟩:=(((((((Wt0_all hP T hT).add (wSignS_ok hP)).add (wAbsS_ok hP)).add (wOfS_ok hP)).add (wCmpS_ok hP)).add (wNegS_ok hP)).add (wAddS_ok hP))
theorem Wt1_at (f a):Wt1 f a=(addS (addS (addS (addS (addS (addS Wt0 39 wSignS) 61 wAbsS) 42 wOfS) 81 wCmpS) 40 wNegS) 87 wAddS) f a:=rfl
attribute [go_sem] Wt1_at
theorem wl_neg (a:Int):wl (-a)=wl a:=by unfold wl; rw [Int.natAbs_neg]
theorem wSub_spec (hP:PrgOk P) (a b:Int) (ha:wl a≤34359738368) (hb:wl b≤34359738368):CSpec P 84 [(.agg [.opq (.whole (a)),.pad,.pad]),(.agg [.opq (.whole (b)),.pad,.pad])] (.agg [.opq (.whole (a-b)),.pad,.pad]):=by
 have HE:=Wt1_all hP T2 hP.t2
 have hb':=Nat.le_trans hb (show _≤68719476736 by decide)
 have e:a + -b=a-b:=rfl
 unfold wl at ha hb hb'
 refine CSpec_go (E:=⟨T2,Wt1⟩) (fn84 hP) HE hP.mix ?_
 simp only [go_sem,ha,hb,hb',wl,Int.natAbs_neg,e]
 exact .refl _
def wSubS:List AV→Option (Prop × AV):=onW2 fun a b=>(wl a≤34359738368∧wl b≤34359738368,(.agg [.opq (.whole (a-b)),.pad,.pad]))
theorem wSubS_ok (hP:PrgOk P) (args p r):wSubS args=some (p,r)→p→CSpec P 84 args r:=onW2_ok (fun a b h=>by exact wSub_spec hP a b h.1 h.2) args p r
attribute [go_sem] wSubS
theorem sg_mul (a b:Int):sg (!(decide (a<0) == decide (b<0))) (a.natAbs*b.natAbs)=a*b:=by
 rw [← Int.natAbs_mul]
 have ha:=sg_of a
 have hb:=sg_of b
 unfold sg at *
 by_cases h1:a<0<;>by_cases h2:b<0
 · have:=Int.mul_pos_of_neg_of_neg h1 h2; simp [h1,h2]; omega
 · have:=Int.mul_nonpos_of_nonpos_of_nonneg (Int.le_of_lt h1) (Int.not_lt.1 h2); simp [h1,h2]; omega
 · have:=Int.mul_nonpos_of_nonneg_of_nonpos (Int.not_lt.1 h1) (Int.le_of_lt h2); simp [h1,h2]; omega
 · have:=Int.mul_nonneg (Int.not_lt.1 h1) (Int.not_lt.1 h2); simp [h1,h2]; omega
theorem wMul_spec (hP:PrgOk P) (a b:Int) (ha:wl a≤34359738368) (hb:wl b≤34359738368):CSpec P 35 [(.agg [.opq (.whole (a)),.pad,.pad]),(.agg [.opq (.whole (b)),.pad,.pad])] (.agg [.opq (.whole (a*b)),.pad,.pad]):=by
 have HE:=Wt1_all hP T1 hP.t1
 refine CSpec.cv ?_ (.wholeIn a (.wholeIn b .nil))
 unfold wC
 unfold wl at ha hb
 have hs:=Nat.le_trans (blen_mul_le ha hb) (show _≤68719476736 by decide)
 have ha':=Nat.le_trans ha (show _≤68719476736 by decide)
 have hb':=Nat.le_trans hb (show _≤68719476736 by decide)
 refine CSpec_go (E:=⟨T1,Wt1⟩) (fn35 hP) HE hP.mix ?_
 simp only [go_sem,ha',hb',hs,sg_mul]
 exact .refl _
def wMulS:List AV→Option (Prop × AV):=onW2 fun a b=>(wl a≤34359738368∧wl b≤34359738368,(.agg [.opq (.whole (a*b)),.pad,.pad]))
theorem wMulS_ok (hP:PrgOk P) (args p r):wMulS args=some (p,r)→p→CSpec P 35 args r:=onW2_ok (fun a b h=>by exact wMul_spec hP a b h.1 h.2) args p r
attribute [go_sem] wMulS
noncomputable def Wt2:Nat→List AV→Option (Prop × AV):=addS (addS Wt1 84 wSubS) 35 wMulS
theorem Wt2_all (hP:PrgOk P) (T) (hT:TyOk P T):EnvOk P ⟨T,Wt2⟩:=(((Wt1_all hP T hT).add (wSubS_ok hP)).add (wMulS_ok hP))
theorem Wt2_at (f a):Wt2 f a=(addS (addS Wt1 84 wSubS) 35 wMulS) f a:=rfl
attribute [go_sem] Wt2_at
def itS (z:Int):ByteArray:=if z<0 then ⟨#[45]⟩++decS z.natAbs else decS z.natAbs
theorem decS_size (a:Nat):(decS a).size=(decL a).length:=by unfold decS; rw [bytesS_size,List.length_map]
theorem wText_spec (hP:PrgOk P) (z:Int) (h:wl z≤68719476736):CSpec P 52 [(.agg [.opq (.whole (z)),.pad,.pad])] (.str (itS z)):=by
 have HE:=Wt2_all hP T2 hP.t2
 refine CSpec.cv ?_ (.wholeIn z .nil)
 unfold wC
 unfold wl at h
 unfold itS
 have hl:=decL_len z.natAbs
 have hs:(ByteArray.mk #[45]).size+(decS z.natAbs).size≤9223372036854775807:=by
  rw [decS_size]; have:(ByteArray.mk #[45]).size=1:=rfl
  omega
 refine CSpec_go (E:=⟨T2,Wt2⟩) (fn52 hP) HE hP.mix ?_
 by_cases h1:z<0
 · simp only [go_sem,h1,h]
   exact ⟨hs,.refl _⟩
 · simp only [go_sem,h1,h]
   exact .refl _
def wTextS:List AV→Option (Prop × AV):=onW1 fun a=>(wl a≤68719476736,.str (itS a))
theorem wTextS_ok (hP:PrgOk P) (args p r):wTextS args=some (p,r)→p→CSpec P 52 args r:=onW1_ok (fun a h=>by exact wText_spec hP a h) args p r
attribute [go_sem] wTextS
theorem bl_inj {s t:ByteArray} (h:bl s=bl t):s=t:=by rw [← bytesS_bl s,← bytesS_bl t,h]
noncomputable def Wt3:Nat→List AV→Option (Prop × AV):=addS Wt2 52 wTextS
theorem Wt3_all (hP:PrgOk P) (T) (hT:TyOk P T):EnvOk P ⟨T,Wt3⟩:=((Wt2_all hP T hT).add (wTextS_ok hP))
theorem Wt3_at (f a):Wt3 f a=(addS Wt2 52 wTextS) f a:=rfl
attribute [go_sem] Wt3_at
theorem bl_app (s t:ByteArray):bl (s++t)=bl s++bl t:=by
 simp [bl,ByteArray.data_append]
theorem bl_itS (z:Int):bl (itS z)=if z<0 then 45::decL z.natAbs else decL z.natAbs:=by
 unfold itS; split
 · rw [bl_app,bl_decS]; rfl
 · exact bl_decS _
theorem wl_add {a b:Int} {n m:Nat} (h:wl a≤n) (h':wl b≤m):wl (a+b)≤n+m+1:=by
 unfold wl at *
 rw [blen_le_iff] at *
 have h1:(a+b).natAbs≤a.natAbs+b.natAbs:=Int.natAbs_add_le a b
 have e1:2^n≤2^(n+m):=Nat.pow_le_pow_right (by decide) (by omega)
 have e2:2^m≤2^(n+m):=Nat.pow_le_pow_right (by decide) (by omega)
 rw [Nat.pow_succ]; omega
theorem wl_sub {a b:Int} {n m:Nat} (h:wl a≤n) (h':wl b≤m):wl (a-b)≤n+m+1:=by
 have:=wl_add h (show wl (-b)≤m by rw [wl_neg]; exact h')
 exact this
theorem wl_mul {a b:Int} {n m:Nat} (h:wl a≤n) (h':wl b≤m):wl (a*b)≤n+m:=by
 unfold wl at *
 rw [Int.natAbs_mul]; exact blen_mul_le h h'
theorem itS_len {z:Int} {n:Nat} (h:wl z≤n):(bl (itS z)).length≤n+2:=by
 rw [bl_itS]
 have:=decL_len z.natAbs
 unfold wl at h
 split<;>simp<;>omega
end Go.Proofs.Ytmahhmdeocnlgaa.AM
