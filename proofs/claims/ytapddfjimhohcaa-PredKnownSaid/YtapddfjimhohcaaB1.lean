/- The abstract machine: append and copy. -/
import Derived.Test.YtapddfjimhohcaaB0
import Derived.Scope
namespace Go.Proofs.Ytapddfjimhohcaa.AM
set_option linter.all false
set_option autoImplicit true
set_option relaxedAutoImplicit true
open Go
section
variable {W:Nat→Prop} {X:Nat→Prop} {φ:Nat→Option (Option Nat)} {m:Nat→AObj} {s:St} {a:Act} {w w':World} {P:Program} {T:Nat→Option TyD} {E:Env} {o:Oper}
theorem gone_rel (R:RelM X φ m w) {r:Nat} {cs} (hm:m r = .live cs) :
 RelM X (upd φ r (some none)) (upd m r .gone) w∧Stp X φ m w (upd φ r (some none)) (upd m r .gone) w:=by
 have E:Ext (Wr X φ m) φ w (Wr X (upd φ r (some none)) (upd m r .gone)) (upd φ r (some none)) w:=by
  refine ⟨fun q x hx=>?_,fun _ _ _=>rfl,fun b _ hW=>?_,fun _ _ c e fr _ _ h=>⟨c,e,fr,h,Nat.le_refl _⟩⟩
  · unfold upd; split
    · exact .inr rfl
    · exact .inl hx
  · rcases hW with h|⟨q,cs',h,h'⟩
    · exact .inl h
    · unfold upd at h h'; split at h
      · simp at h
      · rename_i hne; rw [if_neg hne] at h'; exact .inr ⟨q,cs',h,h'⟩
 refine ⟨⟨fun q=>?_,fun q q' b h4 h5=>?_,fun q b h4=>?_,R.xlt⟩,E,⟨rfl,rfl,rfl,Nat.le_refl _,fun _ _ _=>rfl,fun q b h4=>?_⟩⟩
 · by_cases hq:q=r
   · subst hq; simp [upd,ObjOk]
   · simp only [upd,if_neg hq]; exact (R.obj q).mono E (fun _ _=>rfl)
 · unfold upd at h4 h5
   split at h4<;>split at h5<;>first|(simp at h4; done)|(simp at h5; done)|exact R.inj _ _ _ h4 h5
 · unfold upd at h4; split at h4
   · simp at h4
   · exact R.ext _ _ h4
 · unfold upd at h4; split at h4
   · simp at h4
   · exact .inr ⟨q,h4⟩
theorem rename_rel (R:RelM X φ m w) {r nx b:Nat} {cs} (hm:m r = .live cs) (hb:φ r=some (some b)) (hu:m nx = .unused) :
 RelM X (upd (upd φ r (some none)) nx (some (some b))) (upd (upd m r .gone) nx (.live cs)) w∧Stp X φ m w (upd (upd φ r (some none)) nx (some (some b))) (upd (upd m r .gone) nx (.live cs)) w:=by
 have hne:nx ≠ r:=fun e=>by rw [e,hm] at hu; simp at hu
 have hφ:=R.unused hu
 have E:Ext (Wr X φ m) φ w (Wr X (upd (upd φ r (some none)) nx (some (some b))) (upd (upd m r .gone) nx (.live cs))) (upd (upd φ r (some none)) nx (some (some b))) w:=by
  refine ⟨fun q x hx=>?_,fun _ _ _=>rfl,fun k _ hW=>?_,fun _ _ c e fr _ _ h=>⟨c,e,fr,h,Nat.le_refl _⟩⟩
  · unfold upd; split
    · rename_i e; rw [e,hφ] at hx; simp at hx
    · split
      · exact .inr rfl
      · exact .inl hx
  · rcases hW with h|⟨q,cs',h,h'⟩
    · exact .inl h
    · unfold upd at h h'; split at h
      · simp at h; subst h; exact .inr ⟨r,cs,hb,hm⟩
      · rename_i hn; rw [if_neg hn] at h'
        split at h
        · simp at h
        · rename_i hn'; rw [if_neg hn'] at h'; exact .inr ⟨q,cs',h,h'⟩
 refine ⟨⟨fun q=>?_,fun q q' k h4 h5=>?_,fun q k h4=>?_,R.xlt⟩,E,⟨rfl,rfl,rfl,Nat.le_refl _,fun _ _ _=>rfl,fun q k h4=>?_⟩⟩
 · by_cases hq:q=nx
   · subst hq
     simp only [upd,if_true]
     have:=(R.obj r).mono E (fun _ _=>rfl)
     rw [hm,hb] at this
     exact this
   · by_cases hq':q=r
     · subst hq'; simp [upd,hq,ObjOk]
     · simp only [upd,if_neg hq,if_neg hq']; exact (R.obj q).mono E (fun _ _=>rfl)
 · unfold upd at h4 h5
   split at h4<;>split at h5
   · simp_all
   · split at h5
     · simp at h5
     · simp at h4; subst h4; rename_i hq _ hn; exact absurd (R.inj _ _ _ h5 hb) hn
   · split at h4
     · simp at h4
     · simp at h5; subst h5; rename_i hn; exact absurd (R.inj _ _ _ h4 hb) hn
   · split at h4
     · simp at h4
     · split at h5
       · simp at h5
       · exact R.inj _ _ _ h4 h5
 · unfold upd at h4; split at h4
   · simp at h4; subst h4; exact R.ext _ _ hb
   · split at h4
     · simp at h4
     · exact R.ext _ _ h4
 · unfold upd at h4; split at h4
   · simp at h4; subst h4; exact .inr ⟨r,hb⟩
   · split at h4
     · simp at h4
     · exact .inr ⟨q,h4⟩
theorem RL.strCells (x:ByteArray):RL W φ w (byteCells x) (strCells x):=by
 unfold byteCells AM.strCells
 generalize x.data.toList=l
 induction l with
 | nil=>exact .nil
 | cons b l ih=>exact .int _ _ ih
theorem obj_reads (R:RelM X φ m w) {r cs} (h:objCells (m r)=some cs):∃ b c e,φ r=some (some b)∧w.heap[b]? = some (.cells c e (0,0))∧cs.length≤c.size∧RL (Wr X φ m) φ w (c.toList.take cs.length) cs∧Reads w b 0 (c.toList.take cs.length)∧cs.all AV.ck=true:=by
 obtain ⟨b,cs',c,e,h1,h2,h3,h4,h5,h6⟩:=R.alive (alive_of h)
 rw [h] at h2; simp at h2; subst h2
 refine ⟨b,c,e,h1,h3,h4,h5,fun j u hj=>?_,h6⟩
 rw [List.getElem?_take] at hj
 split at hj
 · rw [cell_of_row w b _ c e _ h3]; simpa using hj
 · simp at hj
theorem apSrc_sound (R:Rel X φ s a w) {t d u i z sz g y q k news} (ht:TyD.ok P t d u i z) (h:apSrc s sz g d.k (aev s y)=some (q,k,news)) (hq:q) (hk:news.all AV.ck=true) :
 ∃ vs,Src P sz t (a.eval y) k vs w∧RL (Wr X φ s.m) φ w vs news∧vs.length=k*sz:=by
 have hy:=R.ev y
 unfold apSrc at h
 split at h
 · rename_i e hd he
   simp only [Option.some.injEq,Prod.mk.injEq] at h
   obtain ⟨rfl,rfl,rfl⟩:=h
   rw [he] at hy
   rw [hy.nils_inv]
   have hu:=ht.slice hd
   subst hu
   exact ⟨[],Src.ofNil w ht.un 0,.nil,by simp⟩
 · rename_i e n cs hd he
   simp only [Option.some.injEq,Prod.mk.injEq] at h
   obtain ⟨rfl,rfl,rfl⟩:=h
   rw [he] at hy
   have hu:=ht.slice hd
   subst hu
   rcases hy.imm_inv with ⟨ad,cap,hv,rfl,rfl⟩|⟨b,o',cap,us,hv,hcap,h5,h6,h7⟩
   · rw [hv]
     cases ad with
     | none=>exact ⟨[],Src.ofNil w ht.un cap,.nil,by simp⟩
     | some ad=>exact ⟨[],Src.ofSlice w ht.un ad 0 cap [] (by simp) (by simp) (by simp),.nil,by simp⟩
   · rw [hv]
     have hl:us.length=n*sz:=by rw [h7.length,hq]
     exact ⟨us,Src.ofSlice w ht.un _ n cap us hl (fun j u hj=>by rw [Addr.add_mid]; exact h6 j u hj) (h7.cells hk),h7,hl⟩
 · rename_i e r off n k' hd he
   simp only [Option.map_eq_some_iff,Prod.mk.injEq] at h
   obtain ⟨cs,h1,rfl,rfl,rfl⟩:=h
   obtain ⟨hc,rfl,_⟩:=hq
   rw [he] at hy
   have hu:=ht.slice hd
   subst hu
   obtain ⟨b,c,e',hb,hh,hl,hr,hrd,_⟩:=obj_reads R.mem h1
   obtain ⟨cap,hv,_⟩:=hy.sl_inv hb
   rw [hv]
   have hr':=hr.cut hc
   have hlen:(((c.toList.take cs.length).drop off).take (n*k')).length=n*k':=by
    rw [hr'.length]; have:=hc.1; simp; omega
   exact ⟨_,Src.ofSlice w ht.un _ n cap _ hlen (fun j u hj=>by
    rw [Addr.add_mid]
    rw [List.getElem?_take] at hj
    split at hj
    · have:=hrd (off+j) u (by simpa using hj)
      simpa using this
    · simp at hj) (hr'.cells hk),hr',hlen⟩
 · rename_i x hd he
   simp only [Option.some.injEq,Prod.mk.injEq] at h
   obtain ⟨rfl,rfl,rfl⟩:=h
   rw [he] at hy
   rw [hy.str_inv]
   have hu:=ht.string hd
   subst hu
   subst hq
   exact ⟨_,Src.ofString w ht.un x,RL.strCells x,by rw [byteCells_length]; omega⟩
 · simp at h
theorem List.to2 {x y:Operand} {l:Array Operand} (h:l.toList=[x,y]):l=#[x,y]:=by apply Array.ext'; simpa using h
theorem List.to2' {x y:Nat} {l:Array Nat} (h:l.toList=[x,y]):l=#[x,y]:=by apply Array.ext'; simpa using h
theorem exec_builtin {b:Builtin} {c:Call} {x y:Operand} (ho:o.op = .call c) (hc:c.callee = .builtin b) (hx:c.args.toList=[x,y]) (R:Value) (w':World)
 (f:Array TypeId→TypeId→Array Value→Sem Value) (hf:∀ ats ty cs az,builtin b ats ty cs az=(do pure (.value (← f ats ty az)):Sem Next)) (h:(f c.argTypes o.type #[a.eval x,a.eval y]).run P w = .ok R w') :
 (execOp a.eval o).run P w = .ok (.value R) w':=by
 have ha:=List.to2 hx
 simp [execOp,ho,resolve,hc,ha,invoke,hf,h]
theorem acp_sound (HT:TyOk P T) (R:Rel X φ s a w) {p s'} {c:Call} (ho:o.op = .call c) (hc:c.callee = .builtin .copy) (h:acp T s o=some (p,s')) (hp:p) (hd:∀ d,o.dst=some d→d<s.n) :
 ∃ v w',(execOp a.eval o).run P w = .ok (.value v) w'∧Rel X φ s' (a.put o.dst v) w'∧Stp X φ s.m w φ s'.m w':=by
 unfold acp at h
 simp only [ho] at h
 split at h
 · rename_i x y t t' hx hts
   simp only [Option.bind_eq_some_iff] at h
   obtain ⟨d,hT,h⟩:=h
   obtain ⟨u,i,z,ht⟩:=HT _ _ hT
   split at h
   · rename_i e hk
     simp only [Option.bind_eq_some_iff] at h
     obtain ⟨ed,hTe,d',hT',h⟩:=h
     obtain ⟨u1,i1,z1,he⟩:=HT _ _ hTe
     obtain ⟨u2,i2,z2,ht'⟩:=HT _ _ hT'
     have hu:=ht.slice hk
     subst hu
     split at h
     · rename_i r off n k hxe
       split at h
       · rename_i cs hm
         simp only [Option.map_eq_some_iff,Prod.exists,Prod.mk.injEq] at h
         obtain ⟨q,l,news,hsrc,rfl,rfl⟩:=h
         obtain ⟨hq,rfl,hln,hcut,hnk⟩:=hp
         obtain ⟨vs,hS,hvs,hvl⟩:=apSrc_sound R ht' hsrc hq hnk
         have ho':=R.mem.obj r
         rw [hm] at ho'
         obtain ⟨b,hb,C,e',hC,hl,hr,hk'⟩:=ho'
         have hxv:=R.ev x
         rw [hxe] at hxv
         obtain ⟨cap,hv,_⟩:=hxv.sl_inv hb
         have hnl:news.length=l*ed.sz:=by rw [← hvs.length,hvl]
         have hcl:=hcut.1
         obtain ⟨s1,s2,s3,s4,s5,s6⟩:=setCells_heap b e' vs off w C hC (by rw [hvl]; omega)
         have hlen:(C.toList.take cs.length).length=cs.length:=by simp; omega
         have hov:(over cs off news).length=cs.length:=by unfold over; simp [hnl]; omega
         have hmem:RelM X φ (upd s.m r (.live (over cs off news))) (w.setCells b off vs)∧Stp X φ s.m w φ (upd s.m r (.live (over cs off news))) (w.setCells b off vs):=by
          refine write_rel R.mem hm hb hC s1 s2 s3 ?_ ?_ ?_ ?_ s4 s5 s6
          · simp [hvl]; omega
          · rw [hov]; exact hl
          · have:=hr.over hcut hvs hnl
            have e1:(List.take (over cs off news).length ((C.toList.take off++vs++C.toList.drop (off+vs.length)).toArray).toList) =
             (C.toList.take cs.length).take off++vs++(C.toList.take cs.length).drop (off+vs.length):=by
             rw [hov]
             simp only []
             rw [List.take_append,List.take_append,List.take_of_length_le (l:=C.toList.take off) (by simp; omega),List.take_of_length_le (l:=vs) (by simp [hvl]; omega)]
             simp only [List.length_append,List.length_take,Array.length_toList,hvl,Nat.min_eq_left (show off≤C.size by omega)]
             rw [List.take_take,Nat.min_eq_left (by omega),List.drop_take]
            rw [e1]; exact this
          · unfold over
            simp only [List.all_append,Bool.and_eq_true]
            simp only [List.all_eq_true] at hk' hnk ⊢
            exact ⟨⟨fun x hx=>hk' x (List.mem_of_mem_take hx),hnk⟩,fun x hx=>hk' x (List.mem_of_mem_drop hx)⟩
         refine ⟨.int .i64 l,w.setCells b off vs,?_,R.put hmem.2 hmem.1 (.int _ _ .nil) hd,hmem.2⟩
         refine exec_builtin ho hc hx _ _ Builtin.copy_ (fun _ _ _ _=>rfl) ?_
         have hts':=List.to2' hts
         have hst:=run_storeCells_cells (P:=P) b off vs 0 w (fun j hj=>by
          have:=(there_of (off:=off) (n:=vs.length) hC (by rw [hvl]; omega) j hj).1; simpa using this) (fun j hj=>by
          have:=(there_of (off:=off) (n:=vs.length) hC (by rw [hvl]; omega) j hj).2; simpa using this) hS.one
         simp only [Nat.add_zero] at hst
         have hmin:Nat.min l n=l:=Nat.min_eq_left hln
         have hsz:(sizeOf e).run P w = .ok i1.size w:=run_sizeOf' he.info w
         simp [Builtin.copy_,hts',hv,run_underlying ht.un,hS.len,hmin,hsz,he.size,hS.cells,hst,goInt]
       · simp at h
     · simp at h
   · simp at h
 · simp at h
theorem zeroCells_size (z:Array Value) (n:Nat):(Builtin.zeroCells z n).size=n*z.size:=by simp [Builtin.zeroCells]
theorem isNils_eq {v:AV} (h:v.isNils=true):v = .nils:=by cases v<;>simp [AV.isNils] at h; rfl
theorem aap_sound (HT:TyOk P T) (R:Rel X φ s a w) {p s' nx} {c:Call} (ho:o.op = .call c) (hc:c.callee = .builtin .append) (h:aap T nx s o=some (p,s')) (hp:p) (hd:∀ d,o.dst=some d→d<s.n) :
 ∃ v w' φ',(execOp a.eval o).run P w = .ok (.value v) w'∧Rel X φ' s' (a.put o.dst v) w'∧Stp X φ s.m w φ' s'.m w':=by
 unfold aap at h
 simp only [ho] at h
 split at h
 · rename_i x y t t' hx hts
   simp only [Option.bind_eq_some_iff] at h
   obtain ⟨d,hT,h⟩:=h
   obtain ⟨u,i,z,ht⟩:=HT _ _ hT
   have hts':=List.to2' hts
   split at h
   · rename_i e hk
     simp only [Option.bind_eq_some_iff] at h
     obtain ⟨ed,hTe,d',hT',h⟩:=h
     obtain ⟨u1,i1,z1,he⟩:=HT _ _ hTe
     obtain ⟨u2,i2,z2,ht'⟩:=HT _ _ hT'
     have hu:=ht.slice hk
     subst hu
     split at h
     · rename_i hnn
       simp only [Bool.and_eq_true] at hnn
       have e1:=isNils_eq hnn.1
       have e2:=isNils_eq hnn.2
       split at h
       · rename_i e' hk'
         simp only [Option.some.injEq,Prod.mk.injEq] at h
         obtain ⟨rfl,rfl⟩:=h
         have hu2:=ht'.slice hk'
         subst hu2
         have hxv:=R.ev x
         have hyv:=R.ev y
         rw [e1] at hxv; rw [e2] at hyv
         refine ⟨.slice none 0 0,w,φ,?_,R.put (.refl _ _ _ _) R.mem (.nils .nil) hd,.refl _ _ _ _⟩
         refine exec_builtin ho hc hx _ _ Builtin.append_ (fun _ _ _ _=>rfl) ?_
         have hsz:(sizeOf e).run P w = .ok i1.size w:=run_sizeOf' he.info w
         simp [Builtin.append_,hts',hxv.nils_inv,hyv.nils_inv,run_underlying ht.un,run_underlying ht'.un,hsz,Builtin.lenOf,Builtin.firstCells]
       · simp at h
     · simp only [Option.bind_eq_some_iff,Option.map_eq_some_iff,Prod.exists,Prod.mk.injEq] at h
       obtain ⟨q1,n,olds,g,hdst,q2,k,news,hsrc,rfl,rfl⟩:=h
       obtain ⟨hq1,hq2,hg,hnx,hmax,hby,hok,hnk⟩:=hp
       obtain ⟨vs,hS,hvs,hvl⟩:=apSrc_sound R ht' hsrc hq2 hnk
       have hS':Src P i1.size t' (a.eval y) k vs w:=by rw [he.size]; exact hS
       have hnl:news.length=k*ed.sz:=by rw [← hvs.length,hvl]
       have h63:((n+k:Nat):Int)≤9223372036854775807:=by
        have:(n+k)*1≤(n+k)*ed.bytes:=Nat.mul_le_mul_left _ hby
        omega
       have hxv:=R.ev x
       have hzr:=he.rep (Wr X φ s.m) φ w
       unfold apDst at hdst
       split at hdst
       · rename_i hxe
         simp only [Option.some.injEq,Prod.mk.injEq] at hdst
         obtain ⟨rfl,rfl,rfl,rfl⟩:=hdst
         rw [hxe] at hxv
         have hk0:=hg rfl
         have hrun:=run_append_grow_src (P:=P) w t t' o.type e i1 z1 ht.un he.info he.zero none 0 0 [] (run_firstCells_none w.drew i1.size 0 0 0) (a.eval y) k vs hS' (by omega) h63 (growslice_fits (by omega) (by rw [he.bytes]; omega))
         have hal:=alloc_rel (w':=w.drew.alloc (.cells (([]++vs).toArray++Builtin.zeroCells z1.cells (grownCap w (0+k) 0 e-(0+k))) e)) R.mem hnx (C:=(([]++vs).toArray++Builtin.zeroCells z1.cells (grownCap w (0+k) 0 e-(0+k)))) (e:=e) (cs:=[]++news) (by
          have:(List.take ([]++news).length (([]++vs).toArray++Builtin.zeroCells z1.cells (grownCap w (0+k) 0 e-(0+k))).toList)=vs:=by
           simp [← hvs.length]
          rw [this]; exact hvs) (by simp [hvs.length]) hnk rfl rfl rfl rfl
         refine ⟨_,_,_,exec_builtin ho hc hx _ _ Builtin.append_ (fun _ _ _ _=>rfl) (by rw [hts',hxv.nils_inv]; exact hrun),R.put hal.2 hal.1 ?_ hd,hal.2⟩
         have hcap:0+k≤grownCap w (0+k) 0 e:=by unfold grownCap Question.cut; simp
         refine .sl (upd_same _ _ _) hcap ⟨_,e,(0,0),heap_alloc_new w.drew _,?_⟩ .nil
         rw [Array.size_append,List.size_toArray,List.length_append,hvl,zeroCells_size,he.len,List.length_nil]
         generalize grownCap w (0+k) 0 e=G at hcap ⊢
         have:=Nat.mul_le_mul_right ed.sz (show G≤k+(G-(0+k)) by omega)
         rw [Nat.add_mul] at this
         omega
       · rename_i r off n' k' hxe
         split at hdst
         · rename_i cs hm
           simp only [Option.some.injEq,Prod.mk.injEq] at hdst
           obtain ⟨rfl,rfl,rfl,rfl⟩:=hdst
           obtain ⟨rfl,rfl,hcl⟩:=hq1
           rw [hxe] at hxv
           have ho':=R.mem.obj r
           rw [hm] at ho'
           obtain ⟨b,hb,C,e',hC,hl,hr,hk'⟩:=ho'
           obtain ⟨cap,hv,hcap,C',e'',fr,hC',hsz⟩:=hxv.sl_inv hb
           rw [hC] at hC'
           simp at hC'
           obtain ⟨rfl,rfl,rfl⟩:=hC'
           by_cases hroom:n'+k≤cap
           · have hfit:(n'+k)*ed.sz≤C.size:=by
              have:=Nat.mul_le_mul_right ed.sz hroom
              omega
             have hfit':n'*ed.sz+k*ed.sz≤C.size:=by rw [← Nat.add_mul]; exact hfit
             have hth:=there_of (w:=w) (b:=b) (off:=n'*ed.sz) (n:=vs.length) hC (by rw [hvl]; exact hfit')
             have hrun:=run_append_room_src (P:=P) w t t' o.type e i1 ht.un he.info b 0 n' cap (a.eval y) k vs hS' hroom (fun j hj=>by rw [he.size]; have:=(hth j hj).1; simpa using this) (fun j hj=>by rw [he.size]; have:=(hth j hj).2; simpa using this)
             rw [he.size] at hrun
             simp only [Nat.zero_add] at hrun
             obtain ⟨s1,s2,s3,s4,s5,s6⟩:=setCells_heap b e' vs (n'*ed.sz) w C hC (by rw [hvl]; exact hfit')
             have hwr:RelM X φ (upd s.m r (.live (cs++news))) (w.setCells b (n'*ed.sz) vs)∧Stp X φ s.m w φ (upd s.m r (.live (cs++news))) (w.setCells b (n'*ed.sz) vs):=by
              refine write_rel R.mem hm hb hC s1 s2 s3 ?_ ?_ ?_ ?_ s4 s5 s6
              · simp [hvl]; omega
              · simp [hnl,hcl]; exact hfit'
              · have e1:(List.take (cs++news).length ((C.toList.take (n'*ed.sz)++vs++C.toList.drop (n'*ed.sz+vs.length)).toArray).toList)=C.toList.take cs.length++vs:=by
                 rw [List.length_append,hnl,hcl]
                 simp only []
                 rw [List.take_append,List.take_of_length_le (by simp [hvl]; omega)]
                 simp [hvl]; omega
                rw [e1]; exact hr.app hvs
              · simp only [List.all_append,Bool.and_eq_true]; exact ⟨hok,hnk⟩
             have hnx':upd s.m r (.live (cs++news)) nx = .unused:=by
              unfold upd; rw [if_neg]; exact hnx
              intro e; rw [e,hm] at hnx; simp at hnx
             have hren:=rename_rel hwr.1 (upd_same _ _ _) hb hnx'
             have em:upd (upd (upd s.m r (.live (cs++news))) r .gone) nx (.live (cs++news))=upd (upd s.m r .gone) nx (.live (cs++news)):=by
              funext j; simp only [upd]; by_cases h1:j=nx<;>by_cases h2:j=r<;>simp [h1,h2]
             rw [em] at hren
             have hst:=hwr.2.trans hren.2
             refine ⟨_,_,_,exec_builtin ho hc hx _ _ Builtin.append_ (fun _ _ _ _=>rfl) (by rw [hts',hv]; exact hrun),R.put hst hren.1 ?_ hd,hst⟩
             refine .sl (upd_same _ _ _) hroom ⟨_,e',(0,0),s1,?_⟩ .nil
             simp [hvl]; omega
           · have holds:(Builtin.firstCells i1.size n' (.slice (some ⟨b,0,none⟩) n' cap)).run P w.drew = .ok (C.toList.take cs.length).toArray w.drew:=by
              refine run_firstCells_some w.drew i1.size n' _ n' cap _ ?_ ?_
              · rw [he.size]; simp; omega
              · intro j u hj
                rw [Addr.add_mid]
                rw [List.getElem?_take] at hj
                split at hj
                · show w.cell? _=_
                  rw [cell_of_row w b _ C e' _ hC]; simpa using hj
                · simp at hj
             have hrun:=run_append_grow_src (P:=P) w t t' o.type e i1 z1 ht.un he.info he.zero (some ⟨b,0,none⟩) n' cap (C.toList.take cs.length) holds (a.eval y) k vs hS' (by omega) h63 (growslice_fits (by omega) (by rw [he.bytes]; omega))
             have hgo:=gone_rel R.mem hm
             have hnx':upd s.m r .gone nx = .unused:=by
              unfold upd; rw [if_neg]; exact hnx
              intro e; rw [e,hm] at hnx; simp at hnx
             have hal:=alloc_rel (w':=w.drew.alloc (.cells ((C.toList.take cs.length++vs).toArray++Builtin.zeroCells z1.cells (grownCap w (n'+k) cap e-(n'+k))) e)) hgo.1 hnx' (C:=((C.toList.take cs.length++vs).toArray++Builtin.zeroCells z1.cells (grownCap w (n'+k) cap e-(n'+k)))) (e:=e) (cs:=cs++news) (by
              have:(List.take (cs++news).length ((C.toList.take cs.length++vs).toArray++Builtin.zeroCells z1.cells (grownCap w (n'+k) cap e-(n'+k))).toList)=C.toList.take cs.length++vs:=by
               rw [Array.toList_append,List.take_append_of_le_length]
               · exact List.take_of_length_le (by simp [hvs.length]; omega)
               · simp [hvs.length]; omega
              rw [this]; exact (hr.app hvs).mono hgo.2.ext) (by simp [hvs.length]; omega) (by simp only [List.all_append,Bool.and_eq_true]; exact ⟨hok,hnk⟩) rfl rfl rfl rfl
             have hst:=hgo.2.trans hal.2
             have hcap:n'+k≤grownCap w (n'+k) cap e:=by unfold grownCap Question.cut; simp
             refine ⟨_,_,_,exec_builtin ho hc hx _ _ Builtin.append_ (fun _ _ _ _=>rfl) (by rw [hts',hv]; exact hrun),R.put hst hal.1 ?_ hd,hst⟩
             refine .sl (upd_same _ _ _) hcap ⟨_,e,(0,0),heap_alloc_new w.drew _,?_⟩ .nil
             have e9:(C.toList.take cs.length).length=n'*ed.sz:=by simp; omega
             rw [Array.size_append,List.size_toArray,List.length_append,hvl,zeroCells_size,he.len,e9]
             generalize grownCap w (n'+k) cap e=G at hcap ⊢
             have:=Nat.mul_le_mul_right ed.sz (show G≤n'+k+(G-(n'+k)) by omega)
             rw [Nat.add_mul,Nat.add_mul] at this
             omega
         · simp at hdst
       · simp at hdst
   · simp at h
 · simp at h
end
section
variable {W:Nat→Prop} {X:Nat→Prop} {φ:Nat→Option (Option Nat)} {m:Nat→AObj} {s:St} {a:Act} {w w':World} {P:Program} {T:Nat→Option TyD} {E:Env} {o:Oper}
theorem snapM_at:∀ (l:List AV) (m:Nat→AObj) (r:Nat),snapM m l r=m r∨∃ cs,m r = .live cs∧snapM m l r = .ro cs
 | [],m,r=>.inl rfl
 | x::l,m,r=>by
   have key:∀ q,snapM (upd m q (m q).freeze) l r=m r∨∃ cs,m r = .live cs∧snapM (upd m q (m q).freeze) l r = .ro cs:=fun q=>by
    have ih:=snapM_at l (upd m q (m q).freeze) r
    by_cases e:r=q
    · subst e
      rw [upd_same] at ih
      cases hq:m r<;>rw [hq] at ih<;>simp only [AObj.freeze] at ih
      case live cs =>
       rcases ih with h|⟨cs',h1,h2⟩
       · exact .inr ⟨cs,rfl,h⟩
       · simp at h1
      all_goals
       rcases ih with h|⟨cs',h1,h2⟩
       · exact .inl h
       · simp at h1
    · have:upd m q (m q).freeze r=m r:=by simp [upd,e]
      rw [this] at ih; exact ih
   cases x
   case sl q off n sz=>exact key q
   case ref q off=>exact key q
   all_goals exact snapM_at l m r
theorem snapM_ro:∀ (l:List AV) (m:Nat→AObj) (r:Nat) (v:AV),v ∈ l→top v=some r→∀ cs,snapM m l r ≠ .live cs
 | x::l,m,r,v,h,ht,cs=>by
   have key:snapM (upd m r (m r).freeze) l r ≠ .live cs:=by
    rcases snapM_at l (upd m r (m r).freeze) r with h|⟨cs'',h1,h2⟩
    · rw [h,upd_same]; cases m r<;>simp [AObj.freeze]
    · rw [h2]; simp
   rcases List.mem_cons.1 h with hm|hm
   · subst hm
     cases v<;>simp only [top,Option.some.injEq,reduceCtorEq] at ht
     all_goals subst ht; exact key
   · cases x
     case sl q off' n' sz'=>simp only [snapM]; exact snapM_ro l _ r v hm ht cs
     case ref q off'=>simp only [snapM]; exact snapM_ro l _ r v hm ht cs
     all_goals simp only [snapM]; exact snapM_ro l m r v hm ht cs
theorem snapM_cells (l:List AV) (m:Nat→AObj) (r:Nat):objCells (snapM m l r)=objCells (m r):=by
 rcases snapM_at l m r with h|⟨cs,h1,h2⟩
 · rw [h]
 · rw [h2,h1]; rfl
theorem freeze_rel (R:RelM X φ m w) (l:List AV):RelM X φ (snapM m l) w∧Stp X φ m w φ (snapM m l) w:=by
 have E:Ext (Wr X φ m) φ w (Wr X φ (snapM m l)) φ w:=by
  refine ⟨fun _ _ h=>.inl h,fun _ _ _=>rfl,fun b _ hW=>?_,fun _ _ c e fr _ _ h=>⟨c,e,fr,h,Nat.le_refl _⟩⟩
  rcases hW with h|⟨r,cs,h,h'⟩
  · exact .inl h
  · rcases snapM_at l m r with h1|⟨cs',h1,h2⟩
    · rw [h1] at h'; exact .inr ⟨r,cs,h,h'⟩
    · exact .inr ⟨r,cs',h,h1⟩
 refine ⟨⟨fun r=>?_,R.inj,R.ext,R.xlt⟩,E,.refl _ _⟩
 have ho:=(R.obj r).mono E (fun _ _=>rfl)
 rcases snapM_at l m r with h1|⟨cs',h1,h2⟩
 · rw [h1]; exact ho
 · rw [h2]; rw [h1] at ho; exact ho
theorem RL.snap1L {vs az} (h:RL W φ w vs az) (H:∀ r off n sz,AV.sl r off n sz ∈ az→∃ cs b c e,φ r=some (some b)∧objCells (m r)=some cs∧Cut cs off (n*sz)∧w.heap[b]? = some (.cells c e (0,0))∧cs.length≤c.size∧RL W φ w (c.toList.take cs.length) cs∧¬ W b)
 (G:∀ r off,AV.ref r off ∈ az→∃ cs b c e,φ r=some (some b)∧objCells (m r)=some cs∧(off≤cs.length∧AV.head (cs.drop off)=true)∧w.heap[b]? = some (.cells c e (0,0))∧cs.length≤c.size∧RL W φ w (c.toList.take cs.length) cs∧¬ W b) :
 RL W φ w vs (az.map (snap1 m)):=by
 induction h with
 | nil=>exact .nil
 | junk v _ ih=>exact .junk v (ih (fun r o n z h=>H r o n z (List.mem_cons_of_mem _ h)) fun r o h=>G r o (List.mem_cons_of_mem _ h))
 | bool b _ ih=>exact .bool b (ih (fun r o n z h=>H r o n z (List.mem_cons_of_mem _ h)) fun r o h=>G r o (List.mem_cons_of_mem _ h))
 | int k n _ ih=>exact .int k n (ih (fun r o n z h=>H r o n z (List.mem_cons_of_mem _ h)) fun r o h=>G r o (List.mem_cons_of_mem _ h))
 | str s _ ih=>exact .str s (ih (fun r o n z h=>H r o n z (List.mem_cons_of_mem _ h)) fun r o h=>G r o (List.mem_cons_of_mem _ h))
 | nilp _ ih=>exact .nilp (ih (fun r o n z h=>H r o n z (List.mem_cons_of_mem _ h)) fun r o h=>G r o (List.mem_cons_of_mem _ h))
 | @ref r off b vs az a _ ih =>
   obtain ⟨cs,b',c',e,h1,h2,h3,h4,h5,h6,h7⟩:=G r off (by simp)
   rw [a] at h1; simp at h1; subst h1
   simp only [List.map_cons,snap1,h2]
   refine .fref (us:=(c'.toList.take cs.length).drop off) (fun _=>h7) (fun j u hj=>?_) (h6.split _ h3.1 h3.2).2 (ih (fun r o n z h=>H r o n z (List.mem_cons_of_mem _ h)) fun r o h=>G r o (List.mem_cons_of_mem _ h))
   rw [cell_of_row w b _ c' e _ h4]
   rw [List.getElem?_drop,List.getElem?_take] at hj
   split at hj
   · simpa using hj
   · simp at hj
 | gref v a b _ ih =>
   obtain ⟨cs,b',c',e,h1,_⟩:=G _ _ (List.mem_cons_self)
   rw [b] at h1; simp at h1
 | fref a b c _ _ ih=>exact .fref a b c (ih (fun r o n z h=>H r o n z (List.mem_cons_of_mem _ h)) fun r o h=>G r o (List.mem_cons_of_mem _ h))
 | nils _ ih=>exact .nils (ih (fun r o n z h=>H r o n z (List.mem_cons_of_mem _ h)) fun r o h=>G r o (List.mem_cons_of_mem _ h))
 | @sl r off n sz b cap vs az a hcap c _ ih =>
   obtain ⟨cs,b',c',e,h1,h2,h3,h4,h5,h6,h7⟩:=H r off n sz (by simp)
   rw [a] at h1; simp at h1; subst h1
   simp only [List.map_cons,snap1,h2]
   refine .imm (us:=((c'.toList.take cs.length).drop off).take (n*sz)) hcap (fun _=>h7) (fun j u hj=>?_) (h6.cut h3) (ih (fun r o n z h=>H r o n z (List.mem_cons_of_mem _ h)) fun r o h=>G r o (List.mem_cons_of_mem _ h))
   rw [List.getElem?_take] at hj
   split at hj
   · rw [cell_of_row w b _ c' e _ h4]
     rw [List.getElem?_drop,List.getElem?_take] at hj
     split at hj
     · simpa using hj
     · simp at hj
   · simp at hj
 | gsl v a b _ ih =>
   obtain ⟨cs,b',c',e,h1,_⟩:=H _ _ _ _ (List.mem_cons_self)
   rw [b] at h1; simp at h1
 | imm0 a c _ ih=>exact .imm0 a c (ih (fun r o n z h=>H r o n z (List.mem_cons_of_mem _ h)) fun r o h=>G r o (List.mem_cons_of_mem _ h))
 | imm z a b c _ _ ih=>exact .imm z a b c (ih (fun r o n z h=>H r o n z (List.mem_cons_of_mem _ h)) fun r o h=>G r o (List.mem_cons_of_mem _ h))
 | nilf _ ih=>exact .nilf (ih (fun r o n z h=>H r o n z (List.mem_cons_of_mem _ h)) fun r o h=>G r o (List.mem_cons_of_mem _ h))
 | fn a b _ _ _ ih=>exact .fn a b (ih (fun r o n z h=>H r o n z (List.mem_cons_of_mem _ h)) fun r o h=>G r o (List.mem_cons_of_mem _ h))
 | agg a _ _ ih=>exact .agg a (ih (fun r o n z h=>H r o n z (List.mem_cons_of_mem _ h)) fun r o h=>G r o (List.mem_cons_of_mem _ h))
 | tup a _ _ ih=>exact .tup a (ih (fun r o n z h=>H r o n z (List.mem_cons_of_mem _ h)) fun r o h=>G r o (List.mem_cons_of_mem _ h))
 | @opq x us vs az _ _ a b _ e1 e2 _ ih =>
   subst e2
   refine .opq a b (ih (fun r o n z h=>H r o n z (List.mem_cons_of_mem _ (List.mem_append_right _ h))) fun r o h=>G r o (List.mem_cons_of_mem _ (List.mem_append_right _ h))) e1 ?_
   rw [List.map_append,List.map_replicate]; rfl
theorem RL.snapL {vs az} (h:RL W φ w vs az) (H:∀ r off n sz,AV.sl r off n sz ∈ az.flatMap AV.cells→∃ cs b c e,φ r=some (some b)∧objCells (m r)=some cs∧Cut cs off (n*sz)∧w.heap[b]? = some (.cells c e (0,0))∧cs.length≤c.size∧RL W φ w (c.toList.take cs.length) cs∧¬ W b)
 (G:∀ r off,AV.ref r off ∈ az.flatMap AV.cells→∃ cs b c e,φ r=some (some b)∧objCells (m r)=some cs∧(off≤cs.length∧AV.head (cs.drop off)=true)∧w.heap[b]? = some (.cells c e (0,0))∧cs.length≤c.size∧RL W φ w (c.toList.take cs.length) cs∧¬ W b) :
 RL W φ w vs (az.map (snapV m)):=by
 induction h with
 | nil=>exact .nil
 | junk v _ ih=>exact .junk v (ih (fun r o n z h=>H r o n z (by simp only [List.flatMap_cons]; exact List.mem_append_right _ h)) fun r o h=>G r o (by simp only [List.flatMap_cons]; exact List.mem_append_right _ h))
 | bool b _ ih=>exact .bool b (ih (fun r o n z h=>H r o n z (by simp only [List.flatMap_cons]; exact List.mem_append_right _ h)) fun r o h=>G r o (by simp only [List.flatMap_cons]; exact List.mem_append_right _ h))
 | int k n _ ih=>exact .int k n (ih (fun r o n z h=>H r o n z (by simp only [List.flatMap_cons]; exact List.mem_append_right _ h)) fun r o h=>G r o (by simp only [List.flatMap_cons]; exact List.mem_append_right _ h))
 | str s _ ih=>exact .str s (ih (fun r o n z h=>H r o n z (by simp only [List.flatMap_cons]; exact List.mem_append_right _ h)) fun r o h=>G r o (by simp only [List.flatMap_cons]; exact List.mem_append_right _ h))
 | nilp _ ih=>exact .nilp (ih (fun r o n z h=>H r o n z (by simp only [List.flatMap_cons]; exact List.mem_append_right _ h)) fun r o h=>G r o (by simp only [List.flatMap_cons]; exact List.mem_append_right _ h))
 | @ref r off b vs az a _ ih =>
   have hh:RL W φ w [.pointer (some ⟨b,off,none⟩)] ([AV.ref r off].map (snap1 m)):=(RL.ref a .nil).snap1L (fun r' o' n' z' h'=>by simp at h') fun r' o' h'=>G r' o' (by
    simp only [List.flatMap_cons]; exact List.mem_append_left _ (by simpa [AV.cells] using h'))
   exact hh.cons (ih (fun r o n z h=>H r o n z (by simp only [List.flatMap_cons]; exact List.mem_append_right _ h)) fun r o h=>G r o (by simp only [List.flatMap_cons]; exact List.mem_append_right _ h))
 | gref v a b _ ih =>
   obtain ⟨cs,b',c',e,h1,_⟩:=G _ _ (by simp only [List.flatMap_cons]; exact List.mem_append_left _ (by simp [AV.cells]; exact ⟨rfl,rfl⟩))
   rw [b] at h1; simp at h1
 | fref a b c _ _ ih=>exact .fref a b c (ih (fun r o n z h=>H r o n z (by simp only [List.flatMap_cons]; exact List.mem_append_right _ h)) fun r o h=>G r o (by simp only [List.flatMap_cons]; exact List.mem_append_right _ h))
 | nils _ ih=>exact .nils (ih (fun r o n z h=>H r o n z (by simp only [List.flatMap_cons]; exact List.mem_append_right _ h)) fun r o h=>G r o (by simp only [List.flatMap_cons]; exact List.mem_append_right _ h))
 | @sl r off n sz b cap vs az a hcap c _ ih =>
   have hh:RL W φ w [.slice (some ⟨b,off,none⟩) n cap] ([AV.sl r off n sz].map (snap1 m)):=(RL.sl a hcap c .nil).snap1L (fun r' o' n' z' h'=>H r' o' n' z' (by
    simp only [List.flatMap_cons]; exact List.mem_append_left _ (by simpa [AV.cells] using h'))) (fun r' o' h'=>by simp at h')
   exact hh.cons (ih (fun r o n z h=>H r o n z (by simp only [List.flatMap_cons]; exact List.mem_append_right _ h)) fun r o h=>G r o (by simp only [List.flatMap_cons]; exact List.mem_append_right _ h))
 | gsl v a b _ ih =>
   obtain ⟨cs,b',c',e,h1,_⟩:=H _ _ _ _ (by simp only [List.flatMap_cons]; exact List.mem_append_left _ (by simp [AV.cells]; exact ⟨rfl,rfl,rfl,rfl⟩))
   rw [b] at h1; simp at h1
 | imm0 a c _ ih=>exact .imm0 a c (ih (fun r o n z h=>H r o n z (by simp only [List.flatMap_cons]; exact List.mem_append_right _ h)) fun r o h=>G r o (by simp only [List.flatMap_cons]; exact List.mem_append_right _ h))
 | imm z a b c _ _ ih=>exact .imm z a b c (ih (fun r o n z h=>H r o n z (by simp only [List.flatMap_cons]; exact List.mem_append_right _ h)) fun r o h=>G r o (by simp only [List.flatMap_cons]; exact List.mem_append_right _ h))
 | nilf _ ih=>exact .nilf (ih (fun r o n z h=>H r o n z (by simp only [List.flatMap_cons]; exact List.mem_append_right _ h)) fun r o h=>G r o (by simp only [List.flatMap_cons]; exact List.mem_append_right _ h))
 | fn a b _ _ _ ih=>exact .fn a b (ih (fun r o n z h=>H r o n z (by simp only [List.flatMap_cons]; exact List.mem_append_right _ h)) fun r o h=>G r o (by simp only [List.flatMap_cons]; exact List.mem_append_right _ h))
 | agg a _ _ ih =>
   refine .agg (a.snap1L (fun r o n z h=>H r o n z (by simp only [List.flatMap_cons]; exact List.mem_append_left _ (by simpa [AV.cells] using h))) fun r o h=>G r o (by simp only [List.flatMap_cons]; exact List.mem_append_left _ (by simpa [AV.cells] using h))) (ih (fun r o n z h=>H r o n z (by simp only [List.flatMap_cons]; exact List.mem_append_right _ h)) fun r o h=>G r o (by simp only [List.flatMap_cons]; exact List.mem_append_right _ h))
 | tup a _ _ ih=>exact .tup a (ih (fun r o n z h=>H r o n z (by simp only [List.flatMap_cons]; exact List.mem_append_right _ h)) fun r o h=>G r o (by simp only [List.flatMap_cons]; exact List.mem_append_right _ h))
 | @opq x us vs az _ _ a b _ e1 e2 _ ih =>
   subst e2
   refine .opq a b (ih (fun r o n z h=>H r o n z (by simp only [List.flatMap_cons,List.flatMap_append]; exact List.mem_append_right _ (List.mem_append_right _ h))) fun r o h=>G r o (by simp only [List.flatMap_cons,List.flatMap_append]; exact List.mem_append_right _ (List.mem_append_right _ h))) e1 ?_
   rw [List.map_append,List.map_replicate]; rfl
theorem snapC_at:∀ {l:List AV} (_:snapC m l) {r off n sz} (_:AV.sl r off n sz ∈ l),∃ cs,objCells (m r)=some cs∧Cut cs off (n*sz)
 | x::l,h,r,off,n,sz,hm=>by
   rcases List.mem_cons.1 hm with e|e
   · subst e
     have:=h.1
     simp only [snapC1] at this
     split at this
     · rename_i cs hc; exact ⟨cs,hc,this⟩
     · exact this.elim
   · exact snapC_at h.2 e
theorem snapC_ref:∀ {l:List AV} (_:snapC m l) {r off} (_:AV.ref r off ∈ l),∃ cs,objCells (m r)=some cs∧off≤cs.length∧AV.head (cs.drop off)=true
 | x::l,h,r,off,hm=>by
   rcases List.mem_cons.1 hm with e|e
   · subst e
     have:=h.1
     simp only [snapC1] at this
     split at this
     · rename_i cs hc; exact ⟨cs,hc,this⟩
     · exact this.elim
   · exact snapC_ref h.2 e
theorem snapC_top {l:List AV} (h:snapC m l) {v:AV} (hv:v ∈ l) {r} (ht:top v=some r):∃ cs,objCells (m r)=some cs:=by
 cases v<;>simp only [top,Option.some.injEq,reduceCtorEq] at ht
 · subst ht; obtain ⟨cs,hc,_⟩:=snapC_ref h hv; exact ⟨cs,hc⟩
 · subst ht; obtain ⟨cs,hc,_⟩:=snapC_at h hv; exact ⟨cs,hc⟩
theorem Below.stp (R:RelM X φ m w) (hB:RowKit.Below w.heap.size w w'):RelM X φ m w'∧Stp X φ m w φ m w':=by
 have E:Ext (Wr X φ m) φ w (Wr X φ m) φ w':=⟨fun _ _ h=>.inl h,fun b hb _=>hB.block b hb,fun _ _ h=>h,fun r b c e fr h1 _ h3=>⟨c,e,fr,by rw [hB.block b (R.block h1).1]; exact h3,Nat.le_refl _⟩⟩
 exact ⟨⟨fun r=>(R.obj r).mono E (fun b hb=>hB.block b (R.block hb).1),R.inj,R.ext,fun b hb=>Nat.lt_of_lt_of_le (R.xlt b hb) hB.size⟩,E,
  ⟨hB.os,hB.tape,hB.output,hB.size,fun b hb _=>hB.block b hb,fun r b h=>.inr ⟨r,h⟩⟩⟩
theorem callee_sound (R:Rel X φ s a w) {f args} (h:callee s o=some (f,args)):∃ g az ts fs cs,o.op = .call { callee:=.value g,args:=az,argTypes:=ts }∧a.eval g = .func (.func f) fs cs ∧
 RL (Wr X φ s.m) φ w (fs++az.map a.eval++cs).toList args:=by
 unfold callee at h
 split at h
 · rename_i g az ts ho
   split at h
   · rename_i f' fs' cs' he
     simp only [Option.some.injEq,Prod.mk.injEq] at h
     obtain ⟨rfl,rfl⟩:=h
     have hg:=R.ev g
     rw [he] at hg
     obtain ⟨fs,cs,hv,h1,h2⟩:=hg.fn_inv
     refine ⟨g,az,ts,fs,cs,ho,hv,?_⟩
     simp only [Array.toList_append,Array.toList_map]
     exact (h1.app (R.evL _)).app h2
   · simp at h
 · simp at h
theorem kind_call (h:kind o.op = .append):∃ c,o.op = .call c∧c.callee = .builtin .append:=by
 unfold kind at h
 split at h<;>simp at h
 rename_i a t ho
 exact ⟨_,ho,rfl⟩
theorem kind_copy (h:kind o.op = .copy):∃ c,o.op = .call c∧c.callee = .builtin .copy:=by
 unfold kind at h
 split at h<;>simp at h
 rename_i a t ho
 exact ⟨_,ho,rfl⟩
theorem aStep_sound (HE:EnvOk P E) {nx p s'} (R:Rel X φ s a w) (h:aStep E nx s o=some (p,s')) (hp:p) (hd:dstOk s.n o=true) {K:Act→World→Prop} {Q:Exit→Act→World→Prop}
 (hK:∀ a' w' φ',Rel X φ' s' a' w'→Stp X φ s.m w φ' s'.m w'→K a' w'):o.wp P a w K Q:=by
 have hd':∀ d,o.dst=some d→d<s.n:=fun d e=>by simpa [dstOk,e] using hd
 have hval:∀ {v w'},(execOp a.eval o).run P w = .ok (.value v) w'→K (a.put o.dst v) w'→o.wp P a w K Q:=fun h1 h2=>by unfold Oper.wp; rw [h1]; exact h2
 unfold aStep at h
 split at h
 · simp only [Option.map_eq_some_iff,Prod.exists,Prod.mk.injEq] at h
   obtain ⟨q,v,h1,rfl,rfl⟩:=h
   obtain ⟨u,h2,h3⟩:=pev_sound HE.ty R h1 hp
   exact hval h2 (hK _ _ _ (R.put (.refl _ _ _ _) R.mem h3 hd') (.refl _ _ _ _))
 · simp only [Option.map_eq_some_iff,Prod.exists,Prod.mk.injEq] at h
   obtain ⟨q,cs,f,h1,rfl,rfl⟩:=h
   obtain ⟨C,e,v,h2,h3,h4,h5⟩:=aal_sound HE.ty R h1 hp.1
   have hal:=alloc_rel (w':=w.alloc (.cells C e)) R.mem hp.2.1 h3 h4 hp.2.2 rfl rfl rfl rfl
   refine hval h2 (hK _ _ _ (R.put hal.2 hal.1 (h5 _ _ _ _ (upd_same _ _ _) (heap_alloc_new w _)) hd') hal.2)
 · simp only [Option.map_eq_some_iff,Prod.exists,Prod.mk.injEq] at h
   obtain ⟨q,r,cs,h1,rfl,rfl⟩:=h
   obtain ⟨b,cs0,c,c',e,w',h2,k1,k2,k3,k4,k5,k6,k7,k8,k9,k10,k11,k12,k13⟩:=ast_sound HE.ty R h1 hp
   have hwr:=write_rel R.mem k1 k2 k3 k4 k5 k6 k7 k8 k9 k10 k11 k12 k13
   unfold Oper.wp
   rw [h2]
   exact hK _ _ _ (R.put hwr.2 hwr.1 (.tup .nil .nil) hd') hwr.2
 · rename_i hk
   obtain ⟨c,ho,hc⟩:=kind_call hk
   obtain ⟨v,w',φ',h1,h2,h3⟩:=aap_sound HE.ty R ho hc h hp hd'
   exact hval h1 (hK _ _ _ h2 h3)
 · rename_i hk
   obtain ⟨c,ho,hc⟩:=kind_copy hk
   obtain ⟨v,w',h1,h2,h3⟩:=acp_sound HE.ty R ho hc h hp hd'
   exact hval h1 (hK _ _ _ h2 h3)
 · simp only [Option.bind_eq_some_iff,Option.map_eq_some_iff,Prod.exists,Prod.mk.injEq] at h
   obtain ⟨f,args,h1,q,r,h2,rfl,rfl⟩:=h
   obtain ⟨hq,hs⟩:=hp
   obtain ⟨g,az,ts,fs,cs,ho,hv,hr⟩:=callee_sound R h1
   obtain ⟨F1,F2⟩:=freeze_rel R.mem (args.flatMap AV.cells)
   have nw:∀ v ∈ args.flatMap AV.cells,∀ r b,top v=some r→φ r=some (some b)→¬ Wr X φ (snapM s.m (args.flatMap AV.cells)) b:=by
    rintro v hv r b ht k1 (hX|⟨r',cs',k5,k6⟩)
    · exact F1.ext _ _ k1 hX
    · have:=F1.inj _ _ _ k5 k1
      subst this
      exact snapM_ro _ _ _ v hv ht _ k6
   have hr':=(hr.mono F2.ext).snapL (m:=s.m) (fun r off n sz hm=>by
    obtain ⟨cs,hc,hcut⟩:=snapC_at hs hm
    have hc':objCells (snapM s.m (args.flatMap AV.cells) r)=some cs:=by rw [snapM_cells]; exact hc
    obtain ⟨b,c,e,k1,k2,k3,k4,_,_⟩:=obj_reads F1 hc'
    exact ⟨cs,b,c,e,k1,hc,hcut,k2,k3,k4,nw _ hm r b rfl k1⟩) (fun r off hm=>by
    obtain ⟨cs,hc,hcut⟩:=snapC_ref hs hm
    have hc':objCells (snapM s.m (args.flatMap AV.cells) r)=some cs:=by rw [snapM_cells]; exact hc
    obtain ⟨b,c,e,k1,k2,k3,k4,_,_⟩:=obj_reads F1 hc'
    exact ⟨cs,b,c,e,k1,hc,hcut,k2,k3,k4,nw _ hm r b rfl k1⟩)
   refine upon_call ho hv (HE.sp f _ _ _ h2 hq _ _ w _ (fun b hb=>F1.wlt hb) hr') ?_
   rintro v w' ⟨hv',hB⟩
   obtain ⟨B1,B2⟩:=Below.stp F1 hB
   have hst:=F2.trans B2
   exact hK _ _ _ (R.put hst B1 hv' hd') hst
end
section
variable {W:Nat→Prop} {X:Nat→Prop} {φ:Nat→Option (Option Nat)} {m:Nat→AObj} {s:St} {a:Act} {w w':World} {P:Program} {T:Nat→Option TyD} {E:Env} {o:Oper}
theorem RL.used {vs az} (h:RL W φ w vs az):∀ v ∈ az,∀ r,top v=some r→φ r ≠ none:=by
 induction h with
 | nil=>intro v hv; simp at hv
 | @opq x us vs az _ _ a b _ e1 e2 _ ih =>
   subst e2
   intro v hv r hr
   rcases List.mem_cons.1 hv with rfl|hv
   · simp [top] at hr
   · rcases List.mem_append.1 hv with hv|hv
     · rw [List.eq_of_mem_replicate hv] at hr; simp [top] at hr
     · exact ih v hv r hr
 | ref a _ ih =>
   intro v hv r hr
   rcases List.mem_cons.1 hv with rfl|hv
   · simp [top] at hr; subst hr; rw [a]; simp
   · exact ih v hv r hr
 | gref u o a _ ih =>
   intro v hv r hr
   rcases List.mem_cons.1 hv with rfl|hv
   · simp [top] at hr; subst hr; rw [a]; simp
   · exact ih v hv r hr
 | sl a _ _ _ ih =>
   intro v hv r hr
   rcases List.mem_cons.1 hv with rfl|hv
   · simp [top] at hr; subst hr; rw [a]; simp
   · exact ih v hv r hr
 | gsl u o a _ ih =>
   intro v hv r hr
   rcases List.mem_cons.1 hv with rfl|hv
   · simp [top] at hr; subst hr; rw [a]; simp
   · exact ih v hv r hr
 | junk _ _ ih|bool _ _ ih|int _ _ _ ih|str _ _ ih|nilp _ ih|fref _ _ _ _ _ ih|nils _ ih|imm0 _ _ _ ih|imm _ _ _ _ _ _ ih|nilf _ ih|fn _ _ _ _ _ ih|agg _ _ _ ih|tup _ _ _ ih =>
   intro v hv r hr
   rcases List.mem_cons.1 hv with rfl|hv
   · simp [top] at hr
   · exact ih v hv r hr
theorem RL.usedCells {vs az} (h:RL W φ w vs az):∀ v ∈ az.flatMap AV.cells,∀ r,top v=some r→φ r ≠ none:=by
 induction h with
 | nil=>intro v hv; simp at hv
 | @opq x us vs az _ _ a b _ e1 e2 _ ih =>
   subst e2
   intro v hv r hr
   simp only [List.flatMap_cons,List.flatMap_append,List.mem_append] at hv
   rcases hv with hv|hv|hv
   · simp [AV.cells] at hv; subst hv; simp [top] at hr
   · obtain ⟨y,hy,hv⟩:=List.mem_flatMap.1 hv
     rw [List.eq_of_mem_replicate hy] at hv
     simp [AV.cells] at hv; subst hv; simp [top] at hr
   · exact ih v hv r hr
 | ref a _ ih|gref _ _ a _ ih|sl a _ _ _ ih|gsl _ _ a _ ih =>
   intro v hv r hr
   simp only [List.flatMap_cons,List.mem_append] at hv
   rcases hv with hv|hv
   · simp [AV.cells] at hv; subst hv; simp [top] at hr; subst hr; rw [a]; simp
   · exact ih v hv r hr
 | agg a _ _ ih =>
   intro v hv r hr
   simp only [List.flatMap_cons,List.mem_append] at hv
   rcases hv with hv|hv
   · exact a.used v hv r hr
   · exact ih v hv r hr
 | junk _ _ ih|bool _ _ ih|int _ _ _ ih|str _ _ ih|nilp _ ih|fref _ _ _ _ _ ih|nils _ ih|imm0 _ _ _ ih|imm _ _ _ _ _ _ ih|nilf _ ih|fn _ _ _ _ _ ih|tup _ _ _ ih =>
   intro v hv r hr
   simp only [List.flatMap_cons,List.mem_append] at hv
   rcases hv with hv|hv
   · simp [AV.cells] at hv; subst hv; simp [top] at hr
   · exact ih v hv r hr
theorem Rel.used (R:Rel X φ s a w) (x:Operand):∀ r ∈ ids (aev s x),s.m r ≠ .unused:=by
 intro r hr hu
 have hn:=R.mem.unused hu
 have hx:=R.ev x
 unfold ids at hr
 split at hr
 · rename_i f fs cs he
   rw [he] at hx
   obtain ⟨fs',cs',_,h1,h2⟩:=hx.fn_inv
   obtain ⟨v,hv,ht⟩:=List.mem_filterMap.1 hr
   exact (h1.app h2).usedCells v hv r ht hn
 · obtain ⟨v,hv,ht⟩:=List.mem_filterMap.1 hr
   exact hx.usedCells v (by simpa using hv) r ht hn
structure Alike (s s2:St) (o:Oper):Prop where
 ev:∀ x ∈ o.op.operands,aev s2 x=aev s x
 mem:looks o.op=true→∀ x ∈ o.op.operands,∀ r ∈ ids (aev s x),∀ cs,objCells (s.m r)=some cs→objCells (s2.m r)=some cs
 al:∀ x ∈ o.op.operands,∀ r ∈ ids (aev s x),AM.alive s.m r→AM.alive s2.m r
theorem ids_ref {r off}:r ∈ ids (.ref r off):=by simp [ids,AV.cells,top]
theorem ids_sl {r off n sz}:r ∈ ids (.sl r off n sz):=by simp [ids,AV.cells,top]
theorem lenOp_alike {s2:St} {x:AV} {p n} (h:lenOp s.m x=some (p,n)) (hp:p) (hm:∀ r ∈ ids x,∀ cs,objCells (s.m r)=some cs→objCells (s2.m r)=some cs):∃ p2,lenOp s2.m x=some (p2,n)∧p2:=by
 cases x<;>simp only [lenOp,Option.some.injEq,Prod.mk.injEq,reduceCtorEq] at h ⊢
 · obtain ⟨rfl,rfl⟩:=h; exact ⟨True,⟨rfl,rfl⟩,trivial⟩
 · obtain ⟨rfl,rfl⟩:=h
   refine ⟨_,⟨rfl,rfl⟩,?_⟩
   unfold AM.alive at *
   obtain ⟨cs,hc⟩:=Option.isSome_iff_exists.1 hp
   rw [hm _ ids_sl cs hc]; rfl
 · obtain ⟨rfl,rfl⟩:=h; exact ⟨True,⟨rfl,rfl⟩,trivial⟩
 · exact ⟨p,h,hp⟩
theorem alive_alike {s2:St} {r} (h:AM.alive s.m r) (hm:∀ cs,objCells (s.m r)=some cs→objCells (s2.m r)=some cs):AM.alive s2.m r:=by
 unfold AM.alive at *
 obtain ⟨cs,hc⟩:=Option.isSome_iff_exists.1 h
 rw [hm cs hc]; rfl
theorem indexAddr_alike {s2:St} {x:AV} {d i p v} (h:indexAddr T s.m x d i=some (p,v)) (hp:p) (hm:∀ r ∈ ids x,AM.alive s.m r→AM.alive s2.m r):∃ p2,indexAddr T s2.m x d i=some (p2,v)∧p2:=by
 unfold indexAddr at h ⊢
 split at h
 · simp only [Option.map_eq_some_iff,Prod.mk.injEq] at h ⊢
   obtain ⟨ed,h1,rfl,rfl⟩:=h
   exact ⟨_,⟨ed,h1,rfl,rfl⟩,hp.1,hm _ ids_ref hp.2⟩
 · exact ⟨p,h,hp⟩
 · simp only [Option.map_eq_some_iff,Prod.mk.injEq] at h ⊢
   obtain ⟨ed,h1,rfl,rfl⟩:=h
   exact ⟨_,⟨ed,h1,rfl,rfl⟩,hp.1,hp.2.1,hm _ ids_sl hp.2.2⟩
 · exact ⟨p,h,hp⟩
 · simp at h
theorem sliceOp_alike {s2:St} {x:AV} {d lo hi mx p v} (h:sliceOp T s.m x d lo hi mx=some (p,v)) (hp:p) (hm:∀ r ∈ ids x,∀ cs,objCells (s.m r)=some cs→objCells (s2.m r)=some cs):∃ p2,sliceOp T s2.m x d lo hi mx=some (p2,v)∧p2:=by
 unfold sliceOp at h ⊢
 split at h
 · exact ⟨p,h,hp⟩
 · simp only [Option.bind_eq_some_iff,Option.map_eq_some_iff,Prod.mk.injEq] at h ⊢
   obtain ⟨ed,h1,l,h2,hh,h3,q,h4,rfl,rfl⟩:=h
   exact ⟨_,⟨ed,h1,l,h2,hh,h3,q,h4,rfl,rfl⟩,hp.1,alive_alike hp.2.1 (hm _ ids_sl),hp.2.2⟩
 · exact ⟨p,h,hp⟩
 · split at h
   · rename_i hc
     simp only [Option.bind_eq_some_iff,Option.map_eq_some_iff,Prod.mk.injEq] at h
     obtain ⟨ed,h1,l,h2,hh,h3,cs,h4,rfl,rfl⟩:=h
     refine ⟨_,?_,hp⟩
     simp only [hc,if_true,h1,h2,h3,hm _ ids_ref cs h4,Option.bind_some,Option.map_some]
   · simp at h
 · simp at h
theorem peek_alike {s2:St} {x:AV} {z} (h:peek s.m x=some z) (hm:∀ r ∈ ids x,∀ cs,objCells (s.m r)=some cs→objCells (s2.m r)=some cs):peek s2.m x=some z:=by
 cases x<;>simp only [peek,Option.map_eq_some_iff,reduceCtorEq] at h ⊢
 · obtain ⟨cs,h1,h2⟩:=h; exact ⟨cs,hm _ ids_ref cs h1,h2⟩
 · exact h
theorem pev_alike {s2:St} (A:Alike s s2 o) {p v} (h:pev T s o=some (p,v)) (hp:p):∃ p2,pev T s2 o=some (p2,v)∧p2:=by
 have op1:∀ {x},x ∈ o.op.operands→aev s2 x=aev s x:=fun {x}=>A.ev x
 unfold pev at h ⊢
 split at h
 case h_1 x ho=>rw [op1 (by simp [ho,Op.operands])]; exact ⟨p,h,hp⟩
 case h_2 x ho=>rw [op1 (by simp [ho,Op.operands])]; exact ⟨p,h,hp⟩
 case h_3 c x y ho=>rw [op1 (x:=c) (by simp [ho,Op.operands]),op1 (x:=x) (by simp [ho,Op.operands]),op1 (x:=y) (by simp [ho,Op.operands])]; exact ⟨p,h,hp⟩
 case h_4 t ps ho =>
  have e:(ps.toList.map fun x=>(x.1,aev s2 x.2))=(ps.toList.map fun x=>(x.1,aev s x.2)):=List.map_congr_left fun x hx=>by
   rw [op1 (by simp only [ho,Op.operands,List.mem_toArray]; simp; exact ⟨x.1,by simpa using hx⟩)]
  rw [e]; exact ⟨p,h,hp⟩
 case h_5 t x ho =>
  rw [op1 (x:=x) (by simp [ho,Op.operands])]
  simp only [Option.bind_eq_some_iff,Option.map_eq_some_iff,Prod.exists] at h ⊢
  obtain ⟨d,hT,cs,off,h1,h2⟩:=h
  exact ⟨p,⟨d,hT,cs,off,peek_alike h1 (A.mem (by simp [ho,looks]) x (by simp [ho,Op.operands])),h2⟩,hp⟩
 case h_6 x ho =>
  rw [op1 (x:=x) (by simp [ho,Op.operands])]
  have hm:=A.mem (by simp [ho,looks]) x (by simp [ho,Op.operands])
  split at h
  · exact ⟨p,h,hp⟩
  · rename_i r off he
    rw [he] at hm
    simp only [Option.some.injEq,Prod.mk.injEq] at h ⊢
    obtain ⟨rfl,rfl⟩:=h
    exact ⟨_,⟨rfl,rfl⟩,alive_alike hp (hm _ ids_ref)⟩
  · exact ⟨p,h,hp⟩
  · simp at h
 case h_7 op t x y t' ho=>rw [op1 (x:=x) (by simp [ho,Op.operands]),op1 (x:=y) (by simp [ho,Op.operands])]; exact ⟨p,h,hp⟩
 case h_8 op t x ho=>rw [op1 (x:=x) (by simp [ho,Op.operands])]; exact ⟨p,h,hp⟩
 case h_9 t t' x ho =>
  rw [op1 (x:=x) (by simp [ho,Op.operands])]
  have hm:=A.mem (by simp [ho,looks]) x (by simp [ho,Op.operands])
  simp only [Option.bind_eq_some_iff] at h ⊢
  obtain ⟨d,hT,d',hT',h⟩:=h
  refine ⟨p,⟨d,hT,d',hT',?_⟩,hp⟩
  cases he:aev s x<;>rw [he] at h hm<;>try exact h
  rename_i r off n k
  simp only [strM] at h ⊢
  split at h
  · split at h
    · rename_i hu
      simp only [Option.map_eq_some_iff] at h
      obtain ⟨cs,h1,h2⟩:=h
      rw [if_pos hu,hm r ids_sl cs h1]
      simp only [Option.map_some,Option.some.injEq]; exact h2
    · simp at h
  · simp at h
 case h_10 f fs cs ho =>
  have e:∀ l:Array Operand,(∀ x ∈ l,x ∈ o.op.operands)→l.toList.map (aev s2)=l.toList.map (aev s):=fun l hl=>List.map_congr_left fun x hx=>op1 (hl x (by simpa using hx))
  rw [e fs (fun x hx=>by simp [ho,Op.operands,hx]),e cs (fun x hx=>by simp [ho,Op.operands,hx])]; exact ⟨p,h,hp⟩
 case h_11 t x lo hi mx ho =>
  have e:∀ l:Option Operand,(∀ x,l=some x→x ∈ o.op.operands)→l.map (aev s2)=l.map (aev s):=fun l hl=>by
   cases l with
   | none=>rfl
   | some x=>simp [op1 (hl x rfl)]
  rw [op1 (x:=x) (by simp [ho,Op.operands]),e lo (fun x hx=>by simp [ho,Op.operands,hx]),e hi (fun x hx=>by simp [ho,Op.operands,hx]),e mx (fun x hx=>by simp [ho,Op.operands,hx])]
  split at h
  · simp at h
  · rename_i hh
    rw [if_neg hh]
    simp only [Option.bind_eq_some_iff] at h ⊢
    obtain ⟨d,hT,h⟩:=h
    obtain ⟨p2,h2,h3⟩:=sliceOp_alike h hp (A.mem (by simp [ho,looks]) x (by simp [ho,Op.operands]))
    exact ⟨p2,⟨d,hT,h2⟩,h3⟩
 case h_12 t x f ho =>
  rw [op1 (x:=x) (by simp [ho,Op.operands])]
  have hm:=A.al x (by simp [ho,Op.operands])
  simp only [Option.bind_eq_some_iff,Prod.exists] at h ⊢
  obtain ⟨off,d',hf,h⟩:=h
  split at h
  · rename_i r o' he
    rw [he] at hm
    simp only [Option.some.injEq,Prod.mk.injEq] at h
    obtain ⟨rfl,rfl⟩:=h
    exact ⟨_,⟨off,d',hf,rfl⟩,hm _ ids_ref hp⟩
  · rename_i cs he
    exact ⟨p,⟨off,d',hf,h⟩,hp⟩
  · simp at h
 case h_13 t x f ho=>rw [op1 (x:=x) (by simp [ho,Op.operands])]; exact ⟨p,h,hp⟩
 case h_14 t x i ho =>
  rw [op1 (x:=x) (by simp [ho,Op.operands]),op1 (x:=i) (by simp [ho,Op.operands])]
  have hm:=A.al x (by simp [ho,Op.operands])
  simp only [Option.bind_eq_some_iff] at h ⊢
  obtain ⟨d,hT,h⟩:=h
  split at h
  · rename_i k j he
    obtain ⟨p2,h2,h3⟩:=indexAddr_alike h hp hm
    exact ⟨p2,⟨d,hT,h2⟩,h3⟩
  · simp at h
 case h_15 t x i ho=>rw [op1 (x:=x) (by simp [ho,Op.operands]),op1 (x:=i) (by simp [ho,Op.operands])]; exact ⟨p,h,hp⟩
 case h_16 x i ho=>rw [op1 (x:=x) (by simp [ho,Op.operands])]; exact ⟨p,h,hp⟩
 case h_17 c ho =>
  split at h
  · rename_i x hc hx
    have hmem:x ∈ o.op.operands:=by
     have ha:c.args=#[x]:=by apply Array.ext'; simpa using hx
     simp [ho,Op.operands,Call.operands,hc,ha]
    rw [op1 hmem]
    have hm:=A.mem (by simp [ho,looks]) x hmem
    split at h
    · rename_i t hts
      simp only [Option.bind_eq_some_iff] at h ⊢
      obtain ⟨d,hT,h⟩:=h
      split at h
      · exact ⟨p,⟨d,hT,by simp [*] at h ⊢; try exact h⟩,hp⟩
      · rename_i e hk
        simp only [Option.map_eq_some_iff,Prod.exists,Prod.mk.injEq] at h
        obtain ⟨q,n,h1,rfl,rfl⟩:=h
        obtain ⟨p2,h2,h3⟩:=lenOp_alike h1 hp hm
        exact ⟨p2,⟨d,hT,by simp [hk,h2]⟩,h3⟩
      · simp at h
    · simp at h
  · rename_i x y hc hx
    have ha:c.args=#[x,y]:=by apply Array.ext'; simpa using hx
    rw [op1 (x:=x) (by simp [ho,Op.operands,Call.operands,hc,ha]),op1 (x:=y) (by simp [ho,Op.operands,Call.operands,hc,ha])]
    exact ⟨p,h,hp⟩
  · rename_i x y hc hx
    have ha:c.args=#[x,y]:=by apply Array.ext'; simpa using hx
    rw [op1 (x:=x) (by simp [ho,Op.operands,Call.operands,hc,ha]),op1 (x:=y) (by simp [ho,Op.operands,Call.operands,hc,ha])]
    exact ⟨p,h,hp⟩
  · simp at h
 case h_18=>simp at h
end
section
variable {X:Nat→Prop} {φ:Nat→Option (Option Nat)} {m:Nat→AObj} {s s1 s2 s' F:St} {a:Act} {w w':World} {P:Program} {T:Nat→Option TyD} {E:Env} {o x y:Oper} {ops:Array Oper}
inductive Eff where
 | keep
 | new (nx:Nat) (cs:List AV)
 | frz (l:List AV)
def Eff.app (m:Nat→AObj):Eff→(Nat→AObj)
 | .keep=>m
 | .new nx cs=>upd m nx (.live cs)
 | .frz l=>snapM m l
def sls (l:List AV):List Nat:=l.filterMap top
theorem freeze_freeze (x:AObj):x.freeze.freeze=x.freeze:=by cases x<;>rfl
theorem snapM_eq:∀ (l:List AV) (m:Nat→AObj) (r:Nat),snapM m l r=if r ∈ sls l then (m r).freeze else m r
 | [],m,r=>by simp [snapM,sls]
 | x::l,m,r=>by
   have key:∀ q,snapM (upd m q (m q).freeze) l r=if r ∈ q::sls l then (m r).freeze else m r:=fun q=>by
    rw [snapM_eq l]
    by_cases h:r=q
    · subst h; simp [upd_same,freeze_freeze]
    · simp [upd,h]
   cases x
   case sl q off n sz=>exact key q
   case ref q off=>exact key q
   all_goals simp only [snapM]; rw [snapM_eq l]; rfl
theorem mem_sls {l:List AV} {r:Nat} (h:r ∈ sls l):∃ v ∈ l,top v=some r:=List.mem_filterMap.1 h
structure AlikeG (ops:Array Oper) (s s2:St) (o:Oper):Prop where
 slots:∀ d ∈ o.looksAt ops,s2.t d=s.t d
 mem:looks o.op=true→∀ x ∈ o.op.operands,∀ r ∈ ids (aev s x),∀ cs,objCells (s.m r)=some cs→objCells (s2.m r)=some cs
 al:∀ x ∈ o.op.operands,∀ r ∈ ids (aev s x),AM.alive s.m r→AM.alive s2.m r
theorem AlikeG.alike (A:AlikeG ops s s2 o):Alike s s2 o:=by
 refine ⟨fun x hx=>?_,A.mem,A.al⟩
 cases x with
 | tmp i =>
   simp only [aev]
   refine A.slots i ?_
   unfold Oper.looksAt
   refine List.mem_append_left _ (List.mem_filterMap.2 ⟨.tmp i,by simpa using hx,rfl⟩)
 | _=>rfl
def wantV (want:Bool):AV→Option Bool
 | .bool b=>some (b == want)
 | .tup _=>some false
 | _=>none
def wantedA (ops:Array Oper) (o:Oper) (s:St):Option Bool :=
 match o.guard with
 | none=>some true
 | some (j,want)=>(((ops[j]?).bind (·.dst)).map s.t).bind (wantV want)
theorem AlikeG.wanted (A:AlikeG ops s s2 o):wantedA ops o s2=wantedA ops o s:=by
 unfold wantedA
 cases hg:o.guard with
 | none=>rfl
 | some g =>
   obtain ⟨j,want⟩:=g
   simp only []
   cases hd:(ops[j]?).bind (·.dst) with
   | none=>rfl
   | some d =>
     simp only [Option.map_some]
     rw [A.slots d (by unfold Oper.looksAt; refine List.mem_append_right _ ?_; simp [hg,hd])]
def AStepG (E:Env) (ops:Array Oper) (o:Oper) (s s':St):Prop :=
 (wantedA ops o s=some true∧∃ nx p,aStep E nx s o=some (p,s')∧p)∨(wantedA ops o s=some false∧s'=s.put o.dst (.tup []))
def Closed (s:St) (o:Oper):Prop:=∀ x ∈ o.op.operands,∀ r ∈ ids (aev s x),s.m r ≠ .unused
theorem aal_alike (A:Alike s s2 o):aal T s2 o=aal T s o:=by
 have op1:∀ {x},x ∈ o.op.operands→aev s2 x=aev s x:=fun {x}=>A.ev x
 unfold aal
 cases ho:o.op<;>try rfl
 case box t x=>simp only []; rw [op1 (x:=x) (by simp [ho,Op.operands])]
 case buildSlice t n ps =>
  have e:(ps.toList.map fun x=>(x.1,aev s2 x.2))=(ps.toList.map fun x=>(x.1,aev s x.2)):=List.map_congr_left fun x hx=>by
   rw [op1 (by simp only [ho,Op.operands,List.mem_toArray]; simp; exact ⟨x.1,by simpa using hx⟩)]
  simp only [e]
 case makeSlice t l c=>simp only []; rw [op1 (x:=l) (by simp [ho,Op.operands]),op1 (x:=c) (by simp [ho,Op.operands])]
theorem callee_alike (A:Alike s s2 o):callee s2 o=callee s o:=by
 unfold callee
 split
 · rename_i f args ts ho
   rw [A.ev f (by simp [ho,Op.operands,Call.operands])]
   have e:args.toList.map (aev s2)=args.toList.map (aev s):=List.map_congr_left fun x hx=>A.ev x (by simp [ho,Op.operands,Call.operands]; right; simpa using hx)
   simp only [e]
 · rfl
theorem callee_ids {f args} (h:callee s o=some (f,args)) {r} (hr:r ∈ sls (args.flatMap AV.cells)):∃ x ∈ o.op.operands,r ∈ ids (aev s x):=by
 obtain ⟨v0,hm,ht0⟩:=mem_sls hr
 unfold callee at h
 split at h
 · rename_i g az ts ho
   split at h
   · rename_i f' fs cs he
     simp only [Option.some.injEq,Prod.mk.injEq] at h
     obtain ⟨rfl,rfl⟩:=h
     simp only [List.flatMap_append,List.mem_append] at hm
     have hfn:∀ v,v ∈ fs.flatMap AV.cells∨v ∈ cs.flatMap AV.cells→top v=some r→∃ x ∈ o.op.operands,r ∈ ids (aev s x):=by
      intro v hv ht
      refine ⟨g,by simp [ho,Op.operands,Call.operands],?_⟩
      rw [he]
      simp only [ids,List.flatMap_append]
      exact List.mem_filterMap.2 ⟨v,List.mem_append.2 hv,ht⟩
     rcases hm with (hm|hm)|hm
     · exact hfn _ (.inl hm) ht0
     · obtain ⟨v,hv,hc⟩:=List.mem_flatMap.1 hm
       obtain ⟨x,hx,rfl⟩:=List.mem_map.1 hv
       refine ⟨x,by simp [ho,Op.operands,Call.operands]; right; simpa using hx,?_⟩
       unfold ids
       split
       · rename_i f2 fs2 cs2 he2
         rw [he2] at hc; simp [AV.cells] at hc; rw [hc] at ht0; simp [top] at ht0
       · exact List.mem_filterMap.2 ⟨_,hc,ht0⟩
     · exact hfn _ (.inr hm) ht0
   · simp at h
 · simp at h
theorem snap1_alike {v:AV} (hc:snapC1 s.m v) (hm:∀ r,top v=some r→∀ cs,objCells (s.m r)=some cs→objCells (s2.m r)=some cs):snap1 s2.m v=snap1 s.m v∧snapC1 s2.m v:=by
 cases v<;>try exact ⟨rfl,trivial⟩
 all_goals
  simp only [snapC1] at hc
  split at hc
  · rename_i cs he
    have:=hm _ rfl cs he
    exact ⟨by simp [snap1,he,this],by simp only [snapC1,this]; exact hc⟩
  · exact hc.elim
theorem snapL_alike:∀ {l:List AV},snapC s.m l→(∀ r ∈ sls l,∀ cs,objCells (s.m r)=some cs→objCells (s2.m r)=some cs)→(∀ v ∈ l,snap1 s2.m v=snap1 s.m v)∧snapC s2.m l
 | [],_,_=>⟨by simp,trivial⟩
 | v::l,h,hm=>by
   obtain ⟨h1,h2⟩:=snapL_alike (l:=l) h.2 (fun r hr=>hm r (by cases v<;>first|exact hr|exact List.mem_cons_of_mem _ hr))
   obtain ⟨h3,h4⟩:=snap1_alike (s2:=s2) h.1 (fun r e=>hm r (List.mem_filterMap.2 ⟨v,List.mem_cons_self,e⟩))
   refine ⟨fun u hu=>?_,h4,h2⟩
   rcases List.mem_cons.1 hu with rfl|hu
   · exact h3
   · exact h1 u hu
theorem snapV_alike {l:List AV} (hc:snapC s.m (l.flatMap AV.cells)) (hm:∀ r ∈ sls (l.flatMap AV.cells),∀ cs,objCells (s.m r)=some cs→objCells (s2.m r)=some cs):l.map (snapV s2.m)=l.map (snapV s.m):=by
 obtain ⟨h1,_⟩:=snapL_alike hc hm
 refine List.map_congr_left fun v hv=>?_
 cases v
 case agg cs =>
  simp only [snapV]
  congr 1
  exact List.map_congr_left fun u hu=>h1 u (List.mem_flatMap.2 ⟨_,hv,hu⟩)
 all_goals simp only [snapV]; exact h1 _ (List.mem_flatMap.2 ⟨_,hv,by simp [AV.cells]⟩)
theorem nw_step (hk:(kind o.op).writes=false) {nx p} (h:aStep E nx s o=some (p,s')) (hp:p) :
 ∃ v e,s'={ (s.put o.dst v) with m:=Eff.app s.m e }∧(∀ q cs,e = .new q cs→s.m q = .unused) ∧
   (∀ l,e = .frz l→∀ r ∈ sls l,s.m r ≠ .unused∧∃ x ∈ o.op.operands,r ∈ ids (aev s x)) ∧
   (∀ s2,Alike s s2 o→(∀ q cs,e = .new q cs→s2.m q = .unused)→∃ nx2 p2,aStep E nx2 s2 o=some (p2,{ (s2.put o.dst v) with m:=Eff.app s2.m e })∧p2):=by
 unfold aStep at h
 cases hkd:kind o.op<;>rw [hkd] at hk<;>simp [Kd.writes] at hk<;>simp only [hkd] at h
 · simp only [Option.map_eq_some_iff,Prod.exists,Prod.mk.injEq] at h
   obtain ⟨q,v,h1,rfl,rfl⟩:=h
   refine ⟨v,.keep,rfl,by simp,by simp,fun s2 A _=>?_⟩
   obtain ⟨p2,h2,h3⟩:=pev_alike A h1 hp
   refine ⟨0,p2,?_,h3⟩
   simp only [aStep,hkd,h2,Option.map_some]; rfl
 · simp only [Option.map_eq_some_iff,Prod.exists,Prod.mk.injEq] at h
   obtain ⟨q,cs,f,h1,rfl,rfl⟩:=h
   refine ⟨f nx,.new nx cs,rfl,fun q' cs' e=>by simp at e; rw [← e.1]; exact hp.2.1,fun l e=>by simp at e,fun s2 A hu=>?_⟩
   refine ⟨nx,q∧s2.m nx = .unused∧cs.all AV.ck=true,?_,hp.1,hu nx cs rfl,hp.2.2⟩
   simp only [aStep,hkd,aal_alike A,h1,Option.map_some]; rfl
 · simp only [Option.bind_eq_some_iff,Option.map_eq_some_iff,Prod.exists,Prod.mk.injEq] at h
   obtain ⟨f,args,h1,q,r,h2,rfl,rfl⟩:=h
   have hids:∀ r ∈ sls (args.flatMap AV.cells),∃ x ∈ o.op.operands,r ∈ ids (aev s x):=fun r hr=>callee_ids h1 hr
   refine ⟨r,.frz (args.flatMap AV.cells),rfl,by simp,fun l e r hr=>?_,fun s2 A _=>?_⟩
   · simp at e; subst e
     refine ⟨fun hu=>?_,hids r hr⟩
     obtain ⟨v0,hm,ht0⟩:=mem_sls hr
     obtain ⟨cs,hc⟩:=snapC_top hp.2 hm ht0
     rw [hu] at hc; simp [objCells] at hc
   · have hm:∀ r ∈ sls (args.flatMap AV.cells),∀ cs,objCells (s.m r)=some cs→objCells (s2.m r)=some cs:=fun r hr=>by
      obtain ⟨x,hx,hi⟩:=hids r hr
      exact A.mem (by revert hkd; cases o.op<;>simp [kind,looks]) x hx r hi
     refine ⟨0,q∧snapC s2.m (args.flatMap AV.cells),?_,hp.1,(snapL_alike hp.2 hm).2⟩
     simp only [aStep,hkd,callee_alike A,h1,Option.bind_some,snapV_alike hp.2 hm,h2,Option.map_some]; rfl
theorem nw_stepG (hk:(kind o.op).writes=false) (h:AStepG E ops o s s') :
 ∃ v e,s'={ (s.put o.dst v) with m:=Eff.app s.m e }∧(∀ q cs,e = .new q cs→s.m q = .unused) ∧
   (∀ l,e = .frz l→∀ r ∈ sls l,s.m r ≠ .unused∧∃ x ∈ o.op.operands,r ∈ ids (aev s x)) ∧
   (∀ s2,AlikeG ops s s2 o→(∀ q cs,e = .new q cs→s2.m q = .unused)→AStepG E ops o s2 { (s2.put o.dst v) with m:=Eff.app s2.m e }):=by
 rcases h with ⟨hw,nx,p,h1,hp⟩|⟨hw,rfl⟩
 · obtain ⟨v,e,h2,h3,h4,h5⟩:=nw_step hk h1 hp
   refine ⟨v,e,h2,h3,h4,fun s2 A hu=>.inl ⟨by rw [A.wanted]; exact hw,?_⟩⟩
   obtain ⟨nx2,p2,h6,h7⟩:=h5 s2 A.alike hu
   exact ⟨nx2,p2,h6,h7⟩
 · exact ⟨.tup [],.keep,rfl,by simp,by simp,fun s2 A _=>.inr ⟨by rw [A.wanted]; exact hw,rfl⟩⟩
theorem put_t (s:St) (d:Option Nat) (v:AV) {j:Nat} (h:d ≠ some j):(s.put d v).t j=s.t j:=by
 cases d with
 | none=>rfl
 | some d=>simp only [St.put,upd]; rw [if_neg]; exact fun e=>h (by rw [e])
theorem app_unused {e:Eff} {r:Nat} (h:Eff.app m e r = .unused):m r = .unused:=by
 cases e with
 | keep=>exact h
 | new q cs =>
   simp only [Eff.app,upd] at h
   split at h
   · simp at h
   · exact h
 | frz l =>
   simp only [Eff.app,snapM_eq] at h
   split at h
   · revert h; cases m r<;>simp [AObj.freeze]
   · exact h
theorem app_unused' {e:Eff} {r:Nat} (h:m r = .unused) (hn:∀ cs,e ≠ .new r cs):Eff.app m e r = .unused:=by
 cases e with
 | keep=>exact h
 | new q cs =>
   simp only [Eff.app,upd]
   rw [if_neg]; exact h
   rintro rfl; exact hn cs rfl
 | frz l=>simp only [Eff.app,snapM_eq,h]; split<;>rfl
theorem app_cells {e:Eff} {r:Nat} {cs} (he:∀ q cs,e = .new q cs→m q = .unused) (h:objCells (m r)=some cs):objCells (Eff.app m e r)=some cs:=by
 cases e with
 | keep=>exact h
 | new q cs' =>
   simp only [Eff.app,upd]
   rw [if_neg]; exact h
   rintro rfl
   rw [he _ _ rfl] at h; simp [objCells] at h
 | frz l=>simp only [Eff.app]; rw [snapM_cells]; exact h
theorem app_cells' {e:Eff} {r:Nat} {cs} (he:∀ q cs,e = .new q cs→m q = .unused) (hu:m r ≠ .unused) (h:objCells (Eff.app m e r)=some cs):objCells (m r)=some cs:=by
 cases e with
 | keep=>exact h
 | new q cs' =>
   simp only [Eff.app,upd] at h
   rw [if_neg] at h; exact h
   rintro rfl
   exact hu (he _ _ rfl)
 | frz l=>simp only [Eff.app] at h; rw [snapM_cells] at h; exact h
theorem app_comm {e e':Eff} (h1:∀ q cs,e = .new q cs→m q = .unused) (h2:∀ q cs,e' = .new q cs→m q = .unused)
 (h3:∀ l,e = .frz l→∀ r ∈ sls l,m r ≠ .unused) (h4:∀ l,e' = .frz l→∀ r ∈ sls l,m r ≠ .unused) (h5:∀ q cs cs',e = .new q cs→e' ≠ .new q cs') :
 Eff.app (Eff.app m e) e'=Eff.app (Eff.app m e') e:=by
 cases e with
 | keep=>rfl
 | new q cs =>
   cases e' with
   | keep=>rfl
   | new q' cs' =>
     funext j
     have:q ≠ q':=fun e=>h5 q cs cs' rfl (by rw [e])
     simp only [Eff.app,upd]
     by_cases a:j=q
     · subst a; simp [this]
     · by_cases b:j=q'
       · subst b; simp [a]
       · simp [a,b]
   | frz l =>
     funext j
     simp only [Eff.app,snapM_eq,upd]
     by_cases a:j=q
     · subst a
       have:j ∉ sls l:=fun hm=>h4 l rfl j hm (h1 _ _ rfl)
       simp [this]
     · simp [a]
 | frz l =>
   cases e' with
   | keep=>rfl
   | new q' cs' =>
     funext j
     simp only [Eff.app,snapM_eq,upd]
     by_cases a:j=q'
     · subst a
       have:j ∉ sls l:=fun hm=>h3 l rfl j hm (h2 _ _ rfl)
       simp [this]
     · simp [a]
   | frz l' =>
     funext j
     simp only [Eff.app,snapM_eq]
     by_cases a:j ∈ sls l<;>by_cases b:j ∈ sls l'<;>simp [a,b]
theorem operand_slot {z:Operand} (hz:z ∈ o.op.operands) {i} (e:z = .tmp i):i ∈ o.looksAt ops:=by
 subst e
 unfold Oper.looksAt
 exact List.mem_append_left _ (List.mem_filterMap.2 ⟨.tmp i,by simpa using hz,rfl⟩)
theorem swap (hx:(kind x.op).writes=false) (hy:(kind y.op).writes=false) (hap:Oper.apart ops x y=true) (hc:Closed s y) (h1:AStepG E ops x s s1) (h2:AStepG E ops y s1 s2) :
 ∃ s',AStepG E ops y s s'∧AStepG E ops x s' s2:=by
 obtain ⟨a1,a2,a3⟩:=Oper.apart_spec hap
 obtain ⟨vx,ex,rfl,x2,x3,x4⟩:=nw_stepG hx h1
 obtain ⟨vy,ey,rfl,y2,y3,y4⟩:=nw_stepG hy h2
 have evy:∀ z ∈ y.op.operands,aev { (s.put x.dst vx) with m:=Eff.app s.m ex } z=aev s z:=fun z hz=>by
  cases z with
  | tmp i=>exact put_t _ _ _ (fun e=>a1 _ e (operand_slot hz rfl))
  | _=>rfl
 have k1:AStepG E ops y s { (s.put y.dst vy) with m:=Eff.app s.m ey }:=by
  have hcl:∀ z ∈ y.op.operands,∀ r ∈ ids (aev { (s.put x.dst vx) with m:=Eff.app s.m ex } z),∀ cs,objCells (({ (s.put x.dst vx) with m:=Eff.app s.m ex }:St).m r)=some cs→objCells (s.m r)=some cs:=fun z hz r hr cs hcs=>by
   rw [evy z hz] at hr
   exact app_cells' x2 (hc z hz r hr) hcs
  exact y4 s ⟨fun d hd=>(put_t _ _ _ (fun e=>a1 _ e hd)).symm,fun _=>hcl,fun z hz r hr h=>alive_alike h (hcl z hz r hr)⟩ (fun q cs e=>app_unused (y2 q cs e))
 have y2':∀ q cs,ey = .new q cs→s.m q = .unused:=fun q cs e=>app_unused (y2 q cs e)
 have hne:∀ q cs cs',ex = .new q cs→ey ≠ .new q cs':=fun q cs cs' e e'=>by
  have:=y2 q cs' e'
  simp [e,Eff.app,upd] at this
 refine ⟨_,k1,?_⟩
 have k2:=x4 { (s.put y.dst vy) with m:=Eff.app s.m ey } ⟨fun d hd=>put_t _ _ _ (fun e=>a3 _ e hd),fun _ z hz r hr cs hcs=>app_cells y2' hcs,fun z hz r hr h=>alive_alike h (fun cs hcs=>app_cells y2' hcs)⟩ (fun q cs e=>app_unused' (x2 q cs e) (fun cs' e'=>hne q cs cs' e e'))
 have key:({ ((({ (s.put x.dst vx) with m:=Eff.app s.m ex }:St)).put y.dst vy) with m:=Eff.app (({ (s.put x.dst vx) with m:=Eff.app s.m ex }:St)).m ey }:St)={ ((({ (s.put y.dst vy) with m:=Eff.app s.m ey }:St)).put x.dst vx) with m:=Eff.app (({ (s.put y.dst vy) with m:=Eff.app s.m ey }:St)).m ex }:=by
  have em:Eff.app (Eff.app s.m ex) ey=Eff.app (Eff.app s.m ey) ex:=app_comm x2 y2' (fun l e r hr=>(x3 l e r hr).1) (fun l e r hr=>by
   obtain ⟨_,z,hz,hi⟩:=y3 l e r hr
   rw [evy z hz] at hi
   exact hc z hz r hi) hne
  simp only [em,St.put]
  congr 1
  cases hxd:x.dst with
  | none=>rfl
  | some dx =>
    cases hyd:y.dst with
    | none=>rfl
    | some dy =>
      have:dx ≠ dy:=fun e=>a2 dx hxd (by rw [hyd,e])
      funext j
      simp only [upd]
      by_cases a:j=dx
      · subst a; simp [this]
      · by_cases b:j=dy
        · subst b; simp [a]
        · simp [a,b]
 rw [key]; exact k2
def setO (m:Nat→AObj):Option (Nat × List AV)→Nat→AObj
 | none=>m
 | some (r,cs)=>upd m r (.live cs)
def tgt (y:Oper) (s:St):Option Nat :=
 match y.op with
 | .store _ a _=>match aev s a with
   | .ref r _=>some r
   | _=>none
 | _=>none
theorem tgt_alike (h:∀ z ∈ y.op.operands,aev s2 z=aev s z):tgt y s2=tgt y s:=by
 unfold tgt
 split
 · rename_i t a x ho
   rw [h a (by simp [ho,Op.operands])]
 · rfl
theorem st_step (hk:kind y.op = .store) {nx p} (h:aStep E nx s y=some (p,s')) (hp:p) :
 ∃ r cs,s'={ (s.put y.dst (.tup [])) with m:=upd s.m r (.live cs) }∧tgt y s=some r∧(∃ cs0,s.m r = .live cs0) ∧
   (∀ s2,(∀ z ∈ y.op.operands,aev s2 z=aev s z)→s2.m r=s.m r→∃ nx2 p2,aStep E nx2 s2 y=some (p2,{ (s2.put y.dst (.tup [])) with m:=upd s2.m r (.live cs) })∧p2):=by
 unfold aStep at h
 simp only [hk,Option.map_eq_some_iff,Prod.exists,Prod.mk.injEq] at h
 obtain ⟨q,r,cs,h1,rfl,rfl⟩:=h
 have h1':=h1
 unfold ast at h1
 split at h1
 · rename_i t a x ho
   simp only [Option.bind_eq_some_iff] at h1
   obtain ⟨d,hT,h1⟩:=h1
   split at h1<;>try (simp at h1; done)
   rename_i r' off he
   split at h1<;>try (simp at h1; done)
   rename_i cs0 hm
   simp only [Option.some.injEq,Prod.mk.injEq] at h1
   obtain ⟨e1,rfl,e2⟩:=h1
   refine ⟨r',cs,rfl,by simp [tgt,ho,he],⟨cs0,hm⟩,fun s2 hev hm2=>⟨0,q,?_,hp⟩⟩
   have:ast E.T s2 y=some (q,r',cs):=by
    rw [← h1']
    unfold ast
    simp only [ho]
    rw [hev a (by simp [ho,Op.operands]),hev x (by simp [ho,Op.operands]),he]
    simp only [hm2]
   simp only [aStep,hk,this,Option.map_some]
 · simp at h1
theorem late_kind (h:(kind y.op).late=false) (h':(kind y.op).writes=true):kind y.op = .store:=by
 revert h h'; cases kind y.op<;>simp [Kd.late,Kd.writes]
theorem swap_st (hx:(kind x.op).writes=false) (hy:kind y.op = .store) (hap:Oper.apart ops x y=true) (hc:Closed s y) (h1:AStepG E ops x s s1) (h2:AStepG E ops y s1 s2)
 (hl:looks x.op=true→∀ r,tgt y s=some r→∀ z ∈ x.op.operands,r ∉ ids (aev s z)) :
 ∃ s',AStepG E ops y s s'∧AStepG E ops x s' s2:=by
 obtain ⟨a1,a2,a3⟩:=Oper.apart_spec hap
 obtain ⟨vx,ex,rfl,x2,x3,x4⟩:=nw_stepG hx h1
 have evy:∀ z ∈ y.op.operands,aev { (s.put x.dst vx) with m:=Eff.app s.m ex } z=aev s z:=fun z hz=>by
  cases z with
  | tmp i=>exact put_t _ _ _ (fun e=>a1 _ e (operand_slot hz rfl))
  | _=>rfl
 have wy:wantedA ops y { (s.put x.dst vx) with m:=Eff.app s.m ex }=wantedA ops y s:=by
  unfold wantedA
  cases hg:y.guard with
  | none=>rfl
  | some g =>
    obtain ⟨j,want⟩:=g
    simp only []
    cases hd:(ops[j]?).bind (·.dst) with
    | none=>rfl
    | some d =>
      simp only [Option.map_some]
      rw [put_t _ _ _ (fun e=>a1 _ e (by unfold Oper.looksAt; refine List.mem_append_right _ ?_; simp [hg,hd]))]
 have key:∃ g:Option (Nat × List AV),s2={ ((({ (s.put x.dst vx) with m:=Eff.app s.m ex }:St)).put y.dst (.tup [])) with m:=setO (Eff.app s.m ex) g }∧(∀ r cs,g=some (r,cs)→(∃ cs0,s.m r = .live cs0)∧tgt y s=some r∧∀ l,ex = .frz l→r ∉ sls l) ∧
  AStepG E ops y s { (s.put y.dst (.tup [])) with m:=setO s.m g }:=by
  rcases h2 with ⟨hw,nx,p,k1,hp⟩|⟨hw,rfl⟩
  · obtain ⟨r,cs,rfl,k3,⟨cs0,k4⟩,k5⟩:=st_step hy k1 hp
    rw [tgt_alike evy] at k3
    simp only [] at k4
    have hu:s.m r ≠ .unused:=by
     unfold tgt at k3
     split at k3
     · rename_i t a v ho
       split at k3
       · rename_i r' off he
         simp only [Option.some.injEq] at k3
         subst k3
         exact hc a (by simp [ho,Op.operands]) _ (by rw [he]; exact ids_ref)
       · simp at k3
     · simp at k3
    have hs:s.m r = .live cs0∧∀ l,ex = .frz l→r ∉ sls l:=by
     cases ex with
     | keep=>exact ⟨k4,by simp⟩
     | new q cs' =>
       have hne:r ≠ q:=fun e=>hu (by rw [e]; exact x2 q cs' rfl)
       simp only [Eff.app,upd,if_neg hne] at k4
       exact ⟨k4,by simp⟩
     | frz l =>
       simp only [Eff.app,snapM_eq] at k4
       split at k4
       · revert k4; cases s.m r<;>simp [AObj.freeze]
       · rename_i hn
         exact ⟨k4,fun l' e=>by simp at e; rw [← e]; exact hn⟩
    refine ⟨some (r,cs),rfl,fun r' cs' e=>?_,.inl ⟨by rw [← wy]; exact hw,?_⟩⟩
    · simp only [Option.some.injEq,Prod.mk.injEq] at e
      obtain ⟨rfl,rfl⟩:=e
      exact ⟨⟨cs0,hs.1⟩,k3,hs.2⟩
    · obtain ⟨nx2,p2,k6,k7⟩:=k5 s (fun z hz=>(evy z hz).symm) (by rw [hs.1]; exact k4.symm)
      exact ⟨nx2,p2,k6,k7⟩
  · exact ⟨none,rfl,fun r cs e=>by simp at e,.inr ⟨by rw [← wy]; exact hw,rfl⟩⟩
 obtain ⟨g,rfl,hg,k1⟩:=key
 refine ⟨_,k1,?_⟩
 have k2:=x4 { (s.put y.dst (.tup [])) with m:=setO s.m g } ⟨fun d hd=>put_t _ _ _ (fun e=>a3 _ e hd),fun hlx z hz r hr cs hcs=>by
  cases g with
  | none=>exact hcs
  | some g =>
    obtain ⟨r',cs'⟩:=g
    obtain ⟨_,ht,_⟩:=hg r' cs' rfl
    have hne:r ≠ r':=fun e=>hl hlx r' ht z hz (by rw [← e]; exact hr)
    simp only [setO,upd,if_neg hne]; exact hcs,fun z hz r hr h=>by
  cases g with
  | none=>exact h
  | some g =>
    obtain ⟨r',cs'⟩:=g
    by_cases e:r=r'
    · subst e; simp [AM.alive,setO,upd,objCells]
    · simpa [AM.alive,setO,upd,if_neg e] using h⟩ (fun q cs e=>by
  have hq:=x2 q cs e
  cases g with
  | none=>exact hq
  | some g =>
    obtain ⟨r',cs'⟩:=g
    obtain ⟨⟨cs0,h0⟩,_,_⟩:=hg r' cs' rfl
    have hne:q ≠ r':=fun e=>by rw [← e,hq] at h0; simp at h0
    simp only [setO,upd,if_neg hne]; exact hq)
 have key:({ ((({ (s.put x.dst vx) with m:=Eff.app s.m ex }:St)).put y.dst (.tup [])) with m:=setO (Eff.app s.m ex) g }:St)={ ((({ (s.put y.dst (.tup [])) with m:=setO s.m g }:St)).put x.dst vx) with m:=Eff.app (({ (s.put y.dst (.tup [])) with m:=setO s.m g }:St)).m ex }:=by
  have em:setO (Eff.app s.m ex) g=Eff.app (setO s.m g) ex:=by
   cases g with
   | none=>rfl
   | some g =>
     obtain ⟨r',cs'⟩:=g
     obtain ⟨⟨cs0,h0⟩,_,hf⟩:=hg r' cs' rfl
     cases ex with
     | keep=>rfl
     | new q cs =>
       have hne:q ≠ r':=fun e=>by rw [← e,x2 q cs rfl] at h0; simp at h0
       funext j
       simp only [setO,Eff.app,upd]
       by_cases a:j=q
       · subst a; simp [hne]
       · by_cases b:j=r'
         · subst b; simp [a]
         · simp [a,b]
     | frz l =>
       have hn:=hf l rfl
       funext j
       simp only [setO,Eff.app,snapM_eq,upd]
       by_cases b:j=r'
       · subst b; simp [hn]
       · simp [b]
  simp only [em,St.put]
  congr 1
  cases hxd:x.dst with
  | none=>rfl
  | some dx =>
    cases hyd:y.dst with
    | none=>rfl
    | some dy =>
      have:dx ≠ dy:=fun e=>a2 dx hxd (by rw [hyd,e])
      funext j
      simp only [upd]
      by_cases a:j=dx
      · subst a; simp [this]
      · by_cases b:j=dy
        · subst b; simp [a]
        · simp [a,b]
 rw [key]; exact k2
theorem aap_put {nx:Nat} {p} (hk:kind x.op = .append) (h:aap T nx s x=some (p,s1)) (hp:p):∃ v m1,s1={ (s.put x.dst v) with m:=m1 } ∧
 (∀ r cs,objCells (m1 r)=some cs→objCells (s.m r)=some cs∨s.m r = .unused)∧(∀ r,m1 r = .unused→s.m r = .unused) ∧
 ∀ s':St,(∀ z ∈ x.op.operands,aev s' z=aev s z)→s'.m=s.m→∃ p',aap T nx s' x=some (p',{ (s'.put x.dst v) with m:=m1 })∧p':=by
 unfold aap at h
 split at h<;>try (simp at h; done)
 rename_i c ho
 split at h<;>try (simp at h; done)
 rename_i a b t t' ha ht
 simp only [Option.bind_eq_some_iff] at h
 obtain ⟨d,hT,h⟩:=h
 split at h<;>try (simp at h; done)
 rename_i e hk'
 simp only [Option.bind_eq_some_iff] at h
 obtain ⟨ed,hT2,d',hT3,h⟩:=h
 have ha':c.args=#[a,b]:=by apply Array.ext'; simpa using ha
 have ma:a ∈ x.op.operands:=by simp [ho,Op.operands,Call.operands,ha']
 have mb:b ∈ x.op.operands:=by simp [ho,Op.operands,Call.operands,ha']
 split at h
 · rename_i hn
   split at h<;>try (simp at h; done)
   rename_i e2 hk2
   simp only [Option.some.injEq,Prod.mk.injEq] at h
   obtain ⟨rfl,rfl⟩:=h
   refine ⟨.nils,s.m,rfl,fun r cs h=>.inl h,fun r h=>h,fun s' he hm=>⟨True,?_,trivial⟩⟩
   unfold aap
   simp only [ho,ha,ht,hT,hT2,hT3,Option.bind_some,hk',he a ma,he b mb,hn,if_true,hk2]
   simp only [← hm]; rfl
 · rename_i hn
   simp only [Option.bind_eq_some_iff,Option.map_eq_some_iff,Prod.exists,Prod.mk.injEq] at h
   obtain ⟨p1,n,olds,g,h1,q,k,news,h2,rfl,rfl⟩:=h
   obtain ⟨c1,c2,c3,c4,c5⟩:=hp
   have hg:∀ r,g=some r→∃ cs,s.m r = .live cs:=fun r hr=>by
    subst hr
    unfold apDst at h1
    split at h1
    · simp at h1
    · split at h1
      · rename_i cs hl
        simp only [Option.some.injEq,Prod.mk.injEq] at h1
        obtain ⟨_,_,_,rfl⟩:=h1
        exact ⟨cs,hl⟩
      · simp at h1
    · simp at h1
   have hm1:∀ r,r ≠ nx→upd (goneM s.m g) nx (.live (olds++news)) r=s.m r∨upd (goneM s.m g) nx (.live (olds++news)) r = .gone:=fun r hr=>by
    simp only [upd,if_neg hr]
    cases g with
    | none=>exact .inl rfl
    | some r' =>
      simp only [goneM,upd]
      split
      · exact .inr rfl
      · exact .inl rfl
   refine ⟨.sl nx 0 (n+k) ed.sz,_,rfl,fun r cs h=>?_,fun r h=>?_,fun s' he hm=>?_⟩
   · by_cases e:r=nx
     · subst e; exact .inr c4
     · rcases hm1 r e with h'|h'
       · rw [h'] at h; exact .inl h
       · rw [h'] at h; simp [objCells] at h
   · by_cases e:r=nx
     · subst e; simp [upd] at h
     · rcases hm1 r e with h'|h'
       · rw [h'] at h; exact h
       · rw [h'] at h; simp at h
   · have e1:apDst s' ed.sz (aev s' a)=some (p1,n,olds,g):=by
      rw [he a ma,← h1]; unfold apDst; rw [hm]
     have e2:apSrc s' ed.sz g d'.k (aev s' b)=some (q,k,news):=by
      rw [he b mb,← h2]; unfold apSrc; rw [hm]
     unfold aap
     simp only [ho,ha,ht,hT,hT2,hT3,Option.bind_some,hk',e1,e2,Option.map_some]
     rw [he a ma,he b mb,if_neg hn,hm]
     exact ⟨_,rfl,c1,c2,c3,c4,c5⟩
theorem wanted_put {o':Oper} (v:AV) (m':Nat→AObj) (h:∀ d ∈ o'.looksAt ops,o.dst ≠ some d):wantedA ops o' { (s.put o.dst v) with m:=m' }=wantedA ops o' s:=by
 unfold wantedA
 cases hg:o'.guard with
 | none=>rfl
 | some g =>
   obtain ⟨j,want⟩:=g
   simp only []
   cases hd:(ops[j]?).bind (·.dst) with
   | none=>rfl
   | some d =>
     simp only [Option.map_some]
     rw [put_t _ _ _ (h d (by unfold Oper.looksAt; refine List.mem_append_right _ ?_; simp [hg,hd]))]
theorem apG (hx:kind x.op = .append) (h1:AStepG E ops x s s1):∃ v m1,s1={ (s.put x.dst v) with m:=m1 } ∧
 (∀ r cs,objCells (m1 r)=some cs→objCells (s.m r)=some cs∨s.m r = .unused)∧(∀ r,m1 r = .unused→s.m r = .unused) ∧
 ∀ s':St,(∀ z ∈ x.op.operands,aev s' z=aev s z)→s'.m=s.m→wantedA ops x s'=wantedA ops x s→AStepG E ops x s' { (s'.put x.dst v) with m:=m1 }:=by
 rcases h1 with ⟨hw,nx,p,k1,hp⟩|⟨hw,rfl⟩
 · have k1':aap E.T nx s x=some (p,s1):=by
    unfold aStep at k1; rw [hx] at k1; exact k1
   obtain ⟨v,m1,rfl,h2,h3,h4⟩:=aap_put hx k1' hp
   refine ⟨v,m1,rfl,h2,h3,fun s' he hm hwa=>.inl ⟨by rw [hwa]; exact hw,nx,?_⟩⟩
   obtain ⟨p',h5,h6⟩:=h4 s' he hm
   exact ⟨p',by unfold aStep; rw [hx]; exact h5,h6⟩
 · refine ⟨.tup [],s.m,rfl,fun r cs h=>.inl h,fun r h=>h,fun s' he hm hwa=>.inr ⟨by rw [hwa]; exact hw,?_⟩⟩
   rw [← hm]; rfl
theorem swap_ap (hx:kind x.op = .append) (hy:kind y.op = .pure) (hap:Oper.apart ops x y=true) (hc:Closed s y) (h1:AStepG E ops x s s1) (h2:AStepG E ops y s1 s2) :
 ∃ s',AStepG E ops y s s'∧AStepG E ops x s' s2:=by
 obtain ⟨a1,a2,a3⟩:=Oper.apart_spec hap
 obtain ⟨v,m1,rfl,x1,x2,x3⟩:=apG hx h1
 have evy:∀ z ∈ y.op.operands,aev { (s.put x.dst v) with m:=m1 } z=aev s z:=fun z hz=>by
  cases z with
  | tmp i=>exact put_t _ _ _ (fun e=>a1 _ e (operand_slot hz rfl))
  | _=>rfl
 have wy:wantedA ops y { (s.put x.dst v) with m:=m1 }=wantedA ops y s:=wanted_put v m1 (fun d hd e=>a1 _ e hd)
 have key:∃ vy,s2=({ (s.put x.dst v) with m:=m1 }:St).put y.dst vy∧AStepG E ops y s (s.put y.dst vy):=by
  rcases h2 with ⟨hw,nx,p,k1,hp⟩|⟨hw,rfl⟩
  · unfold aStep at k1
    rw [hy] at k1
    simp only [Option.map_eq_some_iff,Prod.exists,Prod.mk.injEq] at k1
    obtain ⟨q,vy,k2,rfl,rfl⟩:=k1
    have hcl:∀ z ∈ y.op.operands,∀ r ∈ ids (aev { (s.put x.dst v) with m:=m1 } z),∀ cs,objCells (m1 r)=some cs→objCells (s.m r)=some cs:=fun z hz r hr cs hcs=>by
     rw [evy z hz] at hr
     rcases x1 r cs hcs with h|h
     · exact h
     · exact absurd h (hc z hz r hr)
    obtain ⟨p2,k3,k4⟩:=pev_alike (T:=E.T) (o:=y) (s:={ (s.put x.dst v) with m:=m1 }) (s2:=s) ⟨fun z hz=>(evy z hz).symm,fun _=>hcl,fun z hz r hr h=>alive_alike h (hcl z hz r hr)⟩ k2 hp
    refine ⟨vy,rfl,.inl ⟨by rw [← wy]; exact hw,0,p2,?_,k4⟩⟩
    unfold aStep; rw [hy]; simp only [k3,Option.map_some]
  · exact ⟨.tup [],rfl,.inr ⟨by rw [← wy]; exact hw,rfl⟩⟩
 obtain ⟨vy,rfl,k1⟩:=key
 refine ⟨_,k1,?_⟩
 have k2:=x3 (s.put y.dst vy) (fun z hz=>by
  cases z with
  | tmp i=>exact put_t _ _ _ (fun e=>a3 _ e (operand_slot hz rfl))
  | _=>rfl) rfl (wanted_put (o:=y) (s:=s) vy s.m (fun d hd e=>a3 _ e hd))
 have key:({ ((s.put y.dst vy).put x.dst v) with m:=m1 }:St)=({ (s.put x.dst v) with m:=m1 }:St).put y.dst vy:=by
  simp only [St.put]
  congr 1
  cases hxd:x.dst with
  | none=>rfl
  | some dx =>
    cases hyd:y.dst with
    | none=>rfl
    | some dy =>
      have:dx ≠ dy:=fun e=>a2 dx hxd (by rw [hyd,e])
      funext j
      simp only [upd]
      by_cases a:j=dx
      · subst a; simp [this]
      · by_cases b:j=dy
        · subst b; simp [a]
        · simp [a,b]
 rw [← key]; exact k2
theorem stG (hx:kind x.op = .store) (h1:AStepG E ops x s s1):∃ v m1,s1={ (s.put x.dst v) with m:=m1 } ∧
 (∀ r,AM.alive m1 r→AM.alive s.m r)∧(∀ r,m1 r = .unused→s.m r = .unused) ∧
 ∀ s':St,(∀ z ∈ x.op.operands,aev s' z=aev s z)→s'.m=s.m→wantedA ops x s'=wantedA ops x s→AStepG E ops x s' { (s'.put x.dst v) with m:=m1 }:=by
 rcases h1 with ⟨hw,nx,p,k1,hp⟩|⟨hw,rfl⟩
 · obtain ⟨r,cs,rfl,_,⟨cs0,h0⟩,h4⟩:=st_step hx k1 hp
   refine ⟨.tup [],_,rfl,fun q h=>?_,fun q h=>?_,fun s' he hm hwa=>.inl ⟨by rw [hwa]; exact hw,?_⟩⟩
   · by_cases e:q=r
     · subst e; simp [AM.alive,h0,objCells]
     · simpa [AM.alive,upd,e] using h
   · by_cases e:q=r
     · subst e; simp [upd] at h
     · simpa [upd,e] using h
   · obtain ⟨nx2,p2,h5,h6⟩:=h4 s' he (by rw [hm])
     rw [hm] at h5
     exact ⟨nx2,p2,h5,h6⟩
 · refine ⟨.tup [],s.m,rfl,fun r h=>h,fun r h=>h,fun s' he hm hwa=>.inr ⟨by rw [hwa]; exact hw,?_⟩⟩
   rw [← hm]; rfl
theorem swap_sp (hx:kind x.op = .store) (hy:kind y.op = .pure) (hly:looks y.op=false) (hap:Oper.apart ops x y=true) (h1:AStepG E ops x s s1) (h2:AStepG E ops y s1 s2) :
 ∃ s',AStepG E ops y s s'∧AStepG E ops x s' s2:=by
 obtain ⟨a1,a2,a3⟩:=Oper.apart_spec hap
 obtain ⟨v,m1,rfl,x1,x2,x3⟩:=stG hx h1
 have evy:∀ z ∈ y.op.operands,aev { (s.put x.dst v) with m:=m1 } z=aev s z:=fun z hz=>by
  cases z with
  | tmp i=>exact put_t _ _ _ (fun e=>a1 _ e (operand_slot hz rfl))
  | _=>rfl
 have wy:wantedA ops y { (s.put x.dst v) with m:=m1 }=wantedA ops y s:=wanted_put v m1 (fun d hd e=>a1 _ e hd)
 have key:∃ vy,s2=({ (s.put x.dst v) with m:=m1 }:St).put y.dst vy∧AStepG E ops y s (s.put y.dst vy):=by
  rcases h2 with ⟨hw,nx,p,k1,hp⟩|⟨hw,rfl⟩
  · unfold aStep at k1
    rw [hy] at k1
    simp only [Option.map_eq_some_iff,Prod.exists,Prod.mk.injEq] at k1
    obtain ⟨q,vy,k2,rfl,rfl⟩:=k1
    obtain ⟨p2,k3,k4⟩:=pev_alike (T:=E.T) (o:=y) (s:={ (s.put x.dst v) with m:=m1 }) (s2:=s) ⟨fun z hz=>(evy z hz).symm,fun h=>absurd h (by simp [hly]),fun z hz r hr h=>x1 r h⟩ k2 hp
    refine ⟨vy,rfl,.inl ⟨by rw [← wy]; exact hw,0,p2,?_,k4⟩⟩
    unfold aStep; rw [hy]; simp only [k3,Option.map_some]
  · exact ⟨.tup [],rfl,.inr ⟨by rw [← wy]; exact hw,rfl⟩⟩
 obtain ⟨vy,rfl,k1⟩:=key
 refine ⟨_,k1,?_⟩
 have k2:=x3 (s.put y.dst vy) (fun z hz=>by
  cases z with
  | tmp i=>exact put_t _ _ _ (fun e=>a3 _ e (operand_slot hz rfl))
  | _=>rfl) rfl (wanted_put (o:=y) (s:=s) vy s.m (fun d hd e=>a3 _ e hd))
 have key:({ ((s.put y.dst vy).put x.dst v) with m:=m1 }:St)=({ (s.put x.dst v) with m:=m1 }:St).put y.dst vy:=by
  simp only [St.put]
  congr 1
  cases hxd:x.dst with
  | none=>rfl
  | some dx =>
    cases hyd:y.dst with
    | none=>rfl
    | some dy =>
      have:dx ≠ dy:=fun e=>a2 dx hxd (by rw [hyd,e])
      funext j
      simp only [upd]
      by_cases a:j=dx
      · subst a; simp [this]
      · by_cases b:j=dy
        · subst b; simp [a]
        · simp [a,b]
 rw [← key]; exact k2
end
section
variable {X:Nat→Prop} {φ:Nat→Option (Option Nat)} {m:Nat→AObj} {s s1 s2 s' F:St} {a:Act} {w w':World} {P:Program} {T:Nat→Option TyD} {E:Env} {o x y:Oper} {ops:Array Oper}
def ARun (E:Env) (ops:Array Oper):List Nat→List (Nat × List Nat)→St→St→Prop
 | [],_,s,F=>s=F
 | i::l,acc,s,F=>∃ o s',ops[i]? = some o∧lateOk acc o s=true∧AStepG E ops o s s'∧ARun E ops l ((i,reads o s)::acc) s' F
theorem lateOk_weak {acc acc':List (Nat × List Nat)} (h:∀ p ∈ acc',p ∈ acc) (hl:lateOk acc o s=true):lateOk acc' o s=true:=by
 unfold lateOk at *
 split
 · rename_i t a x ho
   rw [ho] at hl
   simp only [] at hl ⊢
   split
   · rename_i r off he
     rw [he] at hl
     simp only [List.all_eq_true] at hl ⊢
     exact fun p hp=>hl p (h p hp)
   · rfl
 · rfl
theorem ARun.weak:∀ (l:List Nat) {acc acc':List (Nat × List Nat)} {s:St},(∀ p ∈ acc',p ∈ acc)→ARun E ops l acc s F→ARun E ops l acc' s F
 | [],_,_,_,_,h=>h
 | i::l,acc,acc',s,hs,⟨o,s',h1,h2,h3,h4⟩=>⟨o,s',h1,lateOk_weak hs h2,h3,ARun.weak l (fun p hp=>by
     rcases List.mem_cons.1 hp with rfl|hp
     · exact List.mem_cons_self
     · exact List.mem_cons_of_mem _ (hs p hp)) h4⟩
theorem indep_spec (h:indep ops x y=true):Oper.apart ops x y=true∧(((kind x.op).writes=false∧(kind y.op).late=false)∨(kind x.op = .append∧kind y.op = .pure)∨(kind x.op = .store∧kind y.op = .pure∧looks y.op=false)):=by
 simp only [indep,Bool.and_eq_true,Bool.or_eq_true,Bool.not_eq_true'] at h
 refine ⟨h.1,?_⟩
 rcases h.2 with (h2|h2)|h2
 · exact .inl h2
 · refine .inr (.inl ?_)
   revert h2
   cases kind x.op<;>cases kind y.op<;>simp [Kd.apPure]
 · refine .inr (.inr ?_)
   unfold stPure at h2
   split at h2
   · rename_i e1 e2
     exact ⟨e1,e2,by simpa using h2⟩
   · simp at h2
theorem put_ev {vx ex} (hap:Oper.apart ops x y=true):∀ z ∈ y.op.operands,aev { (s.put x.dst vx) with m:=Eff.app s.m ex } z=aev s z:=fun z hz=>by
 obtain ⟨a1,a2,a3⟩:=Oper.apart_spec hap
 cases z with
 | tmp i=>exact put_t _ _ _ (fun e=>a1 _ e (operand_slot hz rfl))
 | _=>rfl
theorem Closed.step (hc:Closed s y) (hi:indep ops x y=true) (h:AStepG E ops x s s1):Closed s1 y:=by
 obtain ⟨hap,⟨hx,hy⟩|⟨hx,hy⟩|⟨hx,hy,_⟩⟩:=indep_spec hi
 · obtain ⟨vx,ex,rfl,x2,x3,x4⟩:=nw_stepG hx h
   intro z hz r hr hu
   rw [put_ev hap z hz] at hr
   exact hc z hz r hr (app_unused hu)
 · obtain ⟨v,m1,rfl,x1,x2,x3⟩:=apG hx h
   intro z hz r hr hu
   have:aev { (s.put x.dst v) with m:=m1 } z=aev s z:=by
    obtain ⟨a1,a2,a3⟩:=Oper.apart_spec hap
    cases z with
    | tmp i=>exact put_t _ _ _ (fun e=>a1 _ e (operand_slot hz rfl))
    | _=>rfl
   rw [this] at hr
   exact hc z hz r hr (x2 r hu)
 · obtain ⟨v,m1,rfl,x1,x2,x3⟩:=stG hx h
   intro z hz r hr hu
   have:aev { (s.put x.dst v) with m:=m1 } z=aev s z:=by
    obtain ⟨a1,a2,a3⟩:=Oper.apart_spec hap
    cases z with
    | tmp i=>exact put_t _ _ _ (fun e=>a1 _ e (operand_slot hz rfl))
    | _=>rfl
   rw [this] at hr
   exact hc z hz r hr (x2 r hu)
theorem lateOk_of_kind (hy:(kind y.op).writes=false) (acc):lateOk acc y s=true:=by
 unfold lateOk
 split
 · rename_i t a x ho; rw [ho] at hy; simp [kind,Kd.writes] at hy
 · rfl
def bnd (y:Oper) (j:Nat):Bool:=y.after.any (fun e=>Region.binds .any e && e.on == j)
theorem lateOk_tgt {acc:List (Nat × List Nat)} (h:lateOk acc y s=true) {j:Nat} {l:List Nat} (hm:(j,l) ∈ acc) (hb:bnd y j=false) {r:Nat} (ht:tgt y s=some r):r ∉ l:=by
 unfold tgt at ht
 split at ht
 · rename_i t a x ho
   split at ht
   · rename_i r' off he
     simp only [Option.some.injEq] at ht
     subst ht
     unfold lateOk at h
     rw [ho] at h
     simp only [he,List.all_eq_true] at h
     have:=h _ hm
     unfold bnd at hb
     simp only [hb,Bool.or_false,Bool.not_eq_true'] at this
     simpa using this
   · simp at ht
 · simp at ht
theorem lateOk_ev {acc:List (Nat × List Nat)} {s2:St} (h:∀ z ∈ y.op.operands,aev s2 z=aev s z):lateOk acc y s2=lateOk acc y s:=by
 unfold lateOk
 split
 · rename_i t a x ho
   rw [h a (by simp [ho,Op.operands])]
 · rfl
theorem reads_ev {s2:St} (h:∀ z ∈ o.op.operands,aev s2 z=aev s z):reads o s2=reads o s:=by
 unfold reads
 split
 · rw [List.flatMap_def,List.flatMap_def]
   congr 1
   exact List.map_congr_left fun z hz=>by rw [h z (by simpa using hz)]
 · rfl
theorem put_of (h:AStepG E ops y s s') (hl:(kind y.op).late=false):∃ v,s'.t=(s.put y.dst v).t:=by
 cases hw:(kind y.op).writes with
 | false =>
   obtain ⟨v,e,rfl,_⟩:=nw_stepG hw h
   exact ⟨v,rfl⟩
 | true =>
   have hk:=late_kind hl hw
   rcases h with ⟨_,nx,p,h1,hp⟩|⟨_,rfl⟩
   · obtain ⟨r,cs,rfl,_⟩:=st_step hk h1 hp
     exact ⟨_,rfl⟩
   · exact ⟨_,rfl⟩
theorem front {i:Nat} (hi:ops[i]? = some y):∀ (pre post:List Nat) (acc:List (Nat × List Nat)) (s:St),(∀ j ∈ pre,∃ x,ops[j]? = some x∧indep ops x y=true∧bnd y j=false)→Closed s y→ARun E ops (pre++i::post) acc s F →
 ∃ s',lateOk acc y s=true∧AStepG E ops y s s'∧ARun E ops (pre++post) acc s' F
 | [],post,acc,s,_,_,h=>by
   obtain ⟨o,s',h1,h2,h3,h4⟩:=h
   rw [hi] at h1; simp at h1; subst h1
   exact ⟨s',h2,h3,ARun.weak _ (fun p hp=>List.mem_cons_of_mem _ hp) h4⟩
 | j::pre,post,acc,s,hp,hc,h=>by
   obtain ⟨x,s1,h1,h2,h3,h4⟩:=h
   obtain ⟨x',hx',hin,hb⟩:=hp j List.mem_cons_self
   rw [h1] at hx'; simp at hx'; subst hx'
   obtain ⟨s2,k0,k1,k2⟩:=front hi pre post _ s1 (fun j hj=>hp j (List.mem_cons_of_mem _ hj)) (hc.step hin h3) h4
   obtain ⟨hap,hcase⟩:=indep_spec hin
   have hlt:(kind y.op).late=false:=by
    rcases hcase with ⟨_,h⟩|⟨_,h⟩|⟨_,h,_⟩
    · exact h
    · rw [h]; rfl
    · rw [h]; rfl
   have hev:∀ z ∈ y.op.operands,aev s1 z=aev s z:=by
    rcases hcase with ⟨hx,hy⟩|⟨hx,hy⟩|⟨hx,hy,_⟩
    · obtain ⟨vx,ex,rfl,_⟩:=nw_stepG hx h3
      exact put_ev hap
    · obtain ⟨v,m1,rfl,_⟩:=apG hx h3
      intro z hz
      obtain ⟨a1,a2,a3⟩:=Oper.apart_spec hap
      cases z with
      | tmp i=>exact put_t _ _ _ (fun e=>a1 _ e (operand_slot hz rfl))
      | _=>rfl
    · obtain ⟨v,m1,rfl,_⟩:=stG hx h3
      intro z hz
      obtain ⟨a1,a2,a3⟩:=Oper.apart_spec hap
      cases z with
      | tmp i=>exact put_t _ _ _ (fun e=>a1 _ e (operand_slot hz rfl))
      | _=>rfl
   have hlate:lateOk acc y s=true:=by
    rw [lateOk_ev hev] at k0
    exact lateOk_weak (fun p hp=>List.mem_cons_of_mem _ hp) k0
   have hsw:∃ s',AStepG E ops y s s'∧AStepG E ops x s' s2:=by
    rcases hcase with ⟨hx,hy⟩|⟨hx,hy⟩|⟨hx,hy,hly⟩
    · cases hw:(kind y.op).writes with
      | false=>exact swap hx hw hap hc h3 k1
      | true =>
        refine swap_st hx (late_kind hy hw) hap hc h3 k1 fun hlx r ht z hz hr=>?_
        rw [lateOk_ev hev] at k0
        refine lateOk_tgt k0 List.mem_cons_self hb ht ?_
        unfold reads
        rw [if_pos hlx]
        exact List.mem_flatMap.2 ⟨z,by simpa using hz,hr⟩
    · exact swap_ap hx hy hap hc h3 k1
    · exact swap_sp hx hy hly hap h3 k1
   obtain ⟨s',k3,k4⟩:=hsw
   refine ⟨s',hlate,k3,x,s2,h1,?_,k4,?_⟩
   · rcases hcase with ⟨hx,hy⟩|⟨hx,hy⟩|⟨hx,hy,_⟩
     · exact lateOk_of_kind hx _
     · unfold lateOk
       split
       · rename_i t a v ho; rw [ho] at hx; simp [kind] at hx
       · rfl
     · obtain ⟨a1,a2,a3⟩:=Oper.apart_spec hap
       obtain ⟨v,hv⟩:=put_of k3 hlt
       rw [lateOk_ev (s:=s) fun z hz=>?_]
       · exact h2
       · cases z with
         | tmp i=>simp only [aev,hv]; exact put_t _ _ _ (fun e=>a3 _ e (operand_slot hz rfl))
         | _=>rfl
   have:reads x s'=reads x s:=by
    obtain ⟨a1,a2,a3⟩:=Oper.apart_spec hap
    obtain ⟨v,hv⟩:=put_of k3 hlt
    refine reads_ev fun z hz=>?_
    cases z with
    | tmp i=>simp only [aev,hv]; exact put_t _ _ _ (fun e=>a3 _ e (operand_slot hz rfl))
    | _=>rfl
   rw [this]; exact k2
theorem drawOk_spec:∀ (l:List Oper) (k:Nat),drawOkFrom ops k l=true→(∀ i j x y,i<j→l[i]? = some x→l[j]? = some y→indep ops x y=true∨(∃ e ∈ y.after,Region.binds .any e=true∧e.on=k+i)∨reach ops 8 y (k+i)=true) ∧
 (∀ i x,l[i]? = some x→∀ e ∈ x.after,Region.binds .any e=true→e.on<k+i)
 | [],k,_=>⟨fun i j x y _ h=>by simp at h,fun i x h=>by simp at h⟩
 | o::l,k,h=>by
   simp only [drawOkFrom,Bool.and_eq_true,List.all_eq_true] at h
   obtain ⟨⟨h1,h2⟩,h3⟩:=h
   obtain ⟨i1,i2⟩:=drawOk_spec l (k+1) h3
   refine ⟨fun i j x y hij hx hy=>?_,fun i x hx e he hb=>?_⟩
   · obtain ⟨j,rfl⟩:∃ q,j=q+1:=⟨j-1,by omega⟩
     simp at hy
     cases i with
     | zero =>
       simp at hx; subst hx
       have:=h1 y (List.mem_of_getElem? hy)
       simp only [Bool.or_eq_true,Array.any_eq_true',Bool.and_eq_true,beq_iff_eq] at this
       rcases this with h|⟨e,he,hb,ho⟩|h
       · exact .inl h
       · exact .inr (.inl ⟨e,he,hb,by simpa using ho⟩)
       · exact .inr (.inr (by simpa using h))
     | succ i =>
       simp at hx
       rcases i1 i j x y (by omega) hx hy with h|⟨e,he,hb,ho⟩|h
       · exact .inl h
       · exact .inr (.inl ⟨e,he,hb,by omega⟩)
       · exact .inr (.inr (by rw [show k+(i+1)=k+1+i by omega]; exact h))
   · cases i with
     | zero =>
       simp at hx; subst hx
       rw [Array.all_eq_true'] at h2
       have:=h2 e he
       simp only [hb,Bool.not_true,Bool.false_or,decide_eq_true_eq] at this
       simpa using this
     | succ i =>
       simp at hx
       have:=i2 i x hx e he hb
       omega
def DC (ops:Array Oper) (listed:Array Bool):Prop:=∀ m o,ops[m]? = some o→listed.getD m false=true→∀ e ∈ o.after,Region.binds .any e=true→listed.getD e.on false=true
theorem reach_done {listed:Array Bool} (hd:DC ops listed) {j:Nat}:∀ (k:Nat) (o:Oper),(∀ e ∈ o.after,Region.binds .any e=true→listed.getD e.on false=true)→reach ops k o j=true→listed.getD j false=true
 | 0,_,_,h=>by simp [reach] at h
 | k+1,o,he,h=>by
   unfold reach at h
   simp only [Array.any_eq_true',Bool.and_eq_true,Bool.or_eq_true,beq_iff_eq] at h
   obtain ⟨e,hm,hb,h⟩:=h
   rcases h with h|h
   · rw [← h]; exact he e hm hb
   · cases ho:ops[e.on]? with
     | none=>rw [ho] at h; simp at h
     | some o' =>
       rw [ho] at h
       exact reach_done hd k o' (hd _ _ ho (he e hm hb)) h
theorem wanted_of (R:Rel X φ s a w) {b} (h:wantedA ops o s=some b):Region.wanted o (yielded ops a.tmps)=b:=by
 unfold wantedA at h
 unfold Region.wanted
 split at h
 · rename_i hg; simp at h; simp [hg,h]
 · rename_i j want hg
   rw [hg]
   simp only [Option.bind_eq_some_iff,Option.map_eq_some_iff] at h
   obtain ⟨v0,⟨d,hd,ht⟩,hv0⟩:=h
   have hj:v0 ≠ .junk:=by intro e; subst e; simp [wantV] at hv0
   obtain ⟨v,hv,hr⟩:=R.tm d (by rw [ht]; exact hj)
   rw [ht] at hr
   unfold wantV at hv0
   split at hv0
   · rename_i b'
     simp only [Option.some.injEq] at hv0
     have:yielded ops a.tmps j=some b':=by
      unfold yielded
      obtain ⟨o',ho',hd'⟩:=hd
      rw [ho']
      simp only [Option.bind_some,hd',hv,hr.bool_inv]
     simp only [this]
     rw [← hv0]
     cases b'<;>cases want<;>rfl
   · rename_i ds
     simp only [Option.some.injEq] at hv0
     obtain ⟨cs,rfl,_⟩:=hr.tup_inv
     have:yielded ops a.tmps j=none:=by
      unfold yielded
      obtain ⟨o',ho',hd'⟩:=hd
      rw [ho']
      simp only [Option.bind_some,hd',hv]
     simp only [this]
     rw [← hv0]; rfl
   · simp at hv0
theorem stepG_sound (HE:EnvOk P E) {i:Nat} (hi:ops[i]? = some o) (R:Rel X φ s a w) (h:AStepG E ops o s s') (hd:dstOk s.n o=true) {K:Act→World→Prop} {Q:Exit→Act→World→Prop}
 (hK:∀ a' w' φ',Rel X φ' s' a' w'→Stp X φ s.m w φ' s'.m w'→K a' w'):wpOp P ops Q i K a w:=by
 unfold wpOp
 rw [hi]
 simp only []
 rcases h with ⟨hw,nx,p,h1,hp⟩|⟨hw,rfl⟩
 · rw [wanted_of R hw,if_pos rfl]
   exact .inl (aStep_sound HE R h1 hp hd hK)
 · rw [wanted_of R hw,if_neg (by simp)]
   have hd':∀ d,o.dst=some d→d<s.n:=fun d e=>by simpa [dstOk,e] using hd
   exact hK _ _ φ (R.put (.refl _ _ _ _) R.mem (.tup .nil .nil) hd') (.refl _ _ _ _)
def unl (ops:Array Oper) (listed:Array Bool):List Nat:=(List.range ops.size).filter fun i=>!listed.getD i true
theorem step_n {s':St} (h:AStepG E ops o s s'):s'.n=s.n:=by
 rcases h with ⟨_,nx,p,h1,_⟩|⟨_,rfl⟩
 · unfold aStep at h1
   split at h1
   · simp only [Option.map_eq_some_iff,Prod.exists,Prod.mk.injEq] at h1; obtain ⟨_,_,_,_,rfl⟩:=h1; rfl
   · simp only [Option.map_eq_some_iff,Prod.exists,Prod.mk.injEq] at h1; obtain ⟨_,_,_,_,_,rfl⟩:=h1; rfl
   · simp only [Option.map_eq_some_iff,Prod.exists,Prod.mk.injEq] at h1; obtain ⟨_,_,_,_,_,rfl⟩:=h1; rfl
   · unfold aap at h1
     split at h1<;>try (simp at h1; done)
     split at h1<;>try (simp at h1; done)
     simp only [Option.bind_eq_some_iff] at h1
     obtain ⟨d,_,h1⟩:=h1
     split at h1<;>try (simp at h1; done)
     simp only [Option.bind_eq_some_iff] at h1
     obtain ⟨ed,_,d',_,h1⟩:=h1
     split at h1
     · split at h1<;>try (simp at h1; done)
       simp only [Option.some.injEq,Prod.mk.injEq] at h1; obtain ⟨_,rfl⟩:=h1; rfl
     · simp only [Option.bind_eq_some_iff,Option.map_eq_some_iff,Prod.exists,Prod.mk.injEq] at h1
       obtain ⟨_,_,_,_,_,_,_,_,_,_,rfl⟩:=h1; rfl
   · unfold acp at h1
     split at h1<;>try (simp at h1; done)
     split at h1<;>try (simp at h1; done)
     simp only [Option.bind_eq_some_iff] at h1
     obtain ⟨d,_,h1⟩:=h1
     split at h1<;>try (simp at h1; done)
     simp only [Option.bind_eq_some_iff] at h1
     obtain ⟨ed,_,d',_,h1⟩:=h1
     split at h1<;>try (simp at h1; done)
     split at h1<;>try (simp at h1; done)
     simp only [Option.map_eq_some_iff,Prod.exists,Prod.mk.injEq] at h1
     obtain ⟨_,_,_,_,_,rfl⟩:=h1; rfl
   · simp only [Option.bind_eq_some_iff,Option.map_eq_some_iff,Prod.exists,Prod.mk.injEq] at h1; obtain ⟨_,_,_,_,_,_,_,rfl⟩:=h1; rfl
 · rfl
theorem wpAny_of (HE:EnvOk P E) {Q:Exit→Act→World→Prop} (hok:drawOk ops=true):∀ (fuel:Nat) (listed:Array Bool) (s:St) (φ:Nat→Option (Option Nat)) (a:Act) (w:World),listed.size=ops.size→DC ops listed→(unl ops listed).length=fuel →
 ARun E ops (unl ops listed) [] s F→Rel X φ s a w→(∀ o ∈ ops,dstOk s.n o=true)→(∀ a' w' φ',Rel X φ' F a' w'→Stp X φ s.m w φ' F.m w'→Q .normal a' w')→wpAny P .any ops Q fuel listed a w:=by
 obtain ⟨ok1,ok2⟩:=drawOk_spec ops.toList 0 hok
 intro fuel
 induction fuel with
 | zero =>
   intro listed s φ a w hs _ hl hr R hd hQ
   have hnil:unl ops listed=[]:=List.length_eq_zero_iff.1 hl
   rw [hnil] at hr
   have e:s=F:=hr
   subst e
   refine ⟨?_,hQ a w φ R (.refl _ _ _ _)⟩
   unfold Region.ready
   unfold unl at hnil
   rw [List.filter_eq_nil_iff] at hnil ⊢
   intro i hi
   have:=hnil i hi
   simp at this ⊢
   intro h; rw [this] at h; simp at h
 | succ fuel ih =>
   intro listed s φ a w hs hdc hl hr R hd hQ
   have hget:∀ i,i<ops.size→listed.getD i true=listed.getD i false:=fun i hi=>by
    simp [Array.getD,hs,hi]
   have hmem:∀ i,i ∈ unl ops listed ↔ i<ops.size∧listed.getD i false=false:=fun i=>by
    unfold unl
    rw [List.mem_filter,List.mem_range]
    constructor
    · rintro ⟨h1,h2⟩; refine ⟨h1,?_⟩; rw [← hget i h1]; simpa using h2
    · rintro ⟨h1,h2⟩; refine ⟨h1,?_⟩; rw [hget i h1,h2]; rfl
   have hsort:(unl ops listed).Pairwise (·<·):=List.Pairwise.filter _ List.pairwise_lt_range
   have hready:∀ i ∈ Region.ready .any ops listed,i ∈ unl ops listed∧∃ o,ops[i]? = some o∧∀ e ∈ o.after,Region.binds .any e=true→listed.getD e.on false=true:=by
    intro i hi
    unfold Region.ready at hi
    rw [List.mem_filter] at hi
    simp only [Bool.and_eq_true] at hi
    obtain ⟨h1,h2,h3⟩:=hi
    refine ⟨by unfold unl; rw [List.mem_filter]; exact ⟨h1,h2⟩,?_⟩
    cases ho:ops[i]? with
    | none=>simp [ho] at h3
    | some o =>
      refine ⟨o,rfl,fun e he hb=>?_⟩
      simp only [ho,Option.map_some,Option.getD_some] at h3
      rw [Array.all_eq_true'] at h3
      have:=h3 e he
      rw [hb] at this; simpa using this
   refine ⟨fun hnil=>?_,fun i hi=>?_⟩
   · exfalso
     cases hu:unl ops listed with
     | nil=>rw [hu] at hl; simp at hl
     | cons i0 rest =>
       have hi0:i0 ∈ unl ops listed:=by rw [hu]; exact List.mem_cons_self
       obtain ⟨hlt,hun⟩:=(hmem i0).1 hi0
       have ho:ops.toList[i0]? = some ops[i0]:=by simp [hlt]
       have:i0 ∈ Region.ready .any ops listed:=by
        unfold Region.ready
        rw [List.mem_filter]
        refine ⟨List.mem_range.2 hlt,?_⟩
        simp only [Bool.and_eq_true]
        refine ⟨by rw [hget i0 hlt,hun]; rfl,?_⟩
        have h0:ops[i0]? = some ops[i0]:=by simp [hlt]
        simp only [h0,Option.map_some,Option.getD_some]
        rw [Array.all_eq_true']
        intro e he
        cases hb:Region.binds .any e with
        | false=>rfl
        | true =>
          have hlt':e.on<i0:=by simpa using ok2 i0 _ ho e he hb
          simp only [Bool.not_true,Bool.false_or]
          cases hg:listed.getD e.on false with
          | true=>rfl
          | false =>
            have hm':e.on ∈ unl ops listed:=(hmem _).2 ⟨by omega,hg⟩
            rw [hu] at hm' hsort
            rcases List.mem_cons.1 hm' with h|h
            · omega
            · have:=(List.pairwise_cons.1 hsort).1 _ h; omega
       rw [hnil] at this; simp at this
   · obtain ⟨hiu,o,ho,hedge⟩:=hready i hi
     obtain ⟨pre,post,hsplit⟩:=List.append_of_mem hiu
     have hlt:i<ops.size:=((hmem i).1 hiu).1
     have hpre:∀ j ∈ pre,j<i:=fun j hj=>by
      rw [hsplit,List.pairwise_append] at hsort
      exact hsort.2.2 j hj i List.mem_cons_self
     have hpost:∀ j ∈ post,i<j:=fun j hj=>by
      rw [hsplit,List.pairwise_append] at hsort
      exact (List.pairwise_cons.1 hsort.2.1).1 j hj
     have hin:∀ j ∈ pre,∃ x,ops[j]? = some x∧indep ops x o=true∧bnd o j=false:=fun j hj=>by
      have hjlt:=hpre j hj
      have hj':ops[j]? = some ops[j]:=by simp
      have hun:∀ e ∈ o.after,Region.binds .any e=true→e.on ≠ j:=fun e he hb hon=>by
       have h1:=hedge e he hb
       rw [hon] at h1
       have hju:j ∈ unl ops listed:=by rw [hsplit]; exact List.mem_append_left _ hj
       rw [((hmem j).1 hju).2] at h1; simp at h1
      refine ⟨_,hj',?_,?_⟩
      · rcases ok1 j i ops[j] o hjlt (by simp) (by simpa using ho) with h|⟨e,he,hb,hon⟩|h
        · exact h
        · exact absurd (by simpa using hon) (hun e he hb)
        · have h1:=reach_done hdc 8 o hedge h
          rw [Nat.zero_add] at h1
          have hju:j ∈ unl ops listed:=by rw [hsplit]; exact List.mem_append_left _ hj
          rw [((hmem j).1 hju).2] at h1; simp at h1
      · unfold bnd
        rw [Bool.eq_false_iff]
        intro ht
        simp only [Array.any_eq_true',Bool.and_eq_true,beq_iff_eq] at ht
        obtain ⟨e,he,hb,hon⟩:=ht
        exact hun e he hb hon
     rw [hsplit] at hr
     have hcl:Closed s o:=fun z _ r hr=>R.used z r hr
     obtain ⟨s',_,h1,h2⟩:=front ho pre post [] s hin hcl hr
     have hunl:unl ops (listed.setIfInBounds i true)=pre++post:=by
      have e1:unl ops (listed.setIfInBounds i true)=(unl ops listed).filter (fun j=>j ≠ i):=by
       unfold unl
       rw [List.filter_filter]
       refine List.filter_congr fun j hj=>?_
       have hj':=List.mem_range.1 hj
       by_cases e:j=i
       · subst e; simp [hs,hj']
       · simp [Array.getD_eq_getD_getElem?,Ne.symm e,e]
      rw [e1,hsplit,List.filter_append,List.filter_cons]
      simp only [ne_eq,not_true_eq_false,decide_false,Bool.false_eq_true,if_false]
      congr 1
      · exact List.filter_eq_self.2 fun j hj=>by have:=hpre j hj; simp; omega
      · exact List.filter_eq_self.2 fun j hj=>by have:=hpost j hj; simp; omega
     refine stepG_sound HE ho R h1 (hd o (by simpa using Array.mem_of_getElem? ho)) (fun a' w' φ' R' hst=>?_)
     have hdc':DC ops (listed.setIfInBounds i true):=by
      have hset:∀ m,(listed.setIfInBounds i true).getD m false=if m=i then true else listed.getD m false:=fun m=>by
       by_cases e:m=i
       · subst e; simp [hs,hlt]
       · simp [Array.getD_eq_getD_getElem?,Ne.symm e,e]
      intro m o' hm ht e he hb
      rw [hset] at ht ⊢
      by_cases e1:e.on=i
      · rw [if_pos e1]
      · rw [if_neg e1]
        by_cases e2:m=i
        · subst e2
          rw [ho] at hm; simp at hm; subst hm
          exact hedge e he hb
        · rw [if_neg e2] at ht
          exact hdc m o' hm ht e he hb
     refine ih _ s' φ' a' w' (by simpa using hs) hdc' ?_ (by rw [hunl]; exact h2) R' (by rw [step_n h1]; exact hd) (fun a2 w2 φ2 R2 hst2=>hQ a2 w2 φ2 R2 (hst.trans hst2))
     rw [hunl]
     rw [hsplit] at hl
     simp at hl ⊢
     omega
theorem region_draw (HE:EnvOk P E) (hmix:P.follows .mixedOrders=true) {id:Nat} {Q:Exit→Act→World→Prop} (hok:drawOk ops=true) (hd:∀ o ∈ ops,dstOk s.n o=true)
 (hr:ARun E ops (List.range ops.size) [] s F) (R:Rel X φ s a w) (hQ:∀ a' w' φ',Rel X φ' F a' w'→Stp X φ s.m w φ' F.m w'→Q .normal a' w'):(Code.region id ops true).wp P Q a w:=by
 refine wp_region_any hmix ?_
 have hu:unl ops (Array.replicate ops.size false)=List.range ops.size:=by
  unfold unl
  refine List.filter_eq_self.2 fun i hi=>?_
  have:=List.mem_range.1 hi
  simp [Array.getD,this]
 have R':Rel X φ s a { w with drawn:=w.drawn+1 }:=by
  have E0:Ext (Wr X φ s.m) φ w (Wr X φ s.m) φ { w with drawn:=w.drawn+1 }:=⟨fun _ _ h=>.inl h,fun _ _ _=>rfl,fun _ _ h=>h,fun _ _ c e fr _ _ h=>⟨c,e,fr,h,Nat.le_refl _⟩⟩
  exact ⟨fun i hi=>by obtain ⟨v,h1,h2⟩:=R.tm i hi; exact ⟨v,h1,h2.mono E0⟩,R.df,R.n,⟨fun r=>(R.mem.obj r).mono E0 (fun _ _=>rfl),R.mem.inj,R.mem.ext,R.mem.xlt⟩⟩
 refine wpAny_of HE hok ops.size _ s φ a _ (by simp) (fun m o _ h=>by
  exfalso
  rw [Array.getD_eq_getD_getElem?,Array.getElem?_replicate] at h
  split at h<;>simp at h) (by rw [hu]; simp) (by rw [hu]; exact hr) R' hd (fun a' w' φ' R2 hst=>hQ a' w' φ' R2 ?_)
 exact ⟨⟨hst.ext.phi,hst.ext.old,hst.ext.wr,hst.ext.size⟩,⟨hst.fr.os,hst.fr.tape,hst.fr.output,hst.fr.size,hst.fr.keep,hst.fr.new⟩⟩
end
def ICall (P:Program) (f:Nat) (args:List AV) (m:Nat→AObj) (K:Nat→AV→(Nat→AObj)→Prop):Prop :=
 ∀ X φ w vs,RelM X φ m w→RL (Wr X φ m) φ w vs args→Invk P f vs.toArray w fun v w'=>∃ nx r m' φ',K nx r m'∧RelM X φ' m' w'∧RL (Wr X φ' m') φ' w' [v] [r]∧Stp X φ m w φ' m' w'
abbrev TriT:=Code→(Exit→Nat→St→Prop)→St→Prop
abbrev ICallT:=Nat→List AV→(Nat→AObj)→(Nat→AV→(Nat→AObj)→Prop)→Prop
def ifB (b:Bool) (p q:Prop):Prop:=(b=true→p)∧(b=false→q)
def guardB (b:Option Bool) (p q:Prop):Prop :=
 match b with
 | some b=>ifB b p q
 | none=>False
def stepB (x:Option (Prop × St)) (f:St→Prop) (g:Prop):Prop :=
 match x with
 | some (p,s)=>p∧f s
 | none=>g
def callB (x:Option (Nat × List AV)) (f:Nat→List AV→Prop):Prop :=
 match x with
 | some (g,args)=>f g args
 | none=>False
def icB (ic:ICallT) (f:Nat) (args:List AV) (m:Nat→AObj) (K:Nat→AV→(Nat→AObj)→Prop):Prop:=ic f args m K
def trB (tr:TriT) (c:Code) (Q:Exit→Nat→St→Prop) (s:St):Prop:=tr c Q s
def vOp (ic:ICallT) (E:Env) (draw:Bool) (nx:Nat) (s:St) (o:Oper) (K:Nat→St→Prop):Prop :=
 stepB (aStep E nx s o) (K (nx+1)) (ifB draw False (callB (callee s o) fun f args=>icB ic f args s.m fun nx r m=>K nx { (s.put o.dst r) with m:=m }))
inductive Acc where
 | off
 | on (i:Nat) (l:List (Nat × List Nat))
def Acc.next (o:Oper) (s:St):Acc→Acc
 | .off=>.off
 | .on i l=>.on (i+1) ((i,reads o s)::l)
def Acc.ok (o:Oper) (s:St):Acc→Bool
 | .off=>true
 | .on _ l=>lateOk l o s
def acc0 (draw st:Bool):Acc :=
 match draw,st with
 | true,true=>.on 0 []
 | _,_=>.off
def vOps (ic:ICallT) (E:Env) (draw:Bool) (ops:Array Oper):List Oper→Acc→Nat→St→(Nat→St→Prop)→Prop
 | [],_,nx,s,K=>K nx s
 | o::os,a,nx,s,K=>a.ok o s=true∧guardB (wantedA ops o s) (vOp ic E draw nx s o fun nx s'=>vOps ic E draw ops os (a.next o s) nx s' K) (vOps ic E draw ops os (a.next o s) nx (s.put o.dst (.tup [])) K)
def Tri (P:Program) (c:Code) (Q:Exit→Nat→St→Prop) (s:St):Prop :=
 ∀ X φ a w,Rel X φ s a w→c.wp P (fun e a' w'=>∃ nx s' φ',Q e nx s'∧Rel X φ' s' a' w'∧Stp X φ s.m w φ' s'.m w') a w
def seqQ (K:(Exit→Nat→St→Prop)→Nat→St→Prop) (Q:Exit→Nat→St→Prop):Exit→Nat→St→Prop
 | .normal,nx,s=>K Q nx s
 | e,nx,s=>Q e nx s
def blockQ (id:Nat) (Q:Exit→Nat→St→Prop):Exit→Nat→St→Prop
 | .exit j,nx,s=>match Nat.decEq j id with
   | .isTrue _=>Q .normal nx s
   | .isFalse _=>Q (.exit j) nx s
 | e,nx,s=>Q e nx s
def scopeQ (Q:Exit→Nat→St→Prop):Exit→Nat→St→Prop
 | .goto _,_,_=>False
 | e,nx,s=>Q e nx s
def regOk (n:Nat) (ops:Array Oper) (draw:Bool):Bool:=ops.toList.all (dstOk n) && (!draw || drawOk ops)
def AV.asB:AV→Option Bool
 | .bool b=>some b
 | _=>none
def regsOk (N:Nat):Code→Bool
 | .region _ ops draw=>regOk N ops draw
 | .seq a b=>regsOk N a && regsOk N b
 | .cond _ x y=>regsOk N x && regsOk N y
 | .block _ c=>regsOk N c
 | .scope c=>regsOk N c
 | _=>true
def vc (tr:TriT) (ic:ICallT) (E:Env) (N:Nat):Code→(Exit→Nat→St→Prop)→Nat→St→Prop
 | .skip,Q,nx,s=>Q .normal nx s
 | .region _ ops draw,Q,nx,s=>s.n=N∧vOps ic E draw ops ops.toList (acc0 draw (ops.toList.any isSt)) nx s (Q .normal)
 | .seq a b,Q,nx,s=>vc tr ic E N a (seqQ (vc tr ic E N b) Q) nx s
 | .cond c x y,Q,nx,s=>guardB (aev s c).asB (vc tr ic E N x Q nx s) (vc tr ic E N y Q nx s)
 | .block id c,Q,nx,s=>vc tr ic E N c (blockQ id Q) nx s
 | .exit id,Q,nx,s=>Q (.exit id) nx s
 | .ret,Q,nx,s=>Q .ret nx s
 | .label _,Q,nx,s=>Q .normal nx s
 | .scope c,Q,nx,s=>vc tr ic E N c (scopeQ Q) nx s
 | c,Q,_,s=>trB tr c Q s
section
variable {X:Nat→Prop} {φ:Nat→Option (Option Nat)} {m:Nat→AObj} {s s1 s2 s' F:St} {a:Act} {w w':World} {P:Program} {T:Nat→Option TyD} {E:Env} {o x y:Oper} {ops:Array Oper}
 {Q Q':Exit→Nat→St→Prop} {nx:Nat}
theorem vOp_step {draw K} (h:vOp (ICall P) E draw nx s o K):(∃ nx' s' p,aStep E nx s o=some (p,s')∧p∧K nx' s')∨(draw=false∧∃ f args,callee s o=some (f,args)∧ICall P f args s.m fun nx r m=>K nx { (s.put o.dst r) with m:=m }):=by
 unfold vOp stepB at h
 split at h
 · rename_i p s' he; exact .inl ⟨nx+1,s',p,he,h.1,h.2⟩
 · cases draw with
   | true=>exact (h.1 rfl).elim
   | false =>
     have h':=h.2 rfl
     unfold callB at h'
     split at h'
     · rename_i f args hc; exact .inr ⟨rfl,f,args,hc,h'⟩
     · exact h'.elim
theorem vOps_run {K:Nat→St→Prop}:∀ (os:List Oper) (k nx:Nat) (s:St) (c:Acc) (l:List (Nat × List Nat)),(∀ j,os[j]? = ops[k+j]?)→(c = .on k l∨(c = .off∧∀ o ∈ os,isSt o=false))→vOps (ICall P) E true ops os c nx s K→∃ nx' F,ARun E ops (List.range' k os.length) l s F∧K nx' F
 | [],k,nx,s,_,_,_,_,h=>⟨nx,s,rfl,h⟩
 | o::os,k,nx,s,c,l,hj,hc,h=>by
   unfold vOps at h
   obtain ⟨hok,h⟩:=h
   unfold guardB at h
   have ho:ops[k]? = some o:=by have:=hj 0; simpa using this.symm
   have hj':∀ j,os[j]? = ops[k+1+j]?:=fun j=>by have:=hj (j+1); rw [show k+1+j=k+(j+1) by omega]; simpa using this
   have hl:lateOk l o s=true:=by
    rcases hc with rfl|⟨rfl,hn⟩
    · exact hok
    · unfold lateOk
      split
      · rename_i t a x e
        have:=hn o List.mem_cons_self
        simp [isSt,e] at this
      · rfl
   have hc':c.next o s = .on (k+1) ((k,reads o s)::l)∨(c.next o s = .off∧∀ o ∈ os,isSt o=false):=by
    rcases hc with rfl|⟨rfl,hn⟩
    · exact .inl rfl
    · exact .inr ⟨rfl,fun o ho=>hn o (List.mem_cons_of_mem _ ho)⟩
   split at h
   case h_2=>exact h.elim
   case h_1 b hb =>
    cases b with
    | true =>
      rcases vOp_step (h.1 rfl) with ⟨nx1,s1,p,h1,hp,h2⟩|⟨hf,_⟩
      · obtain ⟨nx',F,h3,h4⟩:=vOps_run os (k+1) nx1 s1 _ _ hj' hc' h2
        exact ⟨nx',F,⟨o,s1,ho,hl,.inl ⟨hb,_,p,h1,hp⟩,h3⟩,h4⟩
      · simp at hf
    | false =>
      obtain ⟨nx',F,h3,h4⟩:=vOps_run os (k+1) nx _ _ _ hj' hc' (h.2 rfl)
      exact ⟨nx',F,⟨o,_,ho,hl,.inr ⟨hb,rfl⟩,h3⟩,h4⟩
theorem vOps_plain (HE:EnvOk P E) {K:Nat→St→Prop} {R:Exit→Act→World→Prop}:∀ (os:List Oper) (c:Acc) (nx:Nat) (s:St) (φ:Nat→Option (Option Nat)) (a:Act) (w:World),Rel X φ s a w→(∀ o ∈ os,dstOk s.n o=true)→vOps (ICall P) E false ops os c nx s K →
 (∀ a' w' φ' nx' s',K nx' s'→Rel X φ' s' a' w'→Stp X φ s.m w φ' s'.m w'→R .normal a' w')→wpList P ops R os a w
 | [],_,nx,s,φ,a,w,hR,_,h,hK=>hK a w φ nx s h hR (.refl _ _ _ _)
 | o::os,c,nx,s,φ,a,w,hR,hd,h,hK=>by
   unfold vOps at h
   replace h:=h.2
   unfold guardB at h
   have hdo:=hd o List.mem_cons_self
   split at h
   case h_2=>exact h.elim
   case h_1 b hb =>
    simp only [wpList]
    rw [wanted_of hR hb]
    cases b with
    | true =>
      rw [if_pos rfl]
      left
      rcases vOp_step (h.1 rfl) with ⟨nx1,s1,p,h1,hp,h2⟩|⟨_,f,args,hc,hI⟩
      · refine aStep_sound HE hR h1 hp hdo fun a' w' φ' R' hst=>?_
        have hn:s1.n=s.n:=step_n (ops:=ops) (.inl ⟨hb,_,p,h1,hp⟩)
        exact vOps_plain HE os _ nx1 s1 φ' a' w' R' (by rw [hn]; exact fun o ho=>hd o (List.mem_cons_of_mem _ ho)) h2 (fun a2 w2 φ2 nx2 s2 k r st=>hK a2 w2 φ2 nx2 s2 k r (hst.trans st))
      · obtain ⟨g,az,ts,fs,cs,ho,hv,hr⟩:=callee_sound hR hc
        have hd':∀ d,o.dst=some d→d<s.n:=fun d e=>by simpa [dstOk,e] using hdo
        refine upon_call ho hv (hI X φ w _ hR.mem hr) ?_
        rintro v w' ⟨nx',r,m',φ',k,hm,hv',hst⟩
        exact vOps_plain HE os _ nx' _ φ' _ w' (hR.put hst hm hv' hd') (fun o ho=>hd o (List.mem_cons_of_mem _ ho)) k (fun a2 w2 φ2 nx2 s2 k r st=>hK a2 w2 φ2 nx2 s2 k r (hst.trans st))
    | false =>
      rw [if_neg (by simp)]
      have hd':∀ d,o.dst=some d→d<s.n:=fun d e=>by simpa [dstOk,e] using hdo
      exact vOps_plain HE os _ nx _ φ _ w (hR.put (.refl _ _ _ _) hR.mem (.tup .nil .nil) hd') (fun o ho=>hd o (List.mem_cons_of_mem _ ho)) (h.2 rfl) hK
theorem Tri.mono {c:Code} (h:Tri P c Q s) (hq:∀ e nx s,Q e nx s→Q' e nx s):Tri P c Q' s:=fun X φ a w R =>
 Code.wp_mono (fun _ _ _ ⟨nx,s',φ',q,r⟩=>⟨nx,s',φ',hq _ _ _ q,r⟩) (h X φ a w R)
theorem vc_sound (HE:EnvOk P E) (hmix:P.follows .mixedOrders=true) (N:Nat):∀ (c:Code) (Q:Exit→Nat→St→Prop) (nx:Nat) (s:St),regsOk N c=true→vc (Tri P) (ICall P) E N c Q nx s→Tri P c Q s:=by
 intro c
 induction c with
 | skip=>exact fun Q nx s _ h X φ a w R=>wp_skip ⟨nx,s,φ,h,R,.refl _ _ _ _⟩
 | label l=>exact fun Q nx s _ h X φ a w R=>wp_label ⟨nx,s,φ,h,R,.refl _ _ _ _⟩
 | exit id=>exact fun Q nx s _ h X φ a w R=>wp_exit ⟨nx,s,φ,h,R,.refl _ _ _ _⟩
 | ret=>exact fun Q nx s _ h X φ a w R=>wp_ret ⟨nx,s,φ,h,R,.refl _ _ _ _⟩
 | region id ops draw =>
   intro Q nx s h1 h X φ a w R
   obtain ⟨h0,h2⟩:=h
   subst h0
   simp only [regsOk,regOk,Bool.and_eq_true,List.all_eq_true] at h1
   have hd:∀ o ∈ ops,dstOk s.n o=true:=fun o ho=>h1.1 o (by simpa using ho)
   cases draw with
   | true =>
     have hok:drawOk ops=true:=by simpa using h1.2
     obtain ⟨nx',F,h3,h4⟩:=vOps_run (ops:=ops) ops.toList 0 nx s _ [] (fun j=>by simp) (by
      cases hst:ops.toList.any isSt with
      | true=>exact .inl rfl
      | false=>refine .inr ⟨rfl,fun o ho=>?_⟩; rw [List.any_eq_false] at hst; simpa using hst o ho) h2
     rw [Array.length_toList,← List.range_eq_range'] at h3
     exact region_draw HE hmix hok hd h3 R (fun a' w' φ' R' hst=>⟨nx',F,φ',h4,R',hst⟩)
   | false =>
     refine wp_region ?_
     have e:=wpOps_eq_wpList (P:=P) (ops:=ops) (Q:=fun e a' w'=>∃ nx s' φ',Q e nx s'∧Rel X φ' s' a' w'∧Stp X φ s.m w φ' s'.m w') ops.toList 0 (fun j=>by simp)
     rw [Array.length_toList,← List.range_eq_range'] at e
     rw [e]
     exact vOps_plain HE ops.toList _ nx s φ a w R h1.1 h2 (fun a' w' φ' nx' s' k r st=>⟨nx',s',φ',k,r,st⟩)
 | seq x y ih1 ih2 =>
   intro Q nx s hr h X φ a w R
   simp only [regsOk,Bool.and_eq_true] at hr
   refine wp_seq (Code.wp_mono ?_ (ih1 _ nx s hr.1 h X φ a w R))
   rintro e a' w' ⟨nx',s',φ',q,r,st⟩
   cases e with
   | normal =>
     refine Code.wp_mono ?_ (ih2 Q nx' s' hr.2 q X φ' a' w' r)
     rintro e a2 w2 ⟨nx2,s2,φ2,q2,r2,st2⟩
     exact ⟨nx2,s2,φ2,q2,r2,st.trans st2⟩
   | _=>exact ⟨nx',s',φ',q,r,st⟩
 | cond c x y ih1 ih2 =>
   intro Q nx s hr h X φ a w R
   simp only [regsOk,Bool.and_eq_true] at hr
   unfold vc guardB at h
   split at h
   · rename_i b hb
     have hb:aev s c = .bool b:=by revert hb; cases aev s c<;>simp [AV.asB]
     have hc:=R.ev c
     rw [hb] at hc
     exact wp_cond_split hc.bool_inv (fun e=>ih1 Q nx s hr.1 (h.1 e) X φ a w R) (fun e=>ih2 Q nx s hr.2 (h.2 e) X φ a w R)
   · exact h.elim
 | block id c ih =>
   intro Q nx s hr h X φ a w R
   refine wp_block (Code.wp_mono ?_ (ih _ nx s hr h X φ a w R))
   rintro e a' w' ⟨nx',s',φ',q,r,st⟩
   cases e with
   | exit j =>
     simp only [blockQ] at q
     simp only [Exit.inBlock]
     split at q
     · rename_i hj _; rw [if_pos hj]; exact ⟨nx',s',φ',q,r,st⟩
     · rename_i hj _; rw [if_neg hj]; exact ⟨nx',s',φ',q,r,st⟩
   | _=>exact ⟨nx',s',φ',q,r,st⟩
 | scope c ih =>
   intro Q nx s hr h X φ a w R
   refine wp_scope_straight (Code.wp_mono ?_ (ih _ nx s hr h X φ a w R))
   rintro e a' w' ⟨nx',s',φ',q,r,st⟩
   cases e with
   | goto l=>exact q.elim
   | _=>exact ⟨nx',s',φ',q,r,st⟩
 | _=>intro Q nx s _ h; exact h
end
def objOnly (L:List Nat):AObj→Bool
 | .live cs=>onlyL (fun r=>L.contains r) cs
 | .ro cs=>onlyL (fun r=>L.contains r) cs
 | _=>true
structure Kept (L:List Nat) (s s':St):Prop where
 n:s'.n=s.n
 t:∀ i,s'.t i = .junk∨(s'.t i=s.t i∧(s'.t i).only (fun r=>L.contains r)=true)
 m:∀ r,(L.contains r=true∧s'.m r=s.m r∧objOnly L (s.m r)=true)∨(L.contains r=false∧s'.m r = .unused)
section
variable {W:Nat→Prop} {X:Nat→Prop} {φ φ0:Nat→Option (Option Nat)} {m m0:Nat→AObj} {s s1 s2 s' F:St} {a:Act} {w w' w0:World} {P:Program} {T:Nat→Option TyD} {E:Env} {o x y:Oper} {ops:Array Oper}
 {Q Q':Exit→Nat→St→Prop} {nx:Nat} {L:List Nat}
theorem kept_rel (R:Rel X φ s a w) (K:Kept L s s') (hst:Stp X φ0 m0 w0 φ s.m w) (hL:∀ r,m0 r ≠ .unused→L.contains r=true) (hφ:∀ r,m0 r = .unused→φ0 r=none) :
 ∃ φ',Rel X φ' s' a w∧Stp X φ0 m0 w0 φ' s'.m w:=by
 let φ':Nat→Option (Option Nat):=fun r=>if L.contains r then φ r else none
 have hφ':∀ r,L.contains r=true→φ' r=φ r:=fun r h=>by simp only [φ',h,if_true]
 have hsub:∀ r b,φ' r=some (some b)→φ r=some (some b):=fun r b h=>by
  simp only [φ'] at h; split at h
  · exact h
  · simp at h
 have E:Ext (Wr X φ s.m) φ' w (Wr X φ' s'.m) φ' w:=by
  refine ⟨fun _ _ h=>.inl h,fun _ _ _=>rfl,fun b _ hW=>?_,fun _ _ c e fr _ _ h=>⟨c,e,fr,h,Nat.le_refl _⟩⟩
  rcases hW with h|⟨r,cs,h,h'⟩
  · exact .inl h
  · rcases K.m r with ⟨_,h2,_⟩|⟨_,h2⟩
    · exact .inr ⟨r,cs,hsub r b h,by rw [← h2]; exact h'⟩
    · rw [h2] at h'; simp at h'
 have hobj:∀ r,ObjOk (Wr X φ' s'.m) φ' w (φ' r) (s'.m r):=by
  intro r
  rcases K.m r with ⟨h1,h2,h3⟩|⟨h1,h2⟩
  · rw [h2,hφ' r h1]
    have ho:=R.mem.obj r
    cases hm:s.m r with
    | unused=>rw [hm] at ho; exact ho
    | gone=>rw [hm] at ho; exact ho
    | live cs =>
      rw [hm] at ho h3
      obtain ⟨b,k1,c,e,k2,k3,k4,k5⟩:=ho
      exact ⟨b,k1,c,e,k2,k3,(k4.only (k:=fun r=>L.contains r) hφ' h3).mono E,k5⟩
    | ro cs =>
      rw [hm] at ho h3
      obtain ⟨b,k1,c,e,k2,k3,k4,k5⟩:=ho
      exact ⟨b,k1,c,e,k2,k3,(k4.only (k:=fun r=>L.contains r) hφ' h3).mono E,k5⟩
  · rw [h2]
    have h1':r ∉ L:=by simpa using h1
    simp [φ',h1',ObjOk]
 refine ⟨φ',⟨fun i hi=>?_,R.df,by rw [R.n,K.n],⟨hobj,fun r r' b h1 h2=>R.mem.inj r r' b (hsub _ _ h1) (hsub _ _ h2),fun r b h=>R.mem.ext r b (hsub _ _ h),R.mem.xlt⟩⟩,⟨⟨fun r x hx=>?_,hst.ext.old,fun b hb hW=>?_,fun r b c e fr h1 h2 h3=>hst.ext.size r b c e fr h1 (hsub _ _ h2) h3⟩,⟨hst.fr.os,hst.fr.tape,hst.fr.output,hst.fr.size,hst.fr.keep,fun r b h=>hst.fr.new r b (hsub _ _ h)⟩⟩⟩
 · rcases K.t i with h|⟨h1,h2⟩
   · exact absurd h hi
   · obtain ⟨v,h3,h4⟩:=R.tm i (by rw [← h1]; exact hi)
     refine ⟨v,h3,?_⟩
     rw [h1]; rw [h1] at h2
     exact (h4.only (k:=fun r=>L.contains r) hφ' (by simp only [onlyL,h2]; rfl)).mono E
 · have hu:m0 r ≠ .unused:=fun h=>by rw [hφ r h] at hx; simp at hx
   rw [hφ' r (hL r hu)]
   exact hst.ext.phi r x hx
 · refine hst.ext.wr b hb ?_
   rcases hW with h|⟨r,cs,h,h'⟩
   · exact .inl h
   · rcases K.m r with ⟨_,h2,_⟩|⟨_,h2⟩
     · exact .inr ⟨r,cs,hsub r b h,by rw [← h2]; exact h'⟩
     · rw [h2] at h'; simp at h'
theorem least {p:Nat→Prop} (h:∃ k,p k):∃ k,p k∧∀ j,p j→k≤j:=by
 obtain ⟨k,hk⟩:=h
 induction k using Nat.strongRecOn with
 | _ k ih =>
   by_cases hj:∃ j,j<k∧p j
   · obtain ⟨j,h1,h2⟩:=hj
     exact ih j h1 h2
   · exact ⟨k,hk,fun j hp=>Nat.le_of_not_lt fun h=>hj ⟨j,h,hp⟩⟩
open Classical in
noncomputable def leastOf (p:Nat→Prop):Nat:=if h:∃ k,p k then Classical.choose (least h) else 0
theorem leastOf_spec {p:Nat→Prop} (h:∃ k,p k):p (leastOf p)∧∀ j,p j→leastOf p≤j:=by
 unfold leastOf
 rw [dif_pos h]
 exact Classical.choose_spec (least h)
def loopQ (L:List Nat) (I:St→Prop) (μ:St→Nat) (n:Nat) (Q:Exit→Nat→St→Prop):Exit→Nat→St→Prop
 | .normal,_,s=>∃ s',Kept L s s'∧I s'∧μ s'<n
 | e,nx,s=>Q e nx s
theorem Tri_loop {c:Code} (L:List Nat) (I:St→Prop) (μ:St→Nat) (hL:∀ r,s.m r ≠ .unused→L.contains r=true) (h0:∃ s0,Kept L s s0∧I s0) (hr:∀ s,I s→Tri P c (loopQ L I μ (μ s) Q) s):Tri P (.loop c) Q s:=by
 intro X φ a w R
 have hφ:∀ r,s.m r = .unused→φ r=none:=fun r h=>R.mem.unused h
 let p:Act→World→Nat→Prop:=fun a' w' k=>∃ s1 φ1,I s1∧μ s1=k∧Rel X φ1 s1 a' w'∧Stp X φ s.m w φ1 s1.m w'
 obtain ⟨s0,k1,k2⟩:=h0
 obtain ⟨φ0,r0,st0⟩:=kept_rel R k1 (.refl _ _ _ _) hL hφ
 refine wp_loop (fun a' w'=>∃ k,p a' w' k) (fun a' w'=>leastOf (p a' w')) ⟨_,s0,φ0,k2,rfl,r0,st0⟩ fun a' w' hI=>?_
 obtain ⟨⟨s1,φ1,i1,hk,r1,st1⟩,_⟩:=leastOf_spec hI
 refine Code.wp_mono ?_ (hr s1 i1 X φ1 a' w' r1)
 rintro e a2 w2 ⟨nx,s2,φ2,q,r2,st2⟩
 cases e with
 | normal =>
   obtain ⟨s3,k3,i3,hlt⟩:=q
   obtain ⟨φ3,r3,st3⟩:=kept_rel r2 k3 (st1.trans st2) hL hφ
   have hp:p a2 w2 (μ s3):=⟨s3,φ3,i3,rfl,r3,st3⟩
   refine ⟨⟨_,hp⟩,?_⟩
   have:=(leastOf_spec ⟨_,hp⟩).2 _ hp
   omega
 | _=>exact ⟨nx,s2,φ2,q,r2,st1.trans st2⟩
section
variable (T:Nat→Option TyD)
def resV (s:St):ResultVar→Option (Prop × AV)
 | .tmp t=>some (True,s.t t)
 | .cell a t=>(T t).bind fun d=>(peek s.m (s.t a)).map fun (cs,off)=>rd d cs off
def resVs (s:St):List ResultVar→Option (Prop × List AV)
 | []=>some (True,[])
 | r::rs=>(resV T s r).bind fun (p,v)=>(resVs s rs).map fun (q,vs)=>(p∧q,v::vs)
end
def pack:List AV→AV
 | [v]=>v
 | vs=>.tup vs
def retQ (T:Nat→Option TyD) (fn:Func) (K:Nat→St→AV→Prop) (e:Exit) (nx:Nat) (s:St):Prop :=
 match e with
 | .normal | .ret=>match resVs T s fn.results.toList with
   | some (p,vs)=>p∧K nx s (pack vs)
   | none=>False
 | _=>False
theorem resV_sound (HT:TyOk P T) (R:Rel X φ s a w) {r p v} (h:resV T s r=some (p,v)) (hp:p) :
 ∃ u,((match r with | .tmp t=>pure (a.tmps.getD t undef) | .cell b t=>do loadVar t (← asAddr (a.tmps.getD b undef))):Sem Value).run P w = .ok u w∧RL (Wr X φ s.m) φ w [u] [v]:=by
 cases r with
 | tmp t =>
   simp only [resV,Option.some.injEq,Prod.mk.injEq] at h
   obtain ⟨_,rfl⟩:=h
   exact ⟨_,rfl,R.ev (.tmp t)⟩
 | cell b t =>
   simp only [resV,Option.bind_eq_some_iff,Option.map_eq_some_iff,Prod.exists] at h
   obtain ⟨d,hT,cs,off,hq,h⟩:=h
   obtain ⟨u,i,z,ht⟩:=HT _ _ hT
   obtain ⟨b',o',us,hv,h1,h2⟩:=R.mem.peek hq (R.ev (.tmp b))
   have hr:(rd d cs off).1:=by rw [h]; exact hp
   obtain ⟨y,h3,h4⟩:=run_loadVar' off ht h1 h2 hr
   refine ⟨y,?_,by rw [h] at h4; exact h4⟩
   have hv':a.tmps.getD b undef = .pointer (some ⟨b',o'+off,none⟩):=hv
   simp only [hv',asAddr,Sem.run_bind,Sem.run_pure,Result.andThen_ok,h3]
theorem resVs_sound (HT:TyOk P T) (R:Rel X φ s a w):∀ (rs:List ResultVar) {p vs},resVs T s rs=some (p,vs)→p →
 ∃ us,(rs.mapM (fun r=>(match r with | .tmp t=>pure (a.tmps.getD t undef) | .cell b t=>do loadVar t (← asAddr (a.tmps.getD b undef)):Sem Value))).run P w = .ok us w∧RL (Wr X φ s.m) φ w us vs
 | [],p,vs,h,hp=>by
   simp only [resVs,Option.some.injEq,Prod.mk.injEq] at h
   obtain ⟨_,rfl⟩:=h
   exact ⟨[],by simp,.nil⟩
 | r::rs,p,vs,h,hp=>by
   simp only [resVs,Option.bind_eq_some_iff,Option.map_eq_some_iff,Prod.exists,Prod.mk.injEq] at h
   obtain ⟨q1,v,h1,q2,vs',h2,rfl,rfl⟩:=h
   obtain ⟨u,k1,k2⟩:=resV_sound HT R h1 hp.1
   obtain ⟨us,k3,k4⟩:=resVs_sound HT R rs h2 hp.2
   refine ⟨u::us,?_,k2.cons k4⟩
   rw [List.mapM_cons,Sem.run_bind,k1,Result.andThen_ok,Sem.run_bind,k3,Result.andThen_ok]
   rfl
theorem results_sound (HT:TyOk P T) (R:Rel X φ s a w) {fn:Func} {p vs} (h:resVs T s fn.results.toList=some (p,vs)) (hp:p) :
 ∃ u,(results fn a.tmps).run P w = .ok u w∧RL (Wr X φ s.m) φ w [u] [pack vs]:=by
 obtain ⟨us,h1,h2⟩:=resVs_sound HT R _ h hp
 have hl:=h2.length
 refine ⟨if h:us.toArray.size=1 then us.toArray[0] else .tuple us.toArray,?_,?_⟩
 · unfold results
   rw [Array.mapM_eq_mapM_toList,Sem.run_bind,Sem.run_map]
   refine (congrArg (fun z:Result (List Value)=>(z.andThen fun a w'=>Result.ok a.toArray w').andThen fun a w'=>Sem.run P (pure (if h:a.size=1 then a[0] else Value.tuple a)) w') h1).trans ?_
   rfl
 · match us,vs,hl with
   | [],[],_=>exact .tup h2 .nil
   | [u],[v],_=>exact h2
   | u::u'::us,v::v'::vs,_=>exact .tup h2 .nil
def fzV (m:Nat→AObj):Nat→AV→AV
 | 0,v=>v
 | k+1,v=>match v with
   | .sl r off n sz=>match objCells (m r) with
     | some cs=>.imm n (((cs.drop off).take (n*sz)).map (fzV m k))
     | none=>.junk
   | .agg cs=>.agg (cs.map (fzV m k))
   | .tup cs=>.tup (cs.map (fzV m k))
   | v=>v
def fzC (m:Nat→AObj):Nat→AV→Prop
 | 0,_=>True
 | k+1,v=>match v with
   | .sl r off n sz=>match objCells (m r) with
     | some cs=>Cut cs off (n*sz)∧∀ c ∈ (cs.drop off).take (n*sz),fzC m k c
     | none=>False
   | .agg cs=>∀ c ∈ cs,fzC m k c
   | .tup cs=>∀ c ∈ cs,fzC m k c
   | _=>True
theorem fzV_pad (k:Nat):fzV m k .pad = .pad:=by cases k<;>rfl
theorem RL.fz (R:RelM X φ m w):∀ (k:Nat) {vs az},RL X φ w vs az→(∀ v ∈ az,fzC m k v)→(∀ r b,φ r=some (some b)→∀ cs,objCells (m r)=some cs→∃ c e,w.heap[b]? = some (.cells c e (0,0))∧cs.length≤c.size∧RL X φ w (c.toList.take cs.length) cs) →
 RL X φ w vs (az.map (fzV m k))
 | 0,vs,az,h,_,_=>by
   have:az.map (fzV m 0)=az:=by simp [show fzV m 0=id from rfl]
   rw [this]; exact h
 | k+1,vs,az,h,hc,H=>by
   induction h with
   | nil=>exact .nil
   | junk v _ ih=>exact .junk v (ih fun v hv=>hc v (List.mem_cons_of_mem _ hv))
   | bool b _ ih=>exact .bool b (ih fun v hv=>hc v (List.mem_cons_of_mem _ hv))
   | int k n _ ih=>exact .int k n (ih fun v hv=>hc v (List.mem_cons_of_mem _ hv))
   | str s _ ih=>exact .str s (ih fun v hv=>hc v (List.mem_cons_of_mem _ hv))
   | nilp _ ih=>exact .nilp (ih fun v hv=>hc v (List.mem_cons_of_mem _ hv))
   | ref a _ ih=>exact .ref a (ih fun v hv=>hc v (List.mem_cons_of_mem _ hv))
   | gref v a b _ ih=>exact .gref v a b (ih fun v hv=>hc v (List.mem_cons_of_mem _ hv))
   | fref a b c _ _ ih=>exact .fref a b c (ih fun v hv=>hc v (List.mem_cons_of_mem _ hv))
   | nils _ ih=>exact .nils (ih fun v hv=>hc v (List.mem_cons_of_mem _ hv))
   | @sl r off n sz b cap vs az a hcap c _ ih =>
     have h1:=hc (.sl r off n sz) List.mem_cons_self
     simp only [fzC] at h1
     split at h1
     · rename_i cs he
       obtain ⟨c',e,k1,k2,k3⟩:=H r b a cs he
       have hh:=RL.fz R k (k3.cut h1.1) h1.2 H
       simp only [List.map_cons,fzV,he]
       refine .imm hcap (fun _=>R.ext r b a) (fun j u hj=>?_) hh (ih fun v hv=>hc v (List.mem_cons_of_mem _ hv))
       rw [List.getElem?_take] at hj
       split at hj
       · rw [cell_of_row w b _ c' e _ k1]
         rw [List.getElem?_drop,List.getElem?_take] at hj
         split at hj
         · simpa using hj
         · simp at hj
       · simp at hj
     · exact h1.elim
   | gsl v a b _ ih =>
     rename_i r off n sz _ _ _
     have h1:=hc (.sl r off n sz) List.mem_cons_self
     have ho:=R.obj r
     rw [b] at ho
     simp only [fzC] at h1
     split at h1
     · rename_i cs he
       cases hm:m r<;>rw [hm] at ho he<;>simp [ObjOk,objCells] at ho he
     · exact h1.elim
   | imm0 a c _ ih=>exact .imm0 a c (ih fun v hv=>hc v (List.mem_cons_of_mem _ hv))
   | imm z a b c _ _ ih=>exact .imm z a b c (ih fun v hv=>hc v (List.mem_cons_of_mem _ hv))
   | nilf _ ih=>exact .nilf (ih fun v hv=>hc v (List.mem_cons_of_mem _ hv))
   | fn a b _ _ _ ih=>exact .fn a b (ih fun v hv=>hc v (List.mem_cons_of_mem _ hv))
   | agg a _ _ ih=>exact .agg (RL.fz R k a (hc _ List.mem_cons_self) H) (ih fun v hv=>hc v (List.mem_cons_of_mem _ hv))
   | tup a _ _ ih=>exact .tup (RL.fz R k a (hc _ List.mem_cons_self) H) (ih fun v hv=>hc v (List.mem_cons_of_mem _ hv))
   | @opq x us vs az _ _ a b _ e1 e2 _ ih =>
     subst e2
     refine .opq a b (ih fun v hv=>hc v (List.mem_cons_of_mem _ (List.mem_append_right _ hv))) e1 ?_
     rw [List.map_append,List.map_replicate,fzV_pad]
def Conv (r0 r:AV):Prop:=∀ X φ w v,RL X φ w [v] [r0]→RL X φ w [v] [r]
def st0 (args:List AV) (m:Nat→AObj) (n:Nat):St:=⟨fun i=>args.getD i .junk,m,n⟩
theorem callFunc_enter {f fn c} (hf:P.funcs[f]? = some fn) (hb:fn.body=some c) (hn:(fn.name == "runtime.NumGoroutine")=false) (vs:Array Value) (w:World):(callFunc f vs).run P w = .ok (.enter f vs) w:=by
 have hn':¬ fn.name = "runtime.NumGoroutine" := by simpa using hn
 simp [callFunc,hf,hb,hn']
theorem start_rel {vs args} {n:Nat} (R:RelM X φ m w) (h:RL (Wr X φ m) φ w vs args) (hp:args.all AV.plain=true) (hl:args.length≤n):Rel X φ (st0 args m n) { tmps:=vs.toArray++Array.replicate (n-vs.toArray.size) undef,defers:=[] } w:=by
 have hlen:=h.length
 refine ⟨fun i hi=>?_,rfl,?_,R⟩
 · simp only [st0] at hi ⊢
   by_cases hlt:i<args.length
   · have hg:args[i]? = some args[i]:=by simp [hlt]
     obtain ⟨v,h1,h2⟩:=h.at hg (by rw [List.all_eq_true] at hp; exact hp _ (List.getElem_mem hlt))
     refine ⟨v,?_,by simpa [hlt] using h2⟩
     rw [Array.getElem?_append_left (by simp; omega)]
     simpa using h1
   · simp [Nat.le_of_not_lt hlt] at hi
 · simp only [st0]; simp; omega
def bodyOf (fn:Func):Code:=fn.body.getD .skip
theorem CSpec_of {f fn c args r} (HE:EnvOk P E) (hmix:P.follows .mixedOrders=true) (hf:P.funcs[f]? = some fn) (hb:fn.body=some c) (hn:(fn.name == "runtime.NumGoroutine")=false) (hg:groundL args=true) (hp:args.all AV.plain=true) (hl:args.length≤fn.ntmps) (hreg:regsOk fn.ntmps c=true)
 (h:vc (Tri P) (ICall P) E fn.ntmps c (retQ E.T fn fun _ s v=>fzC s.m 4 v∧groundL [fzV s.m 4 v]=true∧Conv (fzV s.m 4 v) r) 0 (st0 args (fun _=>.unused) fn.ntmps)):CSpec P f args r:=by
 intro X φ w vs hX hr
 have R0:RelM X (fun _=>none) (fun _=>.unused) w:=⟨fun r=>rfl,fun r r' b h=>by simp at h,fun r b h=>by simp at h,hX⟩
 have hWX:∀ b,Wr X (fun _=>none) (fun _=>.unused) b→X b:=fun b h=>by
  rcases h with h|⟨r,cs,h,_⟩
  · exact h
  · simp at h
 have hr0:RL (Wr X (fun _=>none) (fun _=>.unused)) (fun _=>none) w vs args :=
  (hr.ground (φ':=fun _=>none) hg).mono ⟨fun _ _ h=>.inl h,fun _ _ _=>rfl,fun b _ h=>hWX b h,fun _ _ c e fr h _ _=>by simp at h⟩
 have S:=start_rel (n:=fn.ntmps) R0 hr0 hp hl
 unfold Invk
 rw [callFunc_enter hf hb hn]
 simp only []
 refine calls_of_wp hf hb (Code.wp_mono ?_ (vc_sound HE hmix fn.ntmps c _ 0 _ hreg h X _ _ w S))
 rintro e a' w' ⟨nx,s',φ',q,R',st⟩
 have key:retQ E.T fn (fun _ s v=>fzC s.m 4 v∧groundL [fzV s.m 4 v]=true∧Conv (fzV s.m 4 v) r) .ret nx s'→a'.defers=[]∧∃ v,(results fn a'.tmps).run P w' = .ok v w'∧∃ v',Ending.returned v = .returned v'∧RL X φ w' [v'] [r]∧RowKit.Below w.heap.size w w':=by
  intro q
  simp only [retQ] at q
  split at q
  · rename_i p vs' hv
    obtain ⟨hp',c1,c2,c3⟩:=q
    obtain ⟨u,k1,k2⟩:=results_sound HE.ty R' hv hp'
    refine ⟨R'.df,u,k1,u,rfl,c3 X φ w' u ?_,?_⟩
    · have toX:Ext (Wr X φ' s'.m) φ' w' X φ' w':=⟨fun _ _ h=>.inl h,fun _ _ _=>rfl,fun b _ h=>.inl h,fun _ _ c e fr _ _ h=>⟨c,e,fr,h,Nat.le_refl _⟩⟩
      have:=RL.fz R'.mem 4 (k2.mono toX) (by simpa using c1) (fun r b hb cs hc=>by
       obtain ⟨b',c,e,h1,h2,h3,h4,_,_⟩:=obj_reads R'.mem hc
       rw [hb] at h1; simp at h1; subst h1
       exact ⟨c,e,h2,h3,h4.mono toX⟩)
      simpa using this.ground c2
    · exact ⟨st.fr.os,st.fr.tape,st.fr.output,st.fr.size,fun k hk=>st.fr.keep k hk (fun r=>by simp)⟩
  · exact q.elim
 cases e with
 | normal=>exact key q
 | ret=>exact key q
 | _=>exact q.elim
theorem ICall_of {f fn c args K} (HE:EnvOk P E) (hmix:P.follows .mixedOrders=true) (hf:P.funcs[f]? = some fn) (hb:fn.body=some c) (hn:(fn.name == "runtime.NumGoroutine")=false) (hp:args.all AV.plain=true) (hl:args.length≤fn.ntmps) (hreg:regsOk fn.ntmps c=true) (nx:Nat)
 (h:vc (Tri P) (ICall P) E fn.ntmps c (retQ E.T fn fun nx s v=>K nx v s.m) nx (st0 args m fn.ntmps)):ICall P f args m K:=by
 intro X φ w vs R0 hr
 have S:=start_rel (n:=fn.ntmps) R0 hr hp hl
 unfold Invk
 rw [callFunc_enter hf hb hn]
 simp only []
 refine calls_of_wp hf hb (Code.wp_mono ?_ (vc_sound HE hmix fn.ntmps c _ nx _ hreg h X _ _ w S))
 rintro e a' w' ⟨nx',s',φ',q,R',st⟩
 have key:retQ E.T fn (fun nx s v=>K nx v s.m) .ret nx' s'→a'.defers=[]∧∃ v,(results fn a'.tmps).run P w' = .ok v w'∧∃ v',Ending.returned v = .returned v'∧∃ nx r m' φ',K nx r m'∧RelM X φ' m' w'∧RL (Wr X φ' m') φ' w' [v'] [r]∧Stp X φ m w φ' m' w':=by
  intro q
  simp only [retQ] at q
  split at q
  · rename_i p vs' hv
    obtain ⟨hp',hk⟩:=q
    obtain ⟨u,k1,k2⟩:=results_sound HE.ty R' hv hp'
    exact ⟨R'.df,u,k1,u,rfl,nx',_,s'.m,φ',hk,R'.mem,k2,st⟩
  · exact q.elim
 cases e with
 | normal=>exact key q
 | ret=>exact key q
 | _=>exact q.elim
theorem CSpec.args {f args args' r} (h:CSpec P f args' r) (ha:∀ X φ w vs,RL X φ w vs args→RL X φ w vs args'):CSpec P f args r :=
 fun X φ w vs hX hr=>h X φ w vs hX (ha X φ w vs hr)
end
end Go.Proofs.Ytapddfjimhohcaa.AM
