/- Arguments that are rows of strings, rows in rows too: how long they are. -/
import Derived.Test.YtapddfjimhohcaaGreatDoorB9
namespace Go.Proofs.YtapddfjimhohcaaGreatDoor.AM
set_option linter.all false
set_option autoImplicit true
set_option relaxedAutoImplicit true
open Go Go.Proofs
mutual
def Sha.ss:Sha→Bool
 | .str=>true
 | .row l=>ssL l
 | _=>false
def ssL:List Sha→Bool
 | []=>true
 | s::l=>s.ss && ssL l
end
section
variable {H:Type} {enc:TypeId × Value→H} {P:Program} {w:World} {B:Nat}
theorem map_app {ss tt:List ByteArray} {a b:List Value} (h:a=ss.map .string) (h':b=tt.map .string):a++b=(ss++tt).map .string:=by rw [h,h',List.map_append]
mutual
theorem Sha.rlw:∀ (sp:Sha) (t:TypeId),sp.ss=true→sp.chk P t=true→∀ fuel cs x,DataW.trod enc P w 0 (fun _=>true) true fuel t cs=some x→(x.1.weights P t).all (fun x=>decide (x≤B))=true→∃ ss:List ByteArray,ss.length=sp.width∧(∀ s ∈ ss,s.size≤B)∧cs=ss.map .string
 | .bool,_,h,_,_,_,_,_,_=>by simp [Sha.ss] at h
 | .int _,_,h,_,_,_,_,_,_=>by simp [Sha.ss] at h
 | .slice _,_,h,_,_,_,_,_,_=>by simp [Sha.ss] at h
 | .str,t,_,hc,fuel,cs,x,h,hw=>by
   have ht:P.underlying t=some .string:=by simp only [Sha.chk] at hc; split at hc<;>simp_all
   obtain ⟨s,rfl,e2⟩:=trod_str ht h
   rw [e2] at hw
   simp only [DataW.weights,List.all_cons,List.all_nil,Bool.and_true,decide_eq_true_eq] at hw
   exact ⟨[s],rfl,fun z hz=>by rw [List.mem_singleton.1 hz]; simpa using hw,rfl⟩
 | .row l,t,hs,hc,fuel,cs,x,h,hw=>by
   simp only [Sha.chk,Bool.and_eq_true,beq_iff_eq] at hc
   simp only [Sha.ss] at hs
   obtain ⟨hwd,hc⟩:=hc
   split at hc
   · rename_i fs hu
     obtain ⟨xs,n,_,rfl,hl,hx,hall⟩:=DataW.trod_struct hu h
     simp only [DataW.weights,hu] at hw
     obtain ⟨ss,k1,k2,k3⟩:=rlwF l fs.toList 0 hs hc n cs xs (fun i f hf=>hall i f (by simpa using hf)) (by simpa using hx) (by rw [hl,hwd]; omega) hw
     exact ⟨ss,by simpa [Sha.width] using k1,k2,by simpa using k3⟩
   · rename_i n u hu
     simp only [Bool.and_eq_true,beq_iff_eq] at hc
     obtain ⟨xs,m,_,rfl,hl,hx,hall⟩:=DataW.trod_array hu h
     simp only [DataW.weights,hu] at hw
     obtain ⟨ss,k1,k2,k3⟩:=rlwA l u (P.cellsOf u) hs hc.2 m cs xs 0 0 (Nat.zero_mul _).symm (fun i hi=>by
      rw [Nat.zero_add]; exact hall i (by omega)) (by rw [hx,hc.1]) (by rw [hl,hwd]; omega) hw
     exact ⟨ss,by simpa [Sha.width] using k1,k2,by simpa using k3⟩
   · simp at hc
theorem rlwF:∀ (l:List Sha) (fs:List Field) (o:Nat),ssL l=true→chkF P l fs o=true→∀ (n:Nat) (cs:List Value) (xs:List (DataW H × List MemPlace)),(∀ (i:Nat) (f:Field),fs[i]? = some f→DataW.trod enc P w 0 (fun _=>true) true n f.type ((cs.drop f.offset).take (P.cellsOf f.type))=xs[i]?)→xs.length=fs.length→cs.length=o+widthL l→(DataW.weightsEach P (fs.map (·.type)) (xs.map (·.1))).all (fun x=>decide (x≤B))=true→∃ ss:List ByteArray,ss.length=widthL l∧(∀ s ∈ ss,s.size≤B)∧cs.drop o=ss.map .string
 | [],[],o,_,_,n,cs,_,_,_,hl,_=>⟨[],rfl,by simp,by rw [List.drop_of_length_le (by simp [widthL] at hl; omega)]; rfl⟩
 | [],_::_,_,_,hc,_,_,_,_,_,_,_=>by simp [chkF] at hc
 | _::_,[],_,_,hc,_,_,_,_,_,_,_=>by simp [chkF] at hc
 | s::l,f::fs,o,hs,hc,n,cs,xs,hall,hx,hl,hw=>by
   simp only [chkF,Bool.and_eq_true,beq_iff_eq] at hc
   simp only [ssL,Bool.and_eq_true] at hs
   obtain ⟨⟨⟨h1,h2⟩,h3⟩,h4⟩:=hc
   simp only [widthL] at hl
   match xs,hx with
   | y::ys,hx =>
     have hy:=hall 0 f rfl
     simp only [List.getElem?_cons_zero] at hy
     simp only [List.map_cons,DataW.weightsEach,List.all_append,Bool.and_eq_true] at hw
     obtain ⟨a,a1,a2,a3⟩:=Sha.rlw s f.type hs.1 h3 _ _ _ hy hw.1
     obtain ⟨b,b1,b2,b3⟩:=rlwF l fs (o+s.width) hs.2 h4 n cs ys (fun i g hg=>by simpa using hall (i+1) g (by simpa using hg)) (by simpa using hx) (by omega) hw.2
     refine ⟨a++b,by simp [widthL,a1,b1],fun z hz=>?_,?_⟩
     · rcases List.mem_append.1 hz with hz|hz
       · exact a2 z hz
       · exact b2 z hz
     · rw [cut_app (k:=s.width) (by omega)]
       rw [h1,h2] at a3
       exact map_app a3 b3
theorem rlwA:∀ (l:List Sha) (u:TypeId) (c:Nat),ssL l=true→chkA P l u c=true→∀ (n:Nat) (cs:List Value) (xs:List (DataW H × List MemPlace)) (j o:Nat),o=j*c→(∀ i,i<l.length→DataW.trod enc P w 0 (fun _=>true) true n u ((cs.drop ((j+i)*c)).take c)=xs[i]?)→xs.length=l.length→cs.length=o+widthL l→(DataW.weightsAll P u (xs.map (·.1))).all (fun x=>decide (x≤B))=true→∃ ss:List ByteArray,ss.length=widthL l∧(∀ s ∈ ss,s.size≤B)∧cs.drop o=ss.map .string
 | [],_,_,_,_,_,cs,_,_,o,_,_,_,hl,_=>⟨[],rfl,by simp,by rw [List.drop_of_length_le (by simp [widthL] at hl; omega)]; rfl⟩
 | s::l,u,c,hs,hc,n,cs,xs,j,o,ho,hall,hx,hl,hw=>by
   simp only [chkA,Bool.and_eq_true,beq_iff_eq] at hc
   simp only [ssL,Bool.and_eq_true] at hs
   obtain ⟨⟨h1,h2⟩,h3⟩:=hc
   simp only [widthL] at hl
   match xs,hx with
   | y::ys,hx =>
     have hy:=hall 0 (by simp)
     simp only [List.getElem?_cons_zero] at hy
     simp only [List.map_cons,DataW.weightsAll,List.all_append,Bool.and_eq_true] at hw
     obtain ⟨a,a1,a2,a3⟩:=Sha.rlw s u hs.1 h2 _ _ _ hy hw.1
     obtain ⟨b,b1,b2,b3⟩:=rlwA l u c hs.2 h3 n cs ys (j+1) (o+c) (by rw [ho,Nat.succ_mul]) (fun i hi=>by
      have:=hall (i+1) (by simp; omega)
      rw [show j+(i+1)=j+1+i by omega] at this
      simpa using this) (by simpa using hx) (by omega) hw.2
     refine ⟨a++b,by simp [widthL,a1,b1],fun z hz=>?_,?_⟩
     · rcases List.mem_append.1 hz with hz|hz
       · exact a2 z hz
       · exact b2 z hz
     · rw [cut_app (k:=c) (by omega)]
       rw [Nat.add_zero,← ho] at a3
       exact map_app a3 b3
end
theorem rl_strs (ss:List ByteArray):RL0 w (ss.map Value.string) (ss.map AV.str):=by
 induction ss with
 | nil=>exact .nil
 | cons s ss ih=>exact .str _ ih
theorem arg_ss {l:List Sha} {t:TypeId} (hs:ssL l=true) (hc:(Sha.row l).chk P t=true) {v:Value} {d:DataW H} {ps:List MemPlace} {b:Nat} (h:DataW.Trod enc P w 0 (fun _=>true) true t v d ps) (hv:Value.okWide P w .any b t v) (hw:(d.weights P t).all (fun x=>decide (x≤B))=true):∃ ss:List ByteArray,ss.length=widthL l∧(∀ s ∈ ss,s.size≤B)∧RL0 w [v] [.agg (ss.map .str)]:=by
 obtain ⟨fuel,h⟩:=h
 obtain ⟨ss,h1,h2,h3⟩:=Sha.rlw (.row l) t hs hc fuel _ _ h hw
 have:∃ cs,v = .agg cs:=by
  simp only [Sha.chk,Bool.and_eq_true] at hc
  unfold Value.okWide at hv
  have hc:=hc.2
  split at hc
  · rename_i fs hu; rw [hu] at hv; exact ⟨_,hv.choose_spec.1⟩
  · rename_i n u hu; rw [hu] at hv; exact ⟨_,hv.choose_spec.1⟩
  · simp at hc
 obtain ⟨cs,rfl⟩:=this
 refine ⟨ss,by simpa [Sha.width] using h1,h2,?_⟩
 have h3':cs.toList=ss.map Value.string:=by simpa [Value.cells] using h3
 simpa using RL.agg (cs:=cs.toList) (by rw [h3']; exact rl_strs ss) .nil
end
end Go.Proofs.YtapddfjimhohcaaGreatDoor.AM
