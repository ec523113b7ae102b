/- Ranks: the document's. -/
import Derived.Test.YtapddfjimhohcaaGreatDoorB8
import Derived.Test.YtapddfjimhohcaaGreatDoorB3
import Derived.Test.YtapddfjimhohcaaGreatDoorB7
namespace Go.Proofs.YtapddfjimhohcaaGreatDoor.AM
set_option linter.all false
set_option autoImplicit true
set_option relaxedAutoImplicit true
open Go Go.Proofs
set_option maxRecDepth 100000
set_option maxHeartbeats 8000000
set_option linter.unusedSimpArgs false
variable {P:Program}
theorem cr_swap (a b:V3):vcr a b=vsc (-1) (vcr b a):=by unfold vsc vcr; refine v3_ext ?_ ?_ ?_<;>(simp only []; grind)
theorem cr_swap0 {a b:V3} (h:vcr a b=v0):vcr b a=v0:=by rw [cr_swap,h]; exact sc_v0 _
theorem cr_same (a:V3):vcr a a=v0:=by unfold vcr v0; refine v3_ext ?_ ?_ ?_<;>(simp only []; grind)
theorem dt_swap (a b:V3):vdt a b=vdt b a:=by unfold vdt; grind
theorem dt_zl (b:V3):vdt v0 b=0:=by unfold vdt v0; simp only []; grind
def J1 (l:List V3) (n:Nat):Prop:=n≤2∧(1≤n→∃ a ∈ l,a ≠ v0)∧(2≤n→∃ a ∈ l,∃ b ∈ l,vcr a b ≠ v0)
def J2 (l p:List V3) (n:Nat):Prop:=(n=0→∀ a ∈ p,a=v0)∧(n≤1→∀ a ∈ p,∀ b ∈ p,vcr a b=v0)∧∀ a ∈ p,∀ b ∈ p,vcr a b ≠ v0→∀ c ∈ l,vdt (vcr a b) c=0
def J3 (l p:List V3) (a:V3) (n:Nat):Prop:=(n=0→a=v0)∧(n≤1→∀ b ∈ p,vcr a b=v0)∧∀ b ∈ p,vcr a b ≠ v0→∀ c ∈ l,vdt (vcr a b) c=0
theorem J_end {l:List V3} {n:Nat} (h1:J1 l n) (h2:J2 l l n):Rk l n:=by
 obtain ⟨a1,a2,a3⟩:=h1
 obtain ⟨b1,b2,b3⟩:=h2
 rcases (show n=0∨n=1∨n=2 by omega) with rfl|rfl|rfl
 · exact .inl ⟨rfl,b1 rfl⟩
 · exact .inr (.inl ⟨rfl,a2 (by decide),b2 (by decide)⟩)
 · refine .inr (.inr (.inl ⟨rfl,a3 (by decide),fun a ha b hb c hc=>?_⟩))
   unfold vdet
   by_cases h:vcr b c=v0
   · rw [h,dt_swap]; exact dt_zl a
   · rw [dt_swap]; exact b3 b hb c hc h a ha
theorem J2_nil (l n):J2 l [] n:=⟨fun _ _ h=>by simp at h,fun _ _ h=>by simp at h,fun _ h=>by simp at h⟩
theorem J2_up {l p:List V3} {n m:Nat} (hm:n≤m) (h:J2 l p n):J2 l p m:=⟨fun e=>h.1 (by omega),fun e=>h.2.1 (by omega),h.2.2⟩
theorem J2_snoc {l p:List V3} {a:V3} {n:Nat} (h:J2 l p n) (k:J3 l p a n):J2 l (p++[a]) n:=by
 obtain ⟨h1,h2,h3⟩:=h
 obtain ⟨k1,k2,k3⟩:=k
 have neg:∀ x:V3,∀ c,vdt (vcr a x) c=0→vdt (vcr x a) c=0:=fun x c e=>by
  rw [cr_swap,dt_swap,dt_sc,dt_swap,e,Rat.mul_zero]
 refine ⟨fun e x hx=>?_,fun e x hx y hy=>?_,fun x hx y hy hn c hc=>?_⟩
 · rcases List.mem_append.1 hx with hx|hx
   · exact h1 e x hx
   · rw [List.mem_singleton.1 hx]; exact k1 e
 · rcases List.mem_append.1 hx with hx|hx
   · rcases List.mem_append.1 hy with hy|hy
     · exact h2 e x hx y hy
     · rw [List.mem_singleton.1 hy]; exact cr_swap0 (k2 e x hx)
   · rw [List.mem_singleton.1 hx]
     rcases List.mem_append.1 hy with hy|hy
     · exact k2 e y hy
     · rw [List.mem_singleton.1 hy]; exact cr_same a
 · rcases List.mem_append.1 hx with hx|hx
   · rcases List.mem_append.1 hy with hy|hy
     · exact h3 x hx y hy hn c hc
     · rw [List.mem_singleton.1 hy] at hn ⊢
       exact neg x c (k3 x hx (fun e=>hn (cr_swap0 e)) c hc)
   · rw [List.mem_singleton.1 hx] at hn ⊢
     rcases List.mem_append.1 hy with hy|hy
     · exact k3 y hy hn c hc
     · rw [List.mem_singleton.1 hy] at hn ⊢
       exact absurd (cr_same a) hn
theorem J3_nil {l:List V3} {a:V3} {n:Nat} (h:n=0→a=v0):J3 l [] a n:=⟨h,fun _ _ h=>by simp at h,fun _ h=>by simp at h⟩
theorem J3_zero {l p:List V3} {a b:V3} {n:Nat} (h:J3 l p a n) (hb:vcr a b=v0):J3 l (p++[b]) a n:=by
 obtain ⟨h1,h2,h3⟩:=h
 refine ⟨h1,fun e x hx=>?_,fun x hx hn=>?_⟩
 · rcases List.mem_append.1 hx with hx|hx
   · exact h2 e x hx
   · rw [List.mem_singleton.1 hx]; exact hb
 · rcases List.mem_append.1 hx with hx|hx
   · exact h3 x hx hn
   · rw [List.mem_singleton.1 hx] at hn; exact absurd hb hn
theorem J3_two {l p:List V3} {a b:V3} {n:Nat} (h:J3 l p a n) (hb:∀ c ∈ l,vdt (vcr a b) c=0):J3 l (p++[b]) a 2:=by
 obtain ⟨h1,h2,h3⟩:=h
 refine ⟨fun e=>by omega,fun e=>by omega,fun x hx hn=>?_⟩
 rcases List.mem_append.1 hx with hx|hx
 · exact h3 x hx hn
 · rw [List.mem_singleton.1 hx]; exact hb
def cW (a:V3):List AV:=[.opq (.rfrac (a.1)),.pad,.pad,.opq (.rfrac (a.2.1)),.pad,.pad,.opq (.rfrac (a.2.2)),.pad,.pad]
theorem fz_cW (a:V3):∀ x ∈ cW a,∀ m j,fzC m j x∧fzV m j x=x:=by
 intro x hx m j
 simp only [cW,List.mem_cons,List.not_mem_nil,or_false] at hx
 rcases hx with rfl|rfl|rfl|rfl|rfl|rfl|rfl|rfl|rfl<;>cases j<;>exact ⟨trivial,rfl⟩
instance:Wd cW 9:=⟨fun _=>rfl,by decide,fun _=>rfl,fun _=>rfl,fun _ _=>rfl,fun m j z=>(fz_flat (fz_cW z)).1 m j,fun m j z=>(fz_flat (fz_cW z)).2 m j⟩
theorem vcq_vcr (a b:V3):vcq a b=vcr a b:=by unfold vcq vcr; simp only [qsub_eq,qmul_eq]
theorem qdt_vdt (a b:V3):qdt a b=vdt a b:=by unfold qdt vdt; simp only [qadd_eq,qmul_eq]
theorem mx1 (n:Nat):(if n<1 then (1:Int) else (n:Int))=((max n 1:Nat):Int):=by split<;>omega
theorem mx2 {n:Nat} (h:n≤2):(if n<2 then (2:Int) else (n:Int))=((2:Nat):Int):=by split<;>omega
theorem J1_up {l:List V3} {a:V3} {n:Nat} (ha:a ∈ l) (hz:a ≠ v0) (h:J1 l n):J1 l (max n 1):=by
 obtain ⟨h1,h2,h3⟩:=h
 exact ⟨by omega,fun _=>⟨a,ha,hz⟩,fun e=>h3 (by omega)⟩
theorem J1_two {l:List V3} {a b:V3} (ha:a ∈ l) (hb:b ∈ l) (h:vcr a b ≠ v0):J1 l 2:=⟨by decide,fun _=>⟨a,ha,cr_nz h⟩,fun _=>⟨a,ha,b,hb,h⟩⟩
theorem rvRank_spec (hP:PrgOk P) (l:List V3) (hl:l.length≤1000000) (hb:∀ a ∈ l,fV a 2097152):CSpec P 49 [.imm l.length (cl cW l)] (.int .i64 (rkN l:Nat)):=by
 have HE:=Xt1_all hP TF hP.tF
 have hgo:groundL [.imm l.length (cl cW l)]=true:=by simp only [groundL,onlyL,AV.only,cl_only,Bool.and_true]
 refine CSpec_vc (E:=⟨TF,Xt1⟩) (fn49 hP) HE hP.mix rfl hgo rfl (Nat.le_of_ble_eq_true rfl) ?_
 have hro:∀ f,(AV.imm l.length (cl cW l)).only f=true:=fun f=>by simp only [AV.only,cl_only]
 have hget:∀ i (h:i<l.length),∃ a,a ∈ l∧l.take (i+1)=l.take i++[a]∧fV a 2097152∧(cl cW l).drop (i*9)=[.opq (.rfrac (a.1)),.pad,.pad,.opq (.rfrac (a.2.1)),.pad,.pad,.opq (.rfrac (a.2.2)),.pad,.pad]++cl cW (l.drop (i+1)):=fun i h=>by
  refine ⟨l[i],List.getElem_mem h,?_,hb _ (List.getElem_mem h),?_⟩
  · rw [List.take_add_one,List.getElem?_eq_getElem h]; rfl
  · rw [cl_drop,List.drop_eq_getElem_cons h,cl_cons]; rfl
 have hlen:∀ i,(cl cW (l.drop (i+1))).length=(l.length-(i+1))*9:=fun i=>by rw [cl_len,List.length_drop]
 have hh:∀ i,AV.head (cl cW (l.drop (i+1)))=true:=fun i=>cl_head
 simp only [go_sem]
 refine trX_loopV HE hP.mix (fun _:Nat × Nat=>[]) (fun x=>⟨upd (upd (upd (fun _=>.junk) 0 (.imm l.length (cl cW l))) 3 (.int .i64 (x.1:Int))) 4 (.int .i64 (x.2:Int)),fun _=>.unused,55⟩) (fun x=>x.2≤l.length∧J1 l x.1∧J2 l (l.take x.2) x.1) (fun x=>l.length-x.2) (0,0) (fun _=>100) (fun _ _ h=>absurd rfl h) ?_ ⟨Nat.zero_le _,⟨by decide,fun h=>absurd h (by decide),fun h=>absurd h (by decide)⟩,J2_nil _ _⟩ 55 (by kernel_rfl) ?_
 · exact Kept.of rfl (by repeat (first|exact KT.nil|refine KT.upd rfl (by first|rfl|exact hro _) ?_)) (KM.p .nil)
 rintro ⟨n,i⟩ ⟨hi,h1,h2⟩
 simp only [] at hi h1 h2
 by_cases h:i<l.length
 · obtain ⟨a,ha,ht,hba,hd⟩:=hget i h
   have hl0:=hlen i
   have hh0:=hh i
   have h9:i*9≤l.length*9:=by omega
   have hba1:=fV_mono hba (show 2097152≤268435456 by decide)
   obtain ⟨A1,A2,A3⟩:=hba1
   by_cases hz:a=v0
   · have hz':decide (((a.1,a.2.1,a.2.2):V3)=v0)=true:=decide_eq_true hz
     simp only [go_sem,h,hd,hl0,hh0,cl_len,h9,hz']
     have k1:=h1
     have k2:=h2
     have k3:n=0→a=v0:=fun _=>hz
     refine trX_loopV HE hP.mix (fun _:Nat × Nat=>[]) (fun x=>⟨upd (upd (upd (upd (fun _=>.junk) 0 (.imm l.length (cl cW l))) 3 (.int .i64 (x.1:Int))) 4 (.int .i64 (i:Int))) 5 (.int .i64 (x.2:Int)),fun _=>.unused,55⟩) (fun x=>x.2≤i∧J1 l x.1∧J2 l (l.take i) x.1∧J3 l (l.take x.2) a x.1) (fun x=>i-x.2) (n,0) (fun _=>200) (fun _ _ h=>absurd rfl h) (Kept.of rfl (by repeat (first|exact KT.nil|refine KT.upd rfl (by first|rfl|exact hro _|simp [AV.only]) ?_)) (KM.p KMp.nil)) ⟨Nat.zero_le _,k1,k2,J3_nil k3⟩ 55 (by kernel_rfl) ?_
     rintro ⟨m,j⟩ ⟨hj,j1,j2,j3⟩
     simp only [] at hj j1 j2 j3
     by_cases hji:j<i
     · obtain ⟨b,hbl,htb,hbb,hdb⟩:=hget j (by omega)
       have hl1:=hlen j
       have hh1:=hh j
       have h9j:j*9≤l.length*9:=by omega
       obtain ⟨B1,B2,B3⟩:=fV_mono hbb (show 2097152≤268435456 by decide)
       have hjl:j<l.length:=by omega
       have hwj:=wi_add1 j (by omega)
       by_cases hc:vcr a b=v0
       · have hc':decide ((((vcq a b).1,(vcq a b).2.1,(vcq a b).2.2):V3)=v0)=true:=decide_eq_true (by rw [vcq_vcr]; exact hc)
         simp only [go_sem,h,hji,hjl,hd,hl0,hh0,hdb,hl1,hh1,cl_len,h9,h9j,A1,A2,A3,B1,B2,B3,hc',hwj]
         exact ⟨(m,j+1),Kept.of rfl (by repeat (first|exact KT.nil|refine KT.upd rfl (by first|rfl|exact hro _|simp [AV.only]) ?_)) (KM.p KMp.nil),⟨hji,j1,j2,by show J3 l (l.take (j+1)) a m; rw [htb]; exact J3_zero j3 hc⟩,by show i-(j+1)<i-j; omega⟩
       · have hc':decide ((((vcq a b).1,(vcq a b).2.1,(vcq a b).2.2):V3)=v0)=false:=decide_eq_false (by rw [vcq_vcr]; exact hc)
         have hm2:=j1.1
         simp only [go_sem,h,hji,hjl,hd,hl0,hh0,hdb,hl1,hh1,cl_len,h9,h9j,A1,A2,A3,B1,B2,B3,hc',mx2 hm2]
         obtain ⟨D1,D2,D3⟩:=fV_mono (vcq_fl hba hbb) (show _≤67108864 by decide)
         refine trX_loopV HE hP.mix (fun _:Nat=>[212]) (fun y=>⟨upd (upd (upd (upd (upd (upd (fun _=>.junk) 0 (.imm l.length (cl cW l))) 3 (.int .i64 ((2:Nat):Int))) 4 (.int .i64 (i:Int))) 5 (.int .i64 (j:Int))) 6 (.ref 212 0)) 7 (.int .i64 (y:Int)),upd (fun _=>.unused) 212 (.live [.opq (.rfrac ((vcq a b).1)),.pad,.pad,.opq (.rfrac ((vcq a b).2.1)),.pad,.pad,.opq (.rfrac ((vcq a b).2.2)),.pad,.pad]),55⟩) (fun y=>y≤l.length∧∀ c ∈ l.take y,vdt (vcr a b) c=0) (fun y=>l.length-y) 0 (fun _=>300) (fun _=>Has.upd rfl (Has.upd rfl Has.nil)) (Kept.of rfl (by repeat (first|exact KT.nil|refine KT.upd rfl (by first|rfl|exact hro _|simp [AV.only]) ?_)) (by refine KM.p (KMp.upd ?_ ?_ KMp.nil)<;>rfl)) ⟨Nat.zero_le _,fun c hc=>by simp at hc⟩ 55 (by kernel_rfl) ?_
         rintro y ⟨hy,hall⟩
         by_cases hyl:y<l.length
         · obtain ⟨c,hcl,htc,hbc,hdc⟩:=hget y hyl
           have hl2:=hlen y
           have hh2:=hh y
           have h9y:y*9≤l.length*9:=by omega
           obtain ⟨E1,E2,E3⟩:=fV_mono hbc (show 2097152≤67108864 by decide)
           have hwy:=wi_add1 y (by omega)
           have hq:qdt ((vcq a b).1,(vcq a b).2.1,(vcq a b).2.2) (c.1,c.2.1,c.2.2)=vdt (vcr a b) c:=by rw [qdt_vdt,← vcq_vcr]
           by_cases hd0:vdt (vcr a b) c=0
           · have hq0:(cmpQ (qdt ((vcq a b).1,(vcq a b).2.1,(vcq a b).2.2) (c.1,c.2.1,c.2.2)) 0 != 0)=false:=by rw [hq,hd0,cmpQ_self]; rfl
             simp only [go_sem,hyl,hdc,hl2,hh2,cl_len,h9y,D1,D2,D3,E1,E2,E3,hq0,hwy]
             exact ⟨y+1,Kept.of rfl (by repeat (first|exact KT.nil|refine KT.upd rfl (by first|rfl|exact hro _|simp [AV.only]) ?_)) (by refine KM.p (KMp.upd ?_ ?_ KMp.nil)<;>rfl),⟨hyl,fun c' hc'=>by
              rw [htc] at hc'
              rcases List.mem_append.1 hc' with hc'|hc'
              · exact hall c' hc'
              · rw [List.mem_singleton.1 hc']; exact hd0⟩,by show l.length-(y+1)<l.length-y; omega⟩
           · have hq0:(cmpQ (qdt ((vcq a b).1,(vcq a b).2.1,(vcq a b).2.2) (c.1,c.2.1,c.2.2)) 0 != 0)=true:=by
              rw [hq]
              have:=cmpQ_z (vdt (vcr a b) c) 0
              rw [decide_eq_false hd0] at this
              simp only [bne,this]; rfl
             simp only [go_sem,hyl,hdc,hl2,hh2,cl_len,h9y,D1,D2,D3,E1,E2,E3,hq0,hwy]
             have h3:Rk l 3:=.inr (.inr (.inr ⟨rfl,c,hcl,a,ha,b,hbl,fun e=>hd0 (by rw [dt_swap]; exact e)⟩))
             rw [← h3.uniq (rkN_ok l)]
             exact .refl _
         · have hyi:l.take y=l:=List.take_of_length_le (by omega)
           rw [hyi] at hall
           simp only [go_sem,hyl,hwj]
           exact ⟨(2,j+1),Kept.of rfl (by repeat (first|exact KT.nil|refine KT.upd rfl (by first|rfl|exact hro _|simp [AV.only]) ?_)) (KM.p KMp.nil),⟨hji,J1_two ha hbl hc,J2_up hm2 j2,by show J3 l (l.take (j+1)) a 2; rw [htb]; exact J3_two j3 hall⟩,by show i-(j+1)<i-j; omega⟩
     · have hji':j=i:=by omega
       subst hji'
       have hwi:=wi_add1 j (by omega)
       simp only [go_sem,hji,hwi]
       exact ⟨(m,j+1),Kept.of rfl (by repeat (first|exact KT.nil|refine KT.upd rfl (by first|rfl|exact hro _|simp [AV.only]) ?_)) (KM.p KMp.nil),⟨h,j1,by show J2 l (l.take (j+1)) m; rw [ht]; exact J2_snoc j2 j3⟩,by show l.length-(j+1)<l.length-j; omega⟩
   · have hz':decide (((a.1,a.2.1,a.2.2):V3)=v0)=false:=decide_eq_false hz
     simp only [go_sem,h,hd,hl0,hh0,cl_len,h9,hz',mx1]
     have k1:=J1_up ha hz h1
     have k2:=J2_up (Nat.le_max_left n 1) h2
     have k3:max n 1=0→a=v0:=fun e=>by omega
     refine trX_loopV HE hP.mix (fun _:Nat × Nat=>[]) (fun x=>⟨upd (upd (upd (upd (fun _=>.junk) 0 (.imm l.length (cl cW l))) 3 (.int .i64 (x.1:Int))) 4 (.int .i64 (i:Int))) 5 (.int .i64 (x.2:Int)),fun _=>.unused,55⟩) (fun x=>x.2≤i∧J1 l x.1∧J2 l (l.take i) x.1∧J3 l (l.take x.2) a x.1) (fun x=>i-x.2) (max n 1,0) (fun _=>200) (fun _ _ h=>absurd rfl h) (Kept.of rfl (by repeat (first|exact KT.nil|refine KT.upd rfl (by first|rfl|exact hro _|simp [AV.only]) ?_)) (KM.p KMp.nil)) ⟨Nat.zero_le _,k1,k2,J3_nil k3⟩ 55 (by kernel_rfl) ?_
     rintro ⟨m,j⟩ ⟨hj,j1,j2,j3⟩
     simp only [] at hj j1 j2 j3
     by_cases hji:j<i
     · obtain ⟨b,hbl,htb,hbb,hdb⟩:=hget j (by omega)
       have hl1:=hlen j
       have hh1:=hh j
       have h9j:j*9≤l.length*9:=by omega
       obtain ⟨B1,B2,B3⟩:=fV_mono hbb (show 2097152≤268435456 by decide)
       have hjl:j<l.length:=by omega
       have hwj:=wi_add1 j (by omega)
       by_cases hc:vcr a b=v0
       · have hc':decide ((((vcq a b).1,(vcq a b).2.1,(vcq a b).2.2):V3)=v0)=true:=decide_eq_true (by rw [vcq_vcr]; exact hc)
         simp only [go_sem,h,hji,hjl,hd,hl0,hh0,hdb,hl1,hh1,cl_len,h9,h9j,A1,A2,A3,B1,B2,B3,hc',hwj]
         exact ⟨(m,j+1),Kept.of rfl (by repeat (first|exact KT.nil|refine KT.upd rfl (by first|rfl|exact hro _|simp [AV.only]) ?_)) (KM.p KMp.nil),⟨hji,j1,j2,by show J3 l (l.take (j+1)) a m; rw [htb]; exact J3_zero j3 hc⟩,by show i-(j+1)<i-j; omega⟩
       · have hc':decide ((((vcq a b).1,(vcq a b).2.1,(vcq a b).2.2):V3)=v0)=false:=decide_eq_false (by rw [vcq_vcr]; exact hc)
         have hm2:=j1.1
         simp only [go_sem,h,hji,hjl,hd,hl0,hh0,hdb,hl1,hh1,cl_len,h9,h9j,A1,A2,A3,B1,B2,B3,hc',mx2 hm2]
         obtain ⟨D1,D2,D3⟩:=fV_mono (vcq_fl hba hbb) (show _≤67108864 by decide)
         refine trX_loopV HE hP.mix (fun _:Nat=>[212]) (fun y=>⟨upd (upd (upd (upd (upd (upd (fun _=>.junk) 0 (.imm l.length (cl cW l))) 3 (.int .i64 ((2:Nat):Int))) 4 (.int .i64 (i:Int))) 5 (.int .i64 (j:Int))) 6 (.ref 212 0)) 7 (.int .i64 (y:Int)),upd (fun _=>.unused) 212 (.live [.opq (.rfrac ((vcq a b).1)),.pad,.pad,.opq (.rfrac ((vcq a b).2.1)),.pad,.pad,.opq (.rfrac ((vcq a b).2.2)),.pad,.pad]),55⟩) (fun y=>y≤l.length∧∀ c ∈ l.take y,vdt (vcr a b) c=0) (fun y=>l.length-y) 0 (fun _=>300) (fun _=>Has.upd rfl (Has.upd rfl Has.nil)) (Kept.of rfl (by repeat (first|exact KT.nil|refine KT.upd rfl (by first|rfl|exact hro _|simp [AV.only]) ?_)) (by refine KM.p (KMp.upd ?_ ?_ KMp.nil)<;>rfl)) ⟨Nat.zero_le _,fun c hc=>by simp at hc⟩ 55 (by kernel_rfl) ?_
         rintro y ⟨hy,hall⟩
         by_cases hyl:y<l.length
         · obtain ⟨c,hcl,htc,hbc,hdc⟩:=hget y hyl
           have hl2:=hlen y
           have hh2:=hh y
           have h9y:y*9≤l.length*9:=by omega
           obtain ⟨E1,E2,E3⟩:=fV_mono hbc (show 2097152≤67108864 by decide)
           have hwy:=wi_add1 y (by omega)
           have hq:qdt ((vcq a b).1,(vcq a b).2.1,(vcq a b).2.2) (c.1,c.2.1,c.2.2)=vdt (vcr a b) c:=by rw [qdt_vdt,← vcq_vcr]
           by_cases hd0:vdt (vcr a b) c=0
           · have hq0:(cmpQ (qdt ((vcq a b).1,(vcq a b).2.1,(vcq a b).2.2) (c.1,c.2.1,c.2.2)) 0 != 0)=false:=by rw [hq,hd0,cmpQ_self]; rfl
             simp only [go_sem,hyl,hdc,hl2,hh2,cl_len,h9y,D1,D2,D3,E1,E2,E3,hq0,hwy]
             exact ⟨y+1,Kept.of rfl (by repeat (first|exact KT.nil|refine KT.upd rfl (by first|rfl|exact hro _|simp [AV.only]) ?_)) (by refine KM.p (KMp.upd ?_ ?_ KMp.nil)<;>rfl),⟨hyl,fun c' hc'=>by
              rw [htc] at hc'
              rcases List.mem_append.1 hc' with hc'|hc'
              · exact hall c' hc'
              · rw [List.mem_singleton.1 hc']; exact hd0⟩,by show l.length-(y+1)<l.length-y; omega⟩
           · have hq0:(cmpQ (qdt ((vcq a b).1,(vcq a b).2.1,(vcq a b).2.2) (c.1,c.2.1,c.2.2)) 0 != 0)=true:=by
              rw [hq]
              have:=cmpQ_z (vdt (vcr a b) c) 0
              rw [decide_eq_false hd0] at this
              simp only [bne,this]; rfl
             simp only [go_sem,hyl,hdc,hl2,hh2,cl_len,h9y,D1,D2,D3,E1,E2,E3,hq0,hwy]
             have h3:Rk l 3:=.inr (.inr (.inr ⟨rfl,c,hcl,a,ha,b,hbl,fun e=>hd0 (by rw [dt_swap]; exact e)⟩))
             rw [← h3.uniq (rkN_ok l)]
             exact .refl _
         · have hyi:l.take y=l:=List.take_of_length_le (by omega)
           rw [hyi] at hall
           simp only [go_sem,hyl,hwj]
           exact ⟨(2,j+1),Kept.of rfl (by repeat (first|exact KT.nil|refine KT.upd rfl (by first|rfl|exact hro _|simp [AV.only]) ?_)) (KM.p KMp.nil),⟨hji,J1_two ha hbl hc,J2_up hm2 j2,by show J3 l (l.take (j+1)) a 2; rw [htb]; exact J3_two j3 hall⟩,by show i-(j+1)<i-j; omega⟩
     · have hji':j=i:=by omega
       subst hji'
       have hwi:=wi_add1 j (by omega)
       simp only [go_sem,hji,hwi]
       exact ⟨(m,j+1),Kept.of rfl (by repeat (first|exact KT.nil|refine KT.upd rfl (by first|rfl|exact hro _|simp [AV.only]) ?_)) (KM.p KMp.nil),⟨h,j1,by show J2 l (l.take (j+1)) m; rw [ht]; exact J2_snoc j2 j3⟩,by show l.length-(j+1)<l.length-j; omega⟩
 · have hi':l.take i=l:=List.take_of_length_le (by omega)
   rw [hi'] at h2
   simp only [go_sem,h]
   rw [(J_end h1 h2).uniq (rkN_ok l)]
   exact .refl _
end Go.Proofs.YtapddfjimhohcaaGreatDoor.AM
/- Arguments that are rows of strings: how long they are. -/
namespace Go.Proofs.YtapddfjimhohcaaGreatDoor.AM
set_option linter.all false
set_option autoImplicit true
set_option relaxedAutoImplicit true
open Go Go.Proofs
def maxS:Nat:=140737488355328
theorem le_maxS {n:Nat} (h:n≤reachBytes):n≤maxS:=Nat.le_trans h (by decide)
section
variable {H:Type} {enc:TypeId × Value→H} {P:Program} {w:World}
theorem trod_str {t:TypeId} {cs:List Value} {x:DataW H × List MemPlace} {fuel:Nat} (ht:P.underlying t=some .string) (h:DataW.trod enc P w 0 (fun _=>true) true fuel t cs=some x):∃ s:ByteArray,cs=[.string s]∧x.1 = .lit (.string s.data.toList):=by
 cases fuel with
 | zero=>simp [DataW.trod] at h
 | succ n =>
   unfold DataW.trod at h
   rw [ht] at h
   split at h<;>simp_all
   rw [← h.2]
theorem strs_w {B:Nat}:∀ (fs:List Field) (o n:Nat) (cs:List Value) (ys:List (DataW H × List MemPlace)),chkF P (List.replicate fs.length .str) fs o=true→(∀ (i:Nat) (f:Field),fs[i]? = some f→DataW.trod enc P w 0 (fun _=>true) true n f.type ((cs.drop f.offset).take (P.cellsOf f.type))=ys[i]?)→ys.length=fs.length→cs.length=o+fs.length→(DataW.weightsEach P (fs.map (·.type)) (ys.map (·.1))).all (fun x=>decide (x≤B))=true→∃ ss:List ByteArray,ss.length=fs.length∧(∀ s ∈ ss,s.size≤B)∧RL0 w (cs.drop o) (ss.map .str)
 | [],o,n,cs,ys,_,_,_,hl,_=>⟨[],rfl,by simp,by rw [List.drop_of_length_le (by simp at hl; omega)]; exact .nil⟩
 | f::fs,o,n,cs,ys,hc,hall,hy,hl,hw=>by
   simp only [List.length_cons,List.replicate_succ,chkF,Bool.and_eq_true,beq_iff_eq] at hc
   obtain ⟨⟨⟨h1,h2⟩,h3⟩,h4⟩:=hc
   have ht:P.underlying f.type=some .string:=by simp only [Sha.chk] at h3; split at h3<;>simp_all
   match ys,hy with
   | y::ys,hy =>
     have hy0:=hall 0 f rfl
     simp only [List.getElem?_cons_zero] at hy0
     obtain ⟨s,e1,e2⟩:=trod_str ht hy0
     simp only [List.map_cons,DataW.weightsEach,e2,DataW.weights,List.all_append,Bool.and_eq_true,List.all_cons,List.all_nil,and_true,decide_eq_true_eq] at hw
     have hwd:(Sha.str).width=1:=rfl
     obtain ⟨ss,k1,k2,k3⟩:=strs_w fs (o+1) n cs ys (by rw [← hwd]; exact h4) (fun i g hg=>by simpa using hall (i+1) g (by simpa using hg)) (by simpa using hy) (by simp at hl; omega) hw.2
     refine ⟨s::ss,by simp [k1],fun z hz=>?_,?_⟩
     · rcases List.mem_cons.1 hz with rfl|hz
       · have:=hw.1
         simpa using this
       · exact k2 z hz
     · rw [cut_app (k:=1) (by simp at hl; omega)]
       rw [h1,h2,hwd] at e1
       rw [e1]
       exact (RL.str _ .nil).app k3
theorem arg_w {l:List Sha} {t:TypeId} {k:Nat} {B:Nat} (hk:l=List.replicate k .str) (hc:(Sha.row l).chk P t=true) {fs:Array Field} (hu:P.underlying t=some (.struct fs)) {v:Value} {d:DataW H} {ps:List MemPlace} {b:Nat} (h:DataW.Trod enc P w 0 (fun _=>true) true t v d ps) (hv:Value.okWide P w .any b t v) (hw:(d.weights P t).all (fun x=>decide (x≤B))=true):∃ ss:List ByteArray,ss.length=k∧(∀ s ∈ ss,s.size≤B)∧RL0 w [v] [.agg (ss.map .str)]:=by
 subst hk
 obtain ⟨fuel,h⟩:=h
 simp only [Sha.chk,Bool.and_eq_true,beq_iff_eq,hu] at hc
 obtain ⟨hwd,hc⟩:=hc
 obtain ⟨xs,n,_,hx,hl,hxl,hall⟩:=DataW.trod_struct hu h
 have wl:∀ k:Nat,widthL (List.replicate k .str)=k:=fun k=>by
  induction k with
  | zero=>rfl
  | succ k ih=>rw [List.replicate_succ]; simp only [widthL,ih]; show 1+k=k+1; omega
 have hlen:∀ (k:Nat) (gs:List Field) (o:Nat),chkF P (List.replicate k .str) gs o=true→gs.length=k:=fun k=>by
  induction k with
  | zero=>intro gs o hg; cases gs with
    | nil=>rfl
    | cons _ _=>simp [chkF] at hg
  | succ k ih =>
    intro gs o hg
    cases gs with
    | nil=>simp [List.replicate_succ,chkF] at hg
    | cons g gs =>
      rw [List.replicate_succ] at hg
      simp only [chkF,Bool.and_eq_true] at hg
      simp [ih gs _ hg.2]
 have hfl:=hlen k fs.toList 0 hc
 have hd:d = .agg (xs.map (·.1)):=congrArg Prod.fst hx
 rw [hd] at hw
 simp only [DataW.weights,hu] at hw
 have:=strs_w (enc:=enc) (w:=w) (B:=B) fs.toList 0 n v.cells.toList xs (by rw [hfl]; exact hc) (fun i f hf=>hall i f (by simpa using hf)) (by simpa using hxl) (by rw [hl,hwd,wl]; omega) hw
 obtain ⟨ss,k1,k2,k3⟩:=this
 have:∃ cs,v = .agg cs:=by
  unfold Value.okWide at hv
  rw [hu] at hv; exact ⟨_,hv.choose_spec.1⟩
 obtain ⟨cs,rfl⟩:=this
 exact ⟨ss,by rw [k1,hfl],k2,by simpa using RL.agg (cs:=cs.toList) (by simpa [Value.cells] using k3) .nil⟩
theorem arg_p {t:TypeId} {B:Nat} (hc:(Sha.row [.str,.str,.str]).chk P t=true) {fs:Array Field} (hu:P.underlying t=some (.struct fs)) {v:Value} {d:DataW H} {ps:List MemPlace} {b:Nat} (h:DataW.Trod enc P w 0 (fun _=>true) true t v d ps) (hv:Value.okWide P w .any b t v) (hw:(d.weights P t).all (fun x=>decide (x≤B))=true):∃ x y z:ByteArray,x.size≤B∧y.size≤B∧z.size≤B∧RL0 w [v] [.agg [.str x,.str y,.str z]]:=by
 obtain ⟨ss,h1,h2,h3⟩:=arg_w (k:=3) rfl hc hu h hv hw
 match ss,h1 with
 | [x,y,z],_=>exact ⟨x,y,z,h2 x (by simp),h2 y (by simp),h2 z (by simp),h3⟩
end
end Go.Proofs.YtapddfjimhohcaaGreatDoor.AM
/- The laws of vectors: their helpers. -/
namespace Go.Proofs.YtapddfjimhohcaaGreatDoor.AM
set_option linter.all false
set_option autoImplicit true
set_option relaxedAutoImplicit true
open Go Go.Proofs
set_option maxRecDepth 100000
set_option maxHeartbeats 8000000
set_option linter.unusedSimpArgs false
variable {P:Program}
def unV:List AV→Option (List V3)
 | []=>some []
 | .opq (.frac x) :: .pad :: .pad :: .pad :: .pad :: .opq (.frac y) :: .pad :: .pad :: .pad :: .pad :: .opq (.frac z) :: .pad :: .pad :: .pad :: .pad::t=>(unV t).map fun l=>(x,y,z)::l
 | _=>none
theorem unV_nil:unV []=some []:=rfl
theorem unV_cons (x y z t):unV (.opq (.frac x) :: .pad :: .pad :: .pad :: .pad :: .opq (.frac y) :: .pad :: .pad :: .pad :: .pad :: .opq (.frac z) :: .pad :: .pad :: .pad :: .pad::t)=(unV t).map fun l=>(x,y,z)::l:=Eq.trans rfl rfl
theorem unV_inv:∀ (cs:List AV) (l:List V3),unV cs=some l→cs=cl cV l:=by
 intro cs
 induction cs using unV.induct with
 | case1=>intro l h; simp only [unV_nil,Option.some.injEq] at h; subst h; rfl
 | case2 x y z t ih =>
   intro l h
   rw [unV_cons,Option.map_eq_some_iff] at h
   obtain ⟨k,h1,rfl⟩:=h
   rw [ih k h1,cl_cons]; rfl
 | case3 t h1 h2 =>
   intro l h
   unfold unV at h
   split at h
   · exact absurd rfl h1
   · exact absurd rfl (h2 _ _ _ _)
   · simp at h
def unX3:List AV→Option (List V3)
 | []=>some []
 | .opq (.rfrac x) :: .pad :: .pad :: .opq (.rfrac y) :: .pad :: .pad :: .opq (.rfrac z) :: .pad :: .pad::t=>(unX3 t).map fun l=>(x,y,z)::l
 | _=>none
theorem unX3_nil:unX3 []=some []:=rfl
theorem unX3_cons (x y z t):unX3 (.opq (.rfrac x) :: .pad :: .pad :: .opq (.rfrac y) :: .pad :: .pad :: .opq (.rfrac z) :: .pad :: .pad::t)=(unX3 t).map fun l=>(x,y,z)::l:=Eq.trans rfl rfl
theorem unX3_inv:∀ (cs:List AV) (l:List V3),unX3 cs=some l→cs=cl cW l:=by
 intro cs
 induction cs using unX3.induct with
 | case1=>intro l h; simp only [unX3_nil,Option.some.injEq] at h; subst h; rfl
 | case2 x y z t ih =>
   intro l h
   rw [unX3_cons,Option.map_eq_some_iff] at h
   obtain ⟨k,h1,rfl⟩:=h
   rw [ih k h1,cl_cons]; rfl
 | case3 t h1 h2 =>
   intro l h
   unfold unX3 at h
   split at h
   · exact absurd rfl h1
   · exact absurd rfl (h2 _ _ _ _)
   · simp at h
def fVs:List V3→Prop
 | []=>True
 | a::l=>fV a 65536∧fVs l
theorem fVs_all:∀ {l:List V3},fVs l→∀ a ∈ l,fV a 65536
 | _::_,h,_,ha=>by
   rcases List.mem_cons.1 ha with rfl|ha
   · exact h.1
   · exact fVs_all h.2 _ ha
theorem fVs_nil:fVs []=True:=rfl
theorem fVs_cons (a l):fVs (a::l)=(fV a 65536∧fVs l):=rfl
noncomputable def rankS (un:List AV→Option (List V3)):List AV→Option (Prop × AV)
 | [.imm n cs]=>(un cs).map fun l=>(n=l.length∧l.length≤1000000∧fVs l,.int .i64 (rkN l:Nat))
 | [.nils]=>some (True,.int .i64 (rkN []:Nat))
 | _=>none
theorem rankS_nil (un):rankS un [.nils]=some (True,.int .i64 (rkN []:Nat)):=rfl
theorem rankS_eq (un n cs):rankS un [.imm n cs]=(un cs).map fun l=>(n=l.length∧l.length≤1000000∧fVs l,.int .i64 (rkN l:Nat)):=rfl
theorem rankS_ok {f:Nat} {un:List AV→Option (List V3)} {c:V3→List AV} (hun:∀ cs l,un cs=some l→cs=cl c l) (h:∀ l:List V3,l.length≤1000000→(∀ a ∈ l,fV a 65536)→CSpec P f [.imm l.length (cl c l)] (.int .i64 (rkN l:Nat))) (args p r) (he:rankS un args=some (p,r)) (hp:p):CSpec P f args r:=by
 unfold rankS at he
 split at he
 · simp only [Option.map_eq_some_iff,Prod.mk.injEq] at he
   obtain ⟨l,h1,rfl,rfl⟩:=he
   rw [hun _ _ h1,hp.1]
   exact h l hp.2.1 (fVs_all hp.2.2)
 · simp only [Option.some.injEq,Prod.mk.injEq] at he
   obtain ⟨rfl,rfl⟩:=he
   exact (h [] (by decide) (fun a ha=>by simp at ha)).cv (CvL.nilR .nil)
 · simp at he
noncomputable def vRankS:List AV→Option (Prop × AV):=rankS unV
noncomputable def rvRankS:List AV→Option (Prop × AV):=rankS unX3
theorem vRankS_ok (hP:PrgOk P) (args p r):vRankS args=some (p,r)→p→CSpec P 92 args r:=rankS_ok unV_inv (vRank_spec hP) args p r
theorem rvRankS_ok (hP:PrgOk P) (args p r):rvRankS args=some (p,r)→p→CSpec P 49 args r:=rankS_ok unX3_inv (fun l hl hb=>rvRank_spec hP l hl fun a ha=>fV_mono (hb a ha) (by decide)) args p r
attribute [go_sem] vRankS rvRankS unV_nil unV_cons unX3_nil unX3_cons fVs_nil fVs_cons rankS_eq rankS_nil
noncomputable def Zt0:Nat→List AV→Option (Prop × AV):=addS (addS Yt2 92 vRankS) 49 rvRankS
theorem Zt0_all (hP:PrgOk P) (T) (hT:TyOk P T):EnvOk P ⟨T,Zt0⟩:=(((Yt2_all hP T hT).add (vRankS_ok hP)).add (rvRankS_ok hP))
theorem Zt0_at (f a):Zt0 f a=(addS (addS Yt2 92 vRankS) 49 rvRankS) f a:=rfl
attribute [go_sem] Zt0_at
theorem rvDet_spec (hP:PrgOk P) (a b c:V3) (ha:fV a 8388608) (hb:fV b 8388608) (hc:fV c 8388608):CSpec P 44 [(.agg [.opq (.rfrac (a.1)),.pad,.pad,.opq (.rfrac (a.2.1)),.pad,.pad,.opq (.rfrac (a.2.2)),.pad,.pad]),(.agg [.opq (.rfrac (b.1)),.pad,.pad,.opq (.rfrac (b.2.1)),.pad,.pad,.opq (.rfrac (b.2.2)),.pad,.pad]),(.agg [.opq (.rfrac (c.1)),.pad,.pad,.opq (.rfrac (c.2.1)),.pad,.pad,.opq (.rfrac (c.2.2)),.pad,.pad])] (.agg [.opq (.rfrac (qdt a (vcq b c))),.pad,.pad]):=by
 have HE:=Zt0_all hP TF hP.tF
 obtain ⟨a1,a2,a3⟩:=fV_mono ha (show _≤67108864 by decide)
 obtain ⟨b1,b2,b3⟩:=fV_mono hb (show _≤268435456 by decide)
 obtain ⟨c1,c2,c3⟩:=fV_mono hc (show _≤268435456 by decide)
 obtain ⟨d1,d2,d3⟩:=fV_mono (vcq_fl hb hc) (show _≤67108864 by decide)
 refine CSpec_go (E:=⟨TF,Zt0⟩) (fn44 hP) HE hP.mix ?_
 simp only [go_sem,a1,a2,a3,b1,b2,b3,c1,c2,c3,d1,d2,d3]
 exact fin_z
noncomputable def rvDetS:List AV→Option (Prop × AV)
 | [x,y,z]=>(rawX x).bind fun a=>(rawX y).bind fun b=>(rawX z).map fun c=>(fV a 8388608∧fV b 8388608∧fV c 8388608,(.agg [.opq (.rfrac (qdt a (vcq b c))),.pad,.pad]))
 | _=>none
theorem rvDetS_eq (x y z):rvDetS [x,y,z]=(rawX x).bind fun a=>(rawX y).bind fun b=>(rawX z).map fun c=>(fV a 8388608∧fV b 8388608∧fV c 8388608,(.agg [.opq (.rfrac (qdt a (vcq b c))),.pad,.pad])):=rfl
theorem rvDetS_ok (hP:PrgOk P) (args p r) (he:rvDetS args=some (p,r)) (hp:p):CSpec P 44 args r:=by
 unfold rvDetS at he
 split at he
 · simp only [Option.bind_eq_some_iff,Option.map_eq_some_iff,Prod.mk.injEq] at he
   obtain ⟨a,h1,b,h2,c,h3,rfl,rfl⟩:=he
   rw [rawX_inv h1,rawX_inv h2,rawX_inv h3]
   exact rvDet_spec hP a b c hp.1 hp.2.1 hp.2.2
 · simp at he
attribute [go_sem] rvDetS_eq
noncomputable def Zt1:Nat→List AV→Option (Prop × AV):=addS Zt0 44 rvDetS
theorem Zt1_all (hP:PrgOk P) (T) (hT:TyOk P T):EnvOk P ⟨T,Zt1⟩:=((Zt0_all hP T hT).add (rvDetS_ok hP))
theorem Zt1_at (f a):Zt1 f a=(addS Zt0 44 rvDetS) f a:=rfl
attribute [go_sem] Zt1_at
theorem eqAgg3 (t1 t2 t3:Nat × Nat) (sz b:Nat) (z1 z2 z3 a1 a2 a3 b1 b2 b3:ByteArray):eqAgg ⟨.struct [t1,t2,t3],sz,b,[.str z1,.str z2,.str z3]⟩ .eql [.str a1,.str a2,.str a3] [.str b1,.str b2,.str b3]=some (True,.bool ((a1.toList == b1.toList) && ((a2.toList == b2.toList) && ((a3.toList == b3.toList) && true)))):=by
 rw [eqAgg_eql _ _ _ _ _ _ rfl rfl]
 have:([AV.str a1,.str a2,.str a3].length=[AV.str z1,.str z2,.str z3].length)=True:=eq_true rfl
 simp only [eqStrs_cons,eqStrs_nil,Option.map_some,this]
theorem eqAgg3n (t1 t2 t3:Nat × Nat) (sz b:Nat) (z1 z2 z3 a1 a2 a3 b1 b2 b3:ByteArray):eqAgg ⟨.struct [t1,t2,t3],sz,b,[.str z1,.str z2,.str z3]⟩ .neq [.str a1,.str a2,.str a3] [.str b1,.str b2,.str b3]=some (True,.bool (!((a1.toList == b1.toList) && ((a2.toList == b2.toList) && ((a3.toList == b3.toList) && true))))):=by
 rw [eqAgg_neq _ _ _ _ _ _ rfl rfl]
 have:([AV.str a1,.str a2,.str a3].length=[AV.str z1,.str z2,.str z3].length)=True:=eq_true rfl
 simp only [eqStrs_cons,eqStrs_nil,Option.map_some,this]
attribute [go_sem] eqAgg3 eqAgg3n
def lngP (x y z:ByteArray):Bool:=decide (90<x.size) || (decide (90<y.size) || decide (90<z.size))
theorem long4_spec (hP:PrgOk P) (x y z:ByteArray):CSpec P 80 [.agg [.str x,.str y,.str z]] (.bool (lngP x y z)):=by
 have HE:=Zt1_all hP TF hP.tF
 unfold lngP
 refine CSpec_go (E:=⟨TF,Zt1⟩) (fn80 hP) HE hP.mix ?_
 by_cases h1:90<x.size
 · simp only [go_sem,h1]
   exact fin_z
 · by_cases h2:90<y.size
   · simp only [go_sem,h1,h2]
     exact fin_z
   · simp only [go_sem,h1,h2]
     exact fin_z
def long4S:List AV→Option (Prop × AV)
 | [.agg [.str x,.str y,.str z]]=>some (True,.bool (lngP x y z))
 | _=>none
theorem long4S_ok (hP:PrgOk P) (args p r) (h:long4S args=some (p,r)) (hp:p):CSpec P 80 args r:=by
 unfold long4S at h
 split at h
 · simp only [Option.some.injEq,Prod.mk.injEq] at h
   obtain ⟨rfl,rfl⟩:=h
   exact long4_spec hP _ _ _
 · simp at h
attribute [go_sem] long4S
noncomputable def Zt2:Nat→List AV→Option (Prop × AV):=addS Zt1 80 long4S
theorem Zt2_all (hP:PrgOk P) (T) (hT:TyOk P T):EnvOk P ⟨T,Zt2⟩:=((Zt1_all hP T hT).add (long4S_ok hP))
theorem Zt2_at (f a):Zt2 f a=(addS Zt1 80 long4S) f a:=rfl
attribute [go_sem] Zt2_at
noncomputable def ptV (x y z:ByteArray):V3:=(parV (bl x) (bl y) (bl z)).1
noncomputable def okM (x y z:ByteArray):Bool:=decide ((parV (bl x) (bl y) (bl z)).2=0) && !lngP x y z
theorem made_spec (hP:PrgOk P) (x y z:ByteArray) (hx:(bl x).length≤140737488355328) (hy:(bl y).length≤140737488355328) (hz:(bl z).length≤140737488355328):CSpec P 34 [.agg [.str x,.str y,.str z]] (.tup [(.agg [.opq (.frac ((ptV x y z).1)),.pad,.pad,.pad,.pad,.opq (.frac ((ptV x y z).2.1)),.pad,.pad,.pad,.pad,.opq (.frac ((ptV x y z).2.2)),.pad,.pad,.pad,.pad]),(.agg [.opq (.rfrac ((ptV x y z).1)),.pad,.pad,.opq (.rfrac ((ptV x y z).2.1)),.pad,.pad,.opq (.rfrac ((ptV x y z).2.2)),.pad,.pad]),.bool (okM x y z)]):=by
 have HE:=Zt2_all hP TF hP.tF
 unfold okM ptV
 obtain ⟨r,hr⟩:∃ r,parV (bl x) (bl y) (bl z)=r:=⟨_,rfl⟩
 rw [hr]
 refine CSpec_go (E:=⟨TF,Zt2⟩) (fn34 hP) HE hP.mix ?_
 by_cases h:r.2=0
 · have h1:(r.2 == 0)=true:=by rw [h]; rfl
   have h2:=decide_eq_true h
   simp only [go_sem,hx,hy,hz,hr,h1,h2,Bool.true_and]
   exact fin_z
 · have h1:(r.2 == 0)=false:=by simpa using h
   have h2:=decide_eq_false h
   simp only [go_sem,hx,hy,hz,hr,h1,h2,Bool.false_and]
   exact fin_z
noncomputable def madeS:List AV→Option (Prop × AV)
 | [.agg [.str x,.str y,.str z]]=>some ((bl x).length≤140737488355328∧(bl y).length≤140737488355328∧(bl z).length≤140737488355328,.tup [(.agg [.opq (.frac ((ptV x y z).1)),.pad,.pad,.pad,.pad,.opq (.frac ((ptV x y z).2.1)),.pad,.pad,.pad,.pad,.opq (.frac ((ptV x y z).2.2)),.pad,.pad,.pad,.pad]),(.agg [.opq (.rfrac ((ptV x y z).1)),.pad,.pad,.opq (.rfrac ((ptV x y z).2.1)),.pad,.pad,.opq (.rfrac ((ptV x y z).2.2)),.pad,.pad]),.bool (okM x y z)])
 | _=>none
theorem madeS_ok (hP:PrgOk P) (args p r) (h:madeS args=some (p,r)) (hp:p):CSpec P 34 args r:=by
 unfold madeS at h
 split at h
 · simp only [Option.some.injEq,Prod.mk.injEq] at h
   obtain ⟨rfl,rfl⟩:=h
   exact made_spec hP _ _ _ hp.1 hp.2.1 hp.2.2
 · simp at h
theorem rkN_is {l:List V3} {n:Nat} (h:Rk l n):rkN l=n:=(rkN_ok l).uniq h
attribute [go_sem] madeS
noncomputable def Zt3:Nat→List AV→Option (Prop × AV):=addS Zt2 34 madeS
theorem Zt3_all (hP:PrgOk P) (T) (hT:TyOk P T):EnvOk P ⟨T,Zt3⟩:=((Zt2_all hP T hT).add (madeS_ok hP))
theorem Zt3_at (f a):Zt3 f a=(addS Zt2 34 madeS) f a:=rfl
attribute [go_sem] Zt3_at
noncomputable def Zt4:Nat→List AV→Option (Prop × AV):=Zt3
theorem Zt4_all (hP:PrgOk P) (T) (hT:TyOk P T):EnvOk P ⟨T,Zt4⟩:=(Zt3_all hP T hT)
attribute [go_sem] Zt4
theorem ptV_fl (x y z:ByteArray):fV (ptV x y z) 1024:=parV_fl _ _ _
end Go.Proofs.YtapddfjimhohcaaGreatDoor.AM
/- Vectors: how long what is reckoned becomes. -/
namespace Go.Proofs.YtapddfjimhohcaaGreatDoor.AM
set_option linter.all false
set_option autoImplicit true
set_option relaxedAutoImplicit true
open Go Go.Proofs
set_option maxRecDepth 100000
structure BV (a:V3):Prop where
 r:fV a 65536
 d:fV a 8388608
 t:fV a 67108864
 x:fV a 268435456
 f:fV a FB
theorem qdt_fl {a b:V3} {n m:Nat} (ha:fV a n) (hb:fV b m):fl (qdt a b)≤n+m+(n+m)+1+(n+m)+1:=fl_qadd (fl_qadd (fl_qmul ha.1 hb.1) (fl_qmul ha.2.1 hb.2.1)) (fl_qmul ha.2.2 hb.2.2)
end Go.Proofs.YtapddfjimhohcaaGreatDoor.AM
/- Package plane: what is read off a plane. -/
namespace Go.Proofs.YtapddfjimhohcaaGreatDoor.AM
set_option linter.all false
set_option autoImplicit true
set_option relaxedAutoImplicit true
open Go Go.Proofs
set_option maxRecDepth 100000
set_option maxHeartbeats 8000000
set_option linter.unusedSimpArgs false
variable {P:Program}
noncomputable def vsbq (q p:V3):V3:=(qsub q.1 p.1,qsub q.2.1 p.2.1,qsub q.2.2 p.2.2)
theorem vcq_fV {a b:V3} {n m:Nat} (ha:fV a n) (hb:fV b m):fV (vcq a b) (n+m+(n+m)+1) :=
 ⟨fl_qsub (fl_qmul ha.2.1 hb.2.2) (fl_qmul ha.2.2 hb.2.1),fl_qsub (fl_qmul ha.2.2 hb.1) (fl_qmul ha.1 hb.2.2),fl_qsub (fl_qmul ha.1 hb.2.1) (fl_qmul ha.2.1 hb.1)⟩
theorem bw {x:V3} {n:Nat} (h:fV x n) (hn:n≤8388608):(fl x.1≤8388608∧fl x.2.1≤8388608∧fl x.2.2≤8388608)∧(fl x.1≤16777216∧fl x.2.1≤16777216∧fl x.2.2≤16777216)∧(fl x.1≤67108864∧fl x.2.1≤67108864∧fl x.2.2≤67108864)∧(fl x.1≤268435456∧fl x.2.1≤268435456∧fl x.2.2≤268435456)∧(fl x.1≤FB∧fl x.2.1≤FB∧fl x.2.2≤FB) :=
 ⟨fV_mono h hn,fV_mono h (by omega),fV_mono h (by omega),fV_mono h (by omega),fV_mono h (Nat.le_trans hn (by decide))⟩
theorem bt {x:V3} {n:Nat} (h:fV x n) (hn:n≤67108864):(fl x.1≤67108864∧fl x.2.1≤67108864∧fl x.2.2≤67108864)∧(fl x.1≤268435456∧fl x.2.1≤268435456∧fl x.2.2≤268435456)∧(fl x.1≤FB∧fl x.2.1≤FB∧fl x.2.2≤FB) :=
 ⟨fV_mono h hn,fV_mono h (by omega),fV_mono h (Nat.le_trans hn (by decide))⟩
theorem bx {x:V3} {n:Nat} (h:fV x n) (hn:n≤268435456):(fl x.1≤268435456∧fl x.2.1≤268435456∧fl x.2.2≤268435456)∧(fl x.1≤FB∧fl x.2.1≤FB∧fl x.2.2≤FB) :=
 ⟨fV_mono h hn,fV_mono h (Nat.le_trans hn (by decide))⟩
theorem bf {x:V3} {n:Nat} (h:fV x n) (hn:n≤FB):fl x.1≤FB∧fl x.2.1≤FB∧fl x.2.2≤FB:=fV_mono h hn
theorem bm {x:V3} {n:Nat} (h:fV x n) (hn:n≤1048576):fl x.1≤1048576∧fl x.2.1≤1048576∧fl x.2.2≤1048576:=fV_mono h hn
theorem b16 {x:V3} {n:Nat} (h:fV x n) (hn:n≤65536):fl x.1≤65536∧fl x.2.1≤65536∧fl x.2.2≤65536:=fV_mono h hn
noncomputable def vadq (a b:V3):V3:=(qadd a.1 b.1,qadd a.2.1 b.2.1,qadd a.2.2 b.2.2)
noncomputable def vscq (k:Rat) (a:V3):V3:=(qmul k a.1,qmul k a.2.1,qmul k a.2.2)
theorem vsbq_c {a b v:V3} (h:vsbq a b=v):qsub a.1 b.1=v.1∧qsub a.2.1 b.2.1=v.2.1∧qsub a.2.2 b.2.2=v.2.2:=by subst h; exact ⟨rfl,rfl,rfl⟩
theorem vadq_c {a b v:V3} (h:vadq a b=v):qadd a.1 b.1=v.1∧qadd a.2.1 b.2.1=v.2.1∧qadd a.2.2 b.2.2=v.2.2:=by subst h; exact ⟨rfl,rfl,rfl⟩
theorem vscq_c {k:Rat} {a v:V3} (h:vscq k a=v):qmul k a.1=v.1∧qmul k a.2.1=v.2.1∧qmul k a.2.2=v.2.2:=by subst h; exact ⟨rfl,rfl,rfl⟩
theorem vcq_c {a b v:V3} (h:vcq a b=v):(vcq (a.1,a.2.1,a.2.2) (b.1,b.2.1,b.2.2)=v)∧qsub (qmul a.2.1 b.2.2) (qmul a.2.2 b.2.1)=v.1∧qsub (qmul a.2.2 b.1) (qmul a.1 b.2.2)=v.2.1∧qsub (qmul a.1 b.2.1) (qmul a.2.1 b.1)=v.2.2:=by subst h; exact ⟨rfl,rfl,rfl,rfl⟩
theorem vsbq_fV {a b:V3} {n m:Nat} (ha:fV a n) (hb:fV b m):fV (vsbq a b) (n+m+1):=⟨fl_qsub ha.1 hb.1,fl_qsub ha.2.1 hb.2.1,fl_qsub ha.2.2 hb.2.2⟩
theorem vadq_fV {a b:V3} {n m:Nat} (ha:fV a n) (hb:fV b m):fV (vadq a b) (n+m+1):=⟨fl_qadd ha.1 hb.1,fl_qadd ha.2.1 hb.2.1,fl_qadd ha.2.2 hb.2.2⟩
theorem vscq_fV {k:Rat} {a:V3} {n m:Nat} (hk:fl k≤n) (ha:fV a m):fV (vscq k a) (n+m):=⟨fl_qmul hk ha.1,fl_qmul hk ha.2.1,fl_qmul hk ha.2.2⟩
theorem vsbq_vsb (a b:V3):vsbq a b=vsb a b:=by unfold vsbq vsb; simp only [qsub_eq]
theorem vadq_vad (a b:V3):vadq a b=vad a b:=by unfold vadq vad; simp only [qadd_eq]
theorem vscq_vsc (k:Rat) (a:V3):vscq k a=vsc k a:=by unfold vscq vsc; simp only [qmul_eq]
theorem len_s {s:ByteArray} (h:s.size≤maxS):(bl s).length≤140737488355328:=by
 have:=size_bl s
 unfold maxS at h
 omega
structure Ln1 (p e:V3):Prop where
 nz:e ≠ v0
 one:nrm e=e
 dot:vdt p e=0
end Go.Proofs.YtapddfjimhohcaaGreatDoor.AM
/- Lines: plain facts of what the laws say. -/
namespace Go.Proofs.YtapddfjimhohcaaGreatDoor.AM
set_option linter.all false
set_option autoImplicit true
set_option relaxedAutoImplicit true
open Go Go.Proofs
set_option maxRecDepth 100000
theorem vsb_neg (a b:V3):vsb b a=vsc (-1) (vsb a b):=by unfold vsb vsc; refine v3_ext ?_ ?_ ?_<;>(simp only []; grind)
theorem neg_v0 {a:V3}:vsc (-1) a=v0 ↔ a=v0:=by
 rw [v0_iff,v0_iff]; unfold vsc; simp only []; constructor<;>intro ⟨h1,h2,h3⟩<;>exact ⟨by grind,by grind,by grind⟩
theorem par_of {a c:V3} (hc:c ≠ v0) (h:vcr a c=v0):a=vsc (vdt a c / vdt c c) c:=by
 have hD:=dt_self hc
 have e:=(v0_iff _).1 h
 unfold vcr at e
 simp only [] at e
 obtain ⟨e1,e2,e3⟩:=e
 have hs:=Rat.div_mul_cancel (a:=vdt a c) hD
 generalize vdt a c / vdt c c=s at *
 unfold vdt at hs hD
 unfold vsc
 refine v3_ext (mul_cancel hD ?_) (mul_cancel hD ?_) (mul_cancel hD ?_)<;>(simp only []; grind)
theorem vsb_vad (p a:V3):vsb (vad p a) p=a:=by unfold vsb vad; refine v3_ext ?_ ?_ ?_<;>(simp only []; grind)
end Go.Proofs.YtapddfjimhohcaaGreatDoor.AM
/- Where a point lies to the hull of points: plain facts. -/
namespace Go.Proofs.YtapddfjimhohcaaGreatDoor.AM
set_option linter.all false
set_option autoImplicit true
set_option relaxedAutoImplicit true
open Go Go.Proofs
set_option maxRecDepth 100000
set_option maxHeartbeats 4000000
def fstN:List V3→V3
 | []=>v0
 | n::t=>if n=v0 then fstN t else n
theorem fstN_in {l:List V3} (h:∃ n ∈ l,n ≠ v0):fstN l ∈ l∧fstN l ≠ v0:=by
 induction l with
 | nil=>obtain ⟨n,hn,_⟩:=h; simp at hn
 | cons a t ih =>
   unfold fstN
   by_cases c:a=v0
   · rw [if_pos c]
     obtain ⟨n,hn,h0⟩:=h
     rcases List.mem_cons.1 hn with rfl|hn
     · exact absurd c h0
     · have:=ih ⟨n,hn,h0⟩
       exact ⟨List.mem_cons_of_mem _ this.1,this.2⟩
   · rw [if_neg c]; exact ⟨List.mem_cons_self,c⟩
def nmL (l:List V3):V3:=fstN (l.flatMap fun a=>l.map fun b=>vcr (vsb a (l.headD v0)) (vsb b (l.headD v0)))
theorem headD_in {l:List V3} (h:l ≠ []):l.headD v0 ∈ l:=by cases l with|nil=>exact absurd rfl h|cons a t=>exact List.mem_cons_self
def crossN (d:Nat) (l:List V3) (a b c:V3):V3:=if d=1 then vsb b a else if d=2 then vcr (nmL l) (vsb b a) else vcr (vsb b a) (vsb c a)
def Cd (l:List V3) (n a:V3):Prop:=a ∈ l∧n ≠ v0∧(∀ q ∈ l,0≤vdt n (vsb q a))∧∃ b ∈ l,∃ c ∈ l,n=crossN (dm l) l a b c
open Classical in
noncomputable def tri (A B:Prop):Int:=if A then -1 else if B then 0 else 1
theorem tri_1 {A B:Prop} (h:A):tri A B = -1:=if_pos h
theorem tri_2 {A B:Prop} (h:¬ A) (h':B):tri A B=0:=by unfold tri; rw [if_neg h,if_pos h']
theorem tri_3 {A B:Prop} (h:¬ A) (h':¬ B):tri A B=1:=by unfold tri; rw [if_neg h,if_neg h']
noncomputable def wIn (p:V3) (l:List V3):Int :=
 if dm l<dm (p::l) then -1 else if dm l=0 then 1 else tri (∃ n a,Cd l n a∧vdt n (vsb p a)<0) (∃ n a,Cd l n a∧vdt n (vsb p a)=0)
def Sub (l m:List V3):Prop:=∀ n a,Cd l n a→∃ k n' a',0<k∧Cd m n' a'∧∀ p,vdt n' (vsb p a')=k*vdt n (vsb p a)
theorem sub_ex {l m:List V3} (h:Sub l m) (p:V3):((∃ n a,Cd l n a∧vdt n (vsb p a)<0)→∃ n a,Cd m n a∧vdt n (vsb p a)<0)∧((∃ n a,Cd l n a∧vdt n (vsb p a)=0)→∃ n a,Cd m n a∧vdt n (vsb p a)=0):=by
 constructor
 · rintro ⟨n,a,h1,h2⟩
   obtain ⟨k,n',a',hk,hc,e⟩:=h n a h1
   refine ⟨n',a',hc,?_⟩
   rw [e p]
   have:=Rat.mul_pos hk (show 0 < -vdt n (vsb p a) by grind)
   grind
 · rintro ⟨n,a,h1,h2⟩
   obtain ⟨k,n',a',hk,hc,e⟩:=h n a h1
   exact ⟨n',a',hc,by rw [e p,h2]; grind⟩
theorem wIn_congr {l m:List V3} (p:V3) (h1:dm l=dm m) (h2:dm (p::l)=dm (p::m)) (h3:Sub l m) (h4:Sub m l):wIn p l=wIn p m:=by
 have e1:(∃ n a,Cd l n a∧vdt n (vsb p a)<0)=∃ n a,Cd m n a∧vdt n (vsb p a)<0:=propext ⟨(sub_ex h3 p).1,(sub_ex h4 p).1⟩
 have e2:(∃ n a,Cd l n a∧vdt n (vsb p a)=0)=∃ n a,Cd m n a∧vdt n (vsb p a)=0:=propext ⟨(sub_ex h3 p).2,(sub_ex h4 p).2⟩
 unfold wIn
 rw [h1,h2,e1,e2]
theorem same_cons {l m:List V3} (h:same l m) (p:V3):same (p::l) (p::m):=fun x=>by
 rw [List.mem_cons,List.mem_cons,h x]
theorem vdt_scl (k:Rat) (a b:V3):vdt (vsc k a) b=k*vdt a b:=by unfold vdt vsc; simp only []; grind
theorem nmL_in {l:List V3} (h2:dm l=2):nmL l ≠ v0∧∀ x ∈ l,∀ y ∈ l,vdt (nmL l) (vsb y x)=0:=by
 have hl:l ≠ []:=fun e=>by
  have:dm l<1:=(dm_1 l).2 (by rw [e]; intro x hx; simp at hx)
  omega
 have ho:=headD_in hl
 have ha2:A2 l:=(dm_3 l).1 (by omega)
 have hex:∃ n ∈ (l.flatMap fun a=>l.map fun b=>vcr (vsb a (l.headD v0)) (vsb b (l.headD v0))),n ≠ v0:=Classical.byContradiction fun hc=>by
  have hz:∀ x ∈ l,∀ y ∈ l,vcr (vsb x (l.headD v0)) (vsb y (l.headD v0))=v0:=fun x hx y hy=>Classical.byContradiction fun h0=>hc ⟨_,by
   rw [List.mem_flatMap]; exact ⟨x,hx,List.mem_map.2 ⟨y,hy,rfl⟩⟩,h0⟩
  have:A1 l:=fun x hx y hy z hz'=>by
   rw [vcr_sub x y z (l.headD v0),hz y hy z hz',hz y hy x hx,hz x hx z hz']
   unfold vad vsb vsc v0; refine v3_ext ?_ ?_ ?_<;>(simp only []; grind)
  have:=(dm_2 l).2 this
  omega
 have hf:=fstN_in hex
 refine ⟨hf.2,fun x hx y hy=>?_⟩
 have hm:=hf.1
 rw [List.mem_flatMap] at hm
 obtain ⟨a,ha,hm⟩:=hm
 obtain ⟨b,hb,e⟩:=List.mem_map.1 hm
 have hn:nmL l=vcr (vsb a (l.headD v0)) (vsb b (l.headD v0)):=e.symm
 rw [hn]
 have d1:=ha2 (l.headD v0) ho y hy a ha b hb
 have d2:=ha2 (l.headD v0) ho x hx a ha b hb
 generalize l.headD v0=o at *
 unfold vdet vdt vcr vsb at d1 d2
 unfold vdt vcr vsb
 simp only [] at d1 d2 ⊢
 grind
theorem nm_par {l:List V3} (h2:dm l=2) {n:V3} (hn:∀ x ∈ l,∀ y ∈ l,vdt n (vsb y x)=0):∃ k,n=vsc k (nmL l):=by
 have h0:=nmL_in h2
 have h1:¬ A1 l:=fun h=>by have:=(dm_2 l).2 h; omega
 obtain ⟨x,hx,y,hy,z,hz,hc⟩:∃ x,x ∈ l∧∃ y,y ∈ l∧∃ z,z ∈ l∧vcr (vsb y x) (vsb z x) ≠ v0:=Classical.byContradiction fun hc=>h1 fun x hx y hy z hz=>Classical.byContradiction fun h=>hc ⟨x,hx,y,hy,z,hz,h⟩
 have a1:=hn x hx y hy
 have a2:=hn x hx z hz
 have b1:=h0.2 x hx y hy
 have b2:=h0.2 x hx z hz
 have par:∀ m:V3,vdt m (vsb y x)=0→vdt m (vsb z x)=0→∃ k,m=vsc k (vcr (vsb y x) (vsb z x)):=fun m p1 p2=>by
  refine ⟨_,par_of hc ?_⟩
  generalize vsb y x=u at *
  generalize vsb z x=v at *
  unfold vdt at p1 p2
  rw [v0_iff]; unfold vcr; simp only []; exact ⟨by grind,by grind,by grind⟩
 obtain ⟨k,hk⟩:=par _ a1 a2
 obtain ⟨j,hj⟩:=par _ b1 b2
 have hj0:j ≠ 0:=fun e=>h0.1 (by rw [hj,e,vsc_z])
 refine ⟨k / j,?_⟩
 rw [hk,hj,sc_sc,Rat.div_mul_cancel hj0]
theorem Cd_mk {l:List V3} {n a b c:V3} (ha:a ∈ l) (hn:n ≠ v0) (hq:∀ q ∈ l,0≤vdt n (vsb q a)) (hb:b ∈ l) (hc:c ∈ l) (e:n=crossN (dm l) l a b c):Cd l n a:=⟨ha,hn,hq,b,hb,c,hc,e⟩
theorem sub_same {l m:List V3} (h:same l m):Sub l m:=by
 intro n a ⟨ha,hn,hq,b,hb,c,hc,e⟩
 have hd:=dm_same h
 have ha':=(h a).1 ha
 have hb':=(h b).1 hb
 have hc':=(h c).1 hc
 have hq':∀ q ∈ m,0≤vdt n (vsb q a):=fun q hm=>hq q ((h q).2 hm)
 unfold crossN at e
 by_cases h1:dm l=1
 · rw [if_pos h1] at e
   exact ⟨1,n,a,by decide +kernel,Cd_mk ha' hn hq' hb' hc' (by unfold crossN; rw [if_pos (hd ▸ h1)]; exact e),fun p=>by grind⟩
 rw [if_neg h1] at e
 by_cases h2:dm l=2
 · rw [if_pos h2] at e
   have h2':dm m=2:=hd ▸ h2
   obtain ⟨k,hk⟩:=nm_par h2' (n:=nmL l) fun x hx y hy=>(nmL_in h2).2 x ((h x).2 hx) y ((h y).2 hy)
   have hk0:k ≠ 0:=fun z=>(nmL_in h2).1 (by rw [hk,z,vsc_z])
   have cr:∀ u v:V3,vcr (nmL m) (vsb v u)=vsc (1 / k) (vcr (nmL l) (vsb v u)):=fun u v=>by
    rw [hk,vcr_sc1,sc_sc,Rat.div_mul_cancel hk0,vsc_one]
   rcases (show 0<k∨k<0 by grind) with kp|kn
   · have ik:0<1 / k:=by rw [Rat.div_def,Rat.one_mul]; exact Rat.inv_pos.2 kp
     refine ⟨1 / k,vsc (1 / k) n,a,ik,Cd_mk ha' (vsc_nz (by grind) hn) (fun q hm=>?_) hb' hc' ?_,fun p=>vdt_scl _ _ _⟩
     · rw [vdt_scl]; exact Rat.mul_nonneg (by grind) (hq' q hm)
     · unfold crossN; rw [if_neg (hd ▸ h1),if_pos h2',cr,e]
   · have ik:0 < -(1 / k):=by
      have:0<(-k)⁻¹:=Rat.inv_pos.2 (by grind)
      rw [Rat.div_def,Rat.one_mul]
      have e2:(-k)⁻¹ = -k⁻¹:=by
       refine mul_cancel (show (-k) ≠ 0 by grind) ?_
       rw [Rat.inv_mul_cancel _ (by grind)]
       have:=Rat.inv_mul_cancel k hk0
       grind
      grind
     have e3:∀ p,vdt (vsc (-(1 / k)) n) (vsb p b) = -(1 / k)*vdt n (vsb p a):=fun p=>by
      rw [vdt_scl,e]
      congr 1
      unfold vdt vcr vsb; simp only []; grind
     refine ⟨-(1 / k),vsc (-(1 / k)) n,b,ik,Cd_mk hb' (vsc_nz (by grind) hn) (fun q hm=>?_) ha' hc' ?_,e3⟩
     · rw [e3]; exact Rat.mul_nonneg (by grind) (hq' q hm)
     · unfold crossN; rw [if_neg (hd ▸ h1),if_pos h2',cr,e]
       unfold vcr vsb vsc; refine v3_ext ?_ ?_ ?_<;>(simp only []; grind)
 · rw [if_neg h2] at e
   exact ⟨1,n,a,by decide +kernel,Cd_mk ha' hn hq' hb' hc' (by unfold crossN; rw [if_neg (hd ▸ h1),if_neg (hd ▸ h2)]; exact e),fun p=>by grind⟩
theorem wIn_same {l m:List V3} (h:same l m) (p:V3):wIn p l=wIn p m :=
 wIn_congr p (dm_same h) (dm_same (same_cons h p)) (sub_same h) (sub_same fun x=>(h x).symm)
theorem fstN_sc {k:Rat} (hk:k ≠ 0) (l:List V3):fstN (l.map (vsc k))=vsc k (fstN l):=by
 induction l with
 | nil=>exact (sc_v0 k).symm
 | cons a t ih =>
   simp only [List.map_cons,fstN]
   by_cases c:a=v0
   · rw [if_pos c,if_pos (by rw [c,sc_v0]),ih]
   · rw [if_neg c,if_neg (vsc_nz hk c)]
theorem wIn_map {k:Rat} (hk:0<k) (v p:V3) (l:List V3):wIn (vad (vsc k p) v) (l.map fun a=>vad (vsc k a) v)=wIn p l:=by
 have hk0:k ≠ 0:=by grind
 have e1:∀ x y:V3,vsb (vad (vsc k y) v) (vad (vsc k x) v)=vsc k (vsb y x):=fun x y=>by unfold vsb vad vsc; refine v3_ext ?_ ?_ ?_<;>(simp only []; grind)
 have e2:∀ a b:V3,vcr (vsc k a) (vsc k b)=vsc (k*k) (vcr a b):=fun a b=>by unfold vcr vsc; refine v3_ext ?_ ?_ ?_<;>(simp only []; grind)
 have kk:0<k*k:=Rat.mul_pos hk hk
 have hd:=dm_map hk0 v l
 have hdp:dm (vad (vsc k p) v::l.map fun a=>vad (vsc k a) v)=dm (p::l):=dm_map hk0 v (p::l)
 have hh:(l.map fun a=>vad (vsc k a) v).headD v0=if l=[] then v0 else vad (vsc k (l.headD v0)) v:=by cases l<;>simp
 have hnm:l ≠ []→nmL (l.map fun a=>vad (vsc k a) v)=vsc (k*k) (nmL l):=fun hl=>by
  unfold nmL
  rw [hh,if_neg hl,← fstN_sc (show k*k ≠ 0 by grind)]
  congr 1
  rw [List.flatMap_map,List.map_flatMap]
  congr 1; funext a
  rw [List.map_map,List.map_map]
  congr 1; funext b
  simp only [Function.comp,e1,e2]
 have hcr:l ≠ []→∃ j,0<j∧∀ a b c,crossN (dm l) (l.map fun a=>vad (vsc k a) v) (vad (vsc k a) v) (vad (vsc k b) v) (vad (vsc k c) v)=vsc j (crossN (dm l) l a b c):=fun hl=>by
  unfold crossN
  by_cases h1:dm l=1
  · refine ⟨k,hk,fun a b c=>?_⟩; rw [if_pos h1,if_pos h1,e1]
  · by_cases h2:dm l=2
    · refine ⟨k*k*k,Rat.mul_pos kk hk,fun a b c=>?_⟩
      rw [if_neg h1,if_neg h1,if_pos h2,if_pos h2,e1,hnm hl]
      unfold vcr vsc; refine v3_ext ?_ ?_ ?_<;>(simp only []; grind)
    · refine ⟨k*k,kk,fun a b c=>?_⟩
      rw [if_neg h1,if_neg h1,if_neg h2,if_neg h2,e1,e1,e2]
 by_cases hl:l=[]
 · subst hl
   have z:∀ n a,¬ Cd [] n a:=fun n a h=>by have:=h.1; simp at this
   unfold wIn
   simp only [List.map_nil] at hdp ⊢
   rw [hdp,tri_3 (fun ⟨n,a,h,_⟩=>z n a h) (fun ⟨n,a,h,_⟩=>z n a h),tri_3 (fun ⟨n,a,h,_⟩=>z n a h) (fun ⟨n,a,h,_⟩=>z n a h)]
 obtain ⟨j,hj,hcr⟩:=hcr hl
 have s1:∀ n a,Cd l n a→Cd (l.map fun a=>vad (vsc k a) v) (vsc j n) (vad (vsc k a) v):=fun n a ⟨ha,hn,hq,b,hb,c,hc,e⟩ =>
  ⟨List.mem_map.2 ⟨a,ha,rfl⟩,vsc_nz (by grind) hn,fun q hm=>by
   obtain ⟨q',hq',rfl⟩:=List.mem_map.1 hm
   rw [e1,vdt_scl,vdt_sc2]; exact Rat.mul_nonneg (by grind) (Rat.mul_nonneg (by grind) (hq q' hq')),_,List.mem_map.2 ⟨b,hb,rfl⟩,_,List.mem_map.2 ⟨c,hc,rfl⟩,by rw [hd,hcr,e]⟩
 have s2:∀ n a',Cd (l.map fun a=>vad (vsc k a) v) n a'→∃ n' a,Cd l n' a∧n=vsc j n'∧a'=vad (vsc k a) v:=fun n a' ⟨ha,hn,hq,b,hb,c,hc,e⟩=>by
  obtain ⟨a,ma,rfl⟩:=List.mem_map.1 ha
  obtain ⟨b,mb,rfl⟩:=List.mem_map.1 hb
  obtain ⟨c,mc,rfl⟩:=List.mem_map.1 hc
  rw [hd,hcr] at e
  refine ⟨_,a,⟨ma,fun z=>hn (by rw [e,z,sc_v0]),fun q hm=>?_,b,mb,c,mc,rfl⟩,e,rfl⟩
  have:=hq _ (List.mem_map.2 ⟨q,hm,rfl⟩)
  rw [e,e1,vdt_scl,vdt_sc2] at this
  have jk:0<j*k:=Rat.mul_pos hj hk
  rcases (show vdt (crossN (dm l) l a b c) (vsb q a)<0∨0≤vdt (crossN (dm l) l a b c) (vsb q a) by grind) with h|h
  · have:=Rat.mul_pos jk (show 0 < -vdt (crossN (dm l) l a b c) (vsb q a) by grind); grind
  · exact h
 have val:∀ n a:V3,vdt (vsc j n) (vsb (vad (vsc k p) v) (vad (vsc k a) v))=j*k*vdt n (vsb p a):=fun n a=>by rw [e1,vdt_scl,vdt_sc2]; grind
 have jk:0<j*k:=Rat.mul_pos hj hk
 have q1:(∃ n a,Cd (l.map fun a=>vad (vsc k a) v) n a∧vdt n (vsb (vad (vsc k p) v) a)<0)=∃ n a,Cd l n a∧vdt n (vsb p a)<0:=propext ⟨fun ⟨n,a',h1,h2⟩=>by
  obtain ⟨n',a,h3,rfl,rfl⟩:=s2 n a' h1
  rw [val,← cmpQ_iff_neg,cmpQ_pos jk,cmpQ_iff_neg] at h2
  exact ⟨n',a,h3,h2⟩,fun ⟨n,a,h1,h2⟩=>⟨_,_,s1 n a h1,by rw [val,← cmpQ_iff_neg,cmpQ_pos jk,cmpQ_iff_neg]; exact h2⟩⟩
 have q2:(∃ n a,Cd (l.map fun a=>vad (vsc k a) v) n a∧vdt n (vsb (vad (vsc k p) v) a)=0)=∃ n a,Cd l n a∧vdt n (vsb p a)=0:=propext ⟨fun ⟨n,a',h1,h2⟩=>by
  obtain ⟨n',a,h3,rfl,rfl⟩:=s2 n a' h1
  rw [val,← cmpQ_iff_0,cmpQ_pos jk,cmpQ_iff_0] at h2
  exact ⟨n',a,h3,h2⟩,fun ⟨n,a,h1,h2⟩=>⟨_,_,s1 n a h1,by rw [val,← cmpQ_iff_0,cmpQ_pos jk,cmpQ_iff_0]; exact h2⟩⟩
 unfold wIn
 rw [hd,hdp,q1,q2]
theorem wIn_corner {p:V3} {l:List V3} (h:p ∈ l):wIn p l ≠ -1:=by
 have hd:dm (p::l)=dm l:=dm_same fun x=>by
  rw [List.mem_cons]; exact ⟨fun k=>k.elim (fun e=>e ▸ h) id,.inr⟩
 unfold wIn
 rw [if_neg (by omega)]
 split
 · decide
 · have hn:¬ ∃ n a,Cd l n a∧vdt n (vsb p a)<0:=by
    rintro ⟨n,a,hc,hlt⟩
    have:=hc.2.2.1 p h
    grind
   by_cases hz:∃ n a,Cd l n a∧vdt n (vsb p a)=0
   · rw [tri_2 hn hz]; decide
   · rw [tri_3 hn hz]; decide
def mx (x y z w:Rat) (a b c d:V3):V3:=vad (vad (vsc x a) (vsc y b)) (vad (vsc z c) (vsc w d))
theorem mx_dt {x y z w:Rat} (h:x+y+z+w=1) (n o a b c d:V3):vdt n (vsb (mx x y z w a b c d) o)=x*vdt n (vsb a o)+y*vdt n (vsb b o)+z*vdt n (vsb c o)+w*vdt n (vsb d o):=by
 have e:w=1-x-y-z:=by grind
 subst e
 unfold mx vdt vsb vad vsc; simp only []; grind
section
variable {x y z w:Rat} {a b c d:V3}
theorem mx_0 (h:x+y+z+w=1) (o:V3) (ha:a=o) (hb:b=o) (hc:c=o) (hd:d=o):mx x y z w a b c d=o:=by
 have e:w=1-x-y-z:=by grind
 subst e ha hb hc hd
 unfold mx vad vsc; refine v3_ext ?_ ?_ ?_<;>(simp only []; grind)
def D1 (x y z:V3):V3:=vcr (vsb y x) (vsb z x)
def D2 (x y z w:V3):Rat:=vdet (vsb y x) (vsb z x) (vsb w x)
def lc (x y z w:Rat) (a b c d:V3):V3:=vad (vad (vsc x a) (vsc y b)) (vad (vsc z c) (vsc w d))
theorem lc_0 (x y z w:Rat):lc x y z w v0 v0 v0 v0=v0:=by unfold lc; simp only [sc_v0]; unfold vad v0; refine v3_ext ?_ ?_ ?_<;>(simp only []; grind)
theorem D1_a (h:x+y+z+w=1) (u v:V3):D1 (mx x y z w a b c d) u v=lc x y z w (D1 a u v) (D1 b u v) (D1 c u v) (D1 d u v):=by
 have e:w=1-x-y-z:=by grind
 subst e
 unfold D1 mx lc vcr vsb vad vsc; refine v3_ext ?_ ?_ ?_<;>(simp only []; grind)
theorem D1_b (h:x+y+z+w=1) (u v:V3):D1 u (mx x y z w a b c d) v=lc x y z w (D1 u a v) (D1 u b v) (D1 u c v) (D1 u d v):=by
 have e:w=1-x-y-z:=by grind
 subst e
 unfold D1 mx lc vcr vsb vad vsc; refine v3_ext ?_ ?_ ?_<;>(simp only []; grind)
theorem D1_c (h:x+y+z+w=1) (u v:V3):D1 u v (mx x y z w a b c d)=lc x y z w (D1 u v a) (D1 u v b) (D1 u v c) (D1 u v d):=by
 have e:w=1-x-y-z:=by grind
 subst e
 unfold D1 mx lc vcr vsb vad vsc; refine v3_ext ?_ ?_ ?_<;>(simp only []; grind)
theorem D2_a (h:x+y+z+w=1) (s u v:V3):D2 (mx x y z w a b c d) s u v=x*D2 a s u v+y*D2 b s u v+z*D2 c s u v+w*D2 d s u v:=by
 have e:w=1-x-y-z:=by grind
 subst e
 unfold D2 mx vdet vdt vcr vsb vad vsc; simp only []; grind
theorem D2_b (h:x+y+z+w=1) (s u v:V3):D2 s (mx x y z w a b c d) u v=x*D2 s a u v+y*D2 s b u v+z*D2 s c u v+w*D2 s d u v:=by
 have e:w=1-x-y-z:=by grind
 subst e
 unfold D2 mx vdet vdt vcr vsb vad vsc; simp only []; grind
theorem D2_sw (s t u v:V3):D2 s u t v = -D2 s t u v∧D2 s t v u = -D2 s t u v:=by unfold D2 vdet vdt vcr vsb; simp only []; exact ⟨by grind,by grind⟩
theorem D2_c (h:x+y+z+w=1) (s u v:V3):D2 s u (mx x y z w a b c d) v=x*D2 s u a v+y*D2 s u b v+z*D2 s u c v+w*D2 s u d v:=by
 have k:=D2_b (a:=a) (b:=b) (c:=c) (d:=d) h s u v
 rw [(D2_sw s u (mx x y z w a b c d) v).1,(D2_sw s u a v).1,(D2_sw s u b v).1,(D2_sw s u c v).1,(D2_sw s u d v).1] at k
 grind
theorem D2_d (h:x+y+z+w=1) (s u v:V3):D2 s u v (mx x y z w a b c d)=x*D2 s u v a+y*D2 s u v b+z*D2 s u v c+w*D2 s u v d:=by
 have k:=D2_c (a:=a) (b:=b) (c:=c) (d:=d) h s u v
 rw [(D2_sw s u v (mx x y z w a b c d)).2,(D2_sw s u v a).2,(D2_sw s u v b).2,(D2_sw s u v c).2,(D2_sw s u v d).2] at k
 grind
theorem ext4 {Q:V3→Prop} {p:V3} (hp:Q a→Q b→Q c→Q d→Q p) (h:∀ q ∈ [a,b,c,d],Q q):∀ q ∈ p::[a,b,c,d],Q q:=fun q hq=>by
 rcases List.mem_cons.1 hq with rfl|hq
 · exact hp (h a (by simp)) (h b (by simp)) (h c (by simp)) (h d (by simp))
 · exact h q hq
theorem dm_mx (h:x+y+z+w=1):dm (mx x y z w a b c d::[a,b,c,d])=dm [a,b,c,d]:=by
 have a0:A0 [a,b,c,d]→A0 (mx x y z w a b c d::[a,b,c,d]):=fun k=>by
  have k1:∀ q ∈ mx x y z w a b c d::[a,b,c,d],q=a:=ext4 (Q:=fun q=>q=a) (fun h1 h2 h3 h4=>mx_0 h a h1 h2 h3 h4) fun q hq=>k q hq a (by simp)
  intro u hu v hv; rw [k1 u hu,k1 v hv]
 have a1:A1 [a,b,c,d]→A1 (mx x y z w a b c d::[a,b,c,d]):=fun k=>by
  have s1:∀ u ∈ mx x y z w a b c d::[a,b,c,d],∀ v ∈ [a,b,c,d],∀ t ∈ [a,b,c,d],D1 u v t=v0:=fun u hu v hv t ht =>
   ext4 (Q:=fun q=>D1 q v t=v0) (fun h1 h2 h3 h4=>by show D1 _ v t=v0; rw [D1_a h,h1,h2,h3,h4,lc_0]) (fun q hq=>k q hq v hv t ht) u hu
  have s2:∀ u ∈ mx x y z w a b c d::[a,b,c,d],∀ v ∈ mx x y z w a b c d::[a,b,c,d],∀ t ∈ [a,b,c,d],D1 u v t=v0:=fun u hu v hv t ht =>
   ext4 (Q:=fun q=>D1 u q t=v0) (fun h1 h2 h3 h4=>by show D1 u _ t=v0; rw [D1_b h,h1,h2,h3,h4,lc_0]) (fun q hq=>s1 u hu q hq t ht) v hv
  intro u hu v hv t ht
  exact ext4 (Q:=fun q=>D1 u v q=v0) (fun h1 h2 h3 h4=>by show D1 u v _=v0; rw [D1_c h,h1,h2,h3,h4,lc_0]) (fun q hq=>s2 u hu v hv q hq) t ht
 have a2:A2 [a,b,c,d]→A2 (mx x y z w a b c d::[a,b,c,d]):=fun k=>by
  have s1:∀ s ∈ mx x y z w a b c d::[a,b,c,d],∀ u ∈ [a,b,c,d],∀ v ∈ [a,b,c,d],∀ t ∈ [a,b,c,d],D2 s u v t=0:=fun s hs u hu v hv t ht =>
   ext4 (Q:=fun q=>D2 q u v t=0) (fun h1 h2 h3 h4=>by show D2 _ u v t=0; rw [D2_a h,h1,h2,h3,h4]; grind) (fun q hq=>k q hq u hu v hv t ht) s hs
  have s2:∀ s ∈ mx x y z w a b c d::[a,b,c,d],∀ u ∈ mx x y z w a b c d::[a,b,c,d],∀ v ∈ [a,b,c,d],∀ t ∈ [a,b,c,d],D2 s u v t=0:=fun s hs u hu v hv t ht =>
   ext4 (Q:=fun q=>D2 s q v t=0) (fun h1 h2 h3 h4=>by show D2 s _ v t=0; rw [D2_b h,h1,h2,h3,h4]; grind) (fun q hq=>s1 s hs q hq v hv t ht) u hu
  have s3:∀ s ∈ mx x y z w a b c d::[a,b,c,d],∀ u ∈ mx x y z w a b c d::[a,b,c,d],∀ v ∈ mx x y z w a b c d::[a,b,c,d],∀ t ∈ [a,b,c,d],D2 s u v t=0:=fun s hs u hu v hv t ht =>
   ext4 (Q:=fun q=>D2 s u q t=0) (fun h1 h2 h3 h4=>by show D2 s u _ t=0; rw [D2_c h,h1,h2,h3,h4]; grind) (fun q hq=>s2 s hs u hu q hq t ht) v hv
  intro s hs u hu v hv t ht
  exact ext4 (Q:=fun q=>D2 s u v q=0) (fun h1 h2 h3 h4=>by show D2 s u v _=0; rw [D2_d h,h1,h2,h3,h4]; grind) (fun q hq=>s3 s hs u hu v hv q hq) t ht
 have le:=dm_mono (l:=[a,b,c,d]) (m:=mx x y z w a b c d::[a,b,c,d]) fun q hq=>List.mem_cons_of_mem _ hq
 rw [← dm_1,← dm_1] at a0
 rw [← dm_2,← dm_2] at a1
 rw [← dm_3,← dm_3] at a2
 have:=dm_le (mx x y z w a b c d::[a,b,c,d])
 omega
theorem Cd_not {l:List V3} {n o:V3} (hd:dm l ≠ 0) (hc:Cd l n o):¬ ∀ q ∈ l,vdt n (vsb q o)=0:=by
 intro hz
 obtain ⟨ho,hn,_,b,hb,c,hc',e⟩:=hc
 have all:∀ u ∈ l,∀ v ∈ l,vdt n (vsb v u)=0:=fun u hu v hv=>by
  have h1:=hz u hu
  have h2:=hz v hv
  unfold vdt vsb at h1 h2 ⊢; simp only [] at h1 h2 ⊢; grind
 have nn:=dt_self hn
 unfold crossN at e
 by_cases h1:dm l=1
 · rw [if_pos h1] at e
   have:=hz b hb
   rw [← e] at this
   exact nn this
 rw [if_neg h1] at e
 by_cases h2:dm l=2
 · rw [if_pos h2] at e
   obtain ⟨k,hk⟩:=nm_par h2 all
   apply nn
   have:vdt (nmL l) n=0:=by rw [e]; unfold vdt vcr; simp only []; grind
   have h3:vdt n n=k*vdt (nmL l) n:=(congrArg (vdt · n) hk).trans (vdt_scl _ _ _)
   rw [h3,this]; grind
 · have h3:¬ A2 l:=fun h=>by have:=(dm_3 l).2 h; have:=dm_le l; omega
   obtain ⟨s,hs,u,hu,v,hv,t,ht,hh⟩:∃ s,s ∈ l∧∃ u,u ∈ l∧∃ v,v ∈ l∧∃ t,t ∈ l∧vdet (vsb u s) (vsb v s) (vsb t s) ≠ 0:=Classical.byContradiction fun hc=>h3 fun s hs u hu v hv t ht=>Classical.byContradiction fun h=>hc ⟨s,hs,u,hu,v,hv,t,ht,h⟩
   have p1:=all s hs u hu
   have p2:=all s hs v hv
   have p3:=all s hs t ht
   apply hn
   generalize vsb u s=u' at *
   generalize vsb v s=v' at *
   generalize vsb t s=t' at *
   unfold vdet vdt vcr at hh
   unfold vdt at p1 p2 p3
   simp only [] at hh p1 p2 p3
   rw [v0_iff]
   exact ⟨zero_of_mul hh (by grind),zero_of_mul hh (by grind),zero_of_mul hh (by grind)⟩
theorem nn2 {a b:Rat} (ha:0≤a) (hb:0≤b):0≤a*b:=Rat.mul_nonneg ha hb
theorem wIn_mx (h:x+y+z+w=1) (hx:0≤x) (hy:0≤y) (hz:0≤z) (hw:0≤w):wIn (mx x y z w a b c d) [a,b,c,d] ≠ -1∧(0<x→0<y→0<z→0<w→wIn (mx x y z w a b c d) [a,b,c,d]=1):=by
 have hn:¬ ∃ n o,Cd [a,b,c,d] n o∧vdt n (vsb (mx x y z w a b c d) o)<0:=by
  rintro ⟨n,o,hc,hlt⟩
  rw [mx_dt h] at hlt
  have q:=hc.2.2.1
  have:=nn2 hx (q a (by simp))
  have:=nn2 hy (q b (by simp))
  have:=nn2 hz (q c (by simp))
  have:=nn2 hw (q d (by simp))
  grind
 unfold wIn
 rw [dm_mx h,if_neg (by omega)]
 by_cases hd:dm [a,b,c,d]=0
 · rw [if_pos hd]; exact ⟨by decide,fun _ _ _ _=>rfl⟩
 rw [if_neg hd]
 constructor
 · by_cases h0:∃ n o,Cd [a,b,c,d] n o∧vdt n (vsb (mx x y z w a b c d) o)=0
   · rw [tri_2 hn h0]; decide
   · rw [tri_3 hn h0]; decide
 · intro px py pz pw
   refine tri_3 hn ?_
   rintro ⟨n,o,hc,he⟩
   rw [mx_dt h] at he
   have q:=hc.2.2.1
   have q1:=q a (by simp)
   have q2:=q b (by simp)
   have q3:=q c (by simp)
   have q4:=q d (by simp)
   have m1:=nn2 hx q1
   have m2:=nn2 hy q2
   have m3:=nn2 hz q3
   have m4:=nn2 hw q4
   refine Cd_not hd hc fun v hv=>?_
   have g1:vdt n (vsb a o)=0:=(Rat.mul_eq_zero.1 (show x*vdt n (vsb a o)=0 by grind)).resolve_left (by grind)
   have g2:vdt n (vsb b o)=0:=(Rat.mul_eq_zero.1 (show y*vdt n (vsb b o)=0 by grind)).resolve_left (by grind)
   have g3:vdt n (vsb c o)=0:=(Rat.mul_eq_zero.1 (show z*vdt n (vsb c o)=0 by grind)).resolve_left (by grind)
   have g4:vdt n (vsb d o)=0:=(Rat.mul_eq_zero.1 (show w*vdt n (vsb d o)=0 by grind)).resolve_left (by grind)
   simp only [List.mem_cons,List.not_mem_nil,or_false] at hv
   rcases hv with rfl|rfl|rfl|rfl<;>assumption
end
theorem dm_tet {a b c d:V3} (h:D2 a b c d ≠ 0):dm [a,b,c,d]=3:=by
 have h3:¬ A2 [a,b,c,d]:=fun k=>h (k a (by simp) b (by simp) c (by simp) d (by simp))
 have:=dm_le [a,b,c,d]
 have:=mt (dm_3 [a,b,c,d]).1 h3
 omega
theorem face {l:List V3} {p x y z u:V3} (hl:∀ q,q ∈ l ↔ q=x∨q=y∨q=z∨q=u) (hd:dm l=3) (h0:vdt (D1 x y z) (vsb u x) ≠ 0) (h:wIn p l=1):0<vdt (D1 x y z) (vsb p x)*vdt (D1 x y z) (vsb u x):=by
 have hp:¬ dm l<dm (p::l):=by have:=dm_le (p::l); omega
 unfold wIn at h
 rw [if_neg hp,if_neg (by omega)] at h
 have hneg:¬ ∃ n o,Cd l n o∧vdt n (vsb p o)<0:=fun k=>by rw [tri_1 k] at h; exact absurd h (by decide)
 have hzer:¬ ∃ n o,Cd l n o∧vdt n (vsb p o)=0:=fun k=>by rw [tri_2 hneg k] at h; exact absurd h (by decide)
 have key:∀ n,Cd l n x→0<vdt n (vsb p x):=fun n hc=>by
  rcases (show vdt n (vsb p x)<0∨vdt n (vsb p x)=0∨0<vdt n (vsb p x) by grind) with k|k|k
  · exact absurd ⟨n,x,hc,k⟩ hneg
  · exact absurd ⟨n,x,hc,k⟩ hzer
  · exact k
 have z1:vdt (D1 x y z) (vsb x x)=0:=by unfold D1 vdt vcr vsb; simp only []; grind
 have z2:vdt (D1 x y z) (vsb y x)=0:=by unfold D1 vdt vcr vsb; simp only []; grind
 have z3:vdt (D1 x y z) (vsb z x)=0:=by unfold D1 vdt vcr vsb; simp only []; grind
 have hx:x ∈ l:=(hl x).2 (.inl rfl)
 have hy:y ∈ l:=(hl y).2 (.inr (.inl rfl))
 have hz:z ∈ l:=(hl z).2 (.inr (.inr (.inl rfl)))
 have neg:D1 x z y=vsc (-1) (D1 x y z):=by unfold D1 vcr vsb vsc; refine v3_ext ?_ ?_ ?_<;>(simp only []; grind)
 have nz:D1 x y z ≠ v0:=fun e=>h0 (by rw [e]; unfold vdt v0; simp only []; grind)
 rcases (show 0<vdt (D1 x y z) (vsb u x)∨vdt (D1 x y z) (vsb u x)<0 by grind) with k|k
 · refine Rat.mul_pos (key _ ⟨hx,nz,fun q hq=>?_,y,hy,z,hz,?_⟩) k
   · rcases (hl q).1 hq with rfl|rfl|rfl|rfl<;>grind
   · unfold crossN; rw [if_neg (by omega),if_neg (by omega)]; rfl
 · have:=key (D1 x z y) ⟨hx,by rw [neg]; exact vsc_nz (by decide +kernel) nz,fun q hq=>by
    rw [neg,vdt_scl]
    rcases (hl q).1 hq with rfl|rfl|rfl|rfl<;>grind,z,hz,y,hy,by
     unfold crossN; rw [if_neg (by omega),if_neg (by omega)]; rfl⟩
   rw [neg,vdt_scl] at this
   have:=Rat.mul_pos (show 0 < -vdt (D1 x y z) (vsb p x) by grind) (show 0 < -vdt (D1 x y z) (vsb u x) by grind)
   grind
theorem bary {a b c d:V3} (p:V3) (h:D2 a b c d ≠ 0):p=mx (D2 p b c d / D2 a b c d) (D2 a p c d / D2 a b c d) (D2 a b p d / D2 a b c d) (D2 a b c p / D2 a b c d) a b c d∧D2 p b c d / D2 a b c d+D2 a p c d / D2 a b c d+D2 a b p d / D2 a b c d+D2 a b c p / D2 a b c d=1:=by
 have s1:D2 p b c d+D2 a p c d+D2 a b p d+D2 a b c p=D2 a b c d:=by unfold D2 vdet vdt vcr vsb; simp only []; grind
 have s2:vsc (D2 a b c d) p=vad (vad (vsc (D2 p b c d) a) (vsc (D2 a p c d) b)) (vad (vsc (D2 a b p d) c) (vsc (D2 a b c p) d)):=by
  unfold D2 vdet vdt vcr vsb vad vsc; refine v3_ext ?_ ?_ ?_<;>(simp only []; grind)
 generalize D2 p b c d=x at *
 generalize D2 a p c d=y at *
 generalize D2 a b p d=z at *
 generalize D2 a b c p=w at *
 generalize D2 a b c d=o at *
 simp only [Rat.div_def]
 have hi:=Rat.mul_inv_cancel o h
 generalize o⁻¹=i at *
 constructor
 · have e1:=congrArg (·.1) s2
   have e2:=congrArg (·.2.1) s2
   have e3:=congrArg (·.2.2) s2
   unfold vsc vad at e1 e2 e3
   simp only [] at e1 e2 e3
   unfold mx vad vsc
   refine v3_ext ?_ ?_ ?_<;>(simp only []; grind)
 · grind
theorem wIn_tet {a b c d p:V3} (h:D2 a b c d ≠ 0):wIn p [a,b,c,d]=1 ↔ (cmpQ (D2 p b c d) 0=cmpQ (D2 a b c d) 0∧cmpQ (D2 a p c d) 0=cmpQ (D2 a b c d) 0∧cmpQ (D2 a b p d) 0=cmpQ (D2 a b c d) 0∧cmpQ (D2 a b c p) 0=cmpQ (D2 a b c d) 0):=by
 have sg:∀ x:Rat,0<x*D2 a b c d ↔ cmpQ x 0=cmpQ (D2 a b c d) 0:=fun x=>by
  rcases (show 0<D2 a b c d∨D2 a b c d<0 by grind) with k|k
  · rw [cmpQ_iff_pos.2 k,cmpQ_iff_pos]
    constructor
    · intro hx
      rcases (show x≤0∨0<x by grind) with h'|h'
      · have:=nn2 (show 0≤-x by grind) (show 0≤D2 a b c d by grind); grind
      · exact h'
    · intro hx; exact Rat.mul_pos hx k
  · rw [cmpQ_iff_neg.2 k,cmpQ_iff_neg]
    constructor
    · intro hx
      rcases (show 0≤x∨x<0 by grind) with h'|h'
      · have:=nn2 h' (show 0≤-D2 a b c d by grind); grind
      · exact h'
    · intro hx; have:=Rat.mul_pos (show 0 < -x by grind) (show 0 < -D2 a b c d by grind); grind
 constructor
 · intro hw
   have hd:=dm_tet h
   have f1:vdt (D1 b c d) (vsb p b) = -D2 p b c d∧vdt (D1 b c d) (vsb a b) = -D2 a b c d:=by unfold D1 D2 vdet vdt vcr vsb; simp only []; exact ⟨by grind,by grind⟩
   have f2:vdt (D1 a c d) (vsb p a)=D2 a p c d∧vdt (D1 a c d) (vsb b a)=D2 a b c d:=by unfold D1 D2 vdet vdt vcr vsb; simp only []; exact ⟨by grind,by grind⟩
   have f3:vdt (D1 a b d) (vsb p a) = -D2 a b p d∧vdt (D1 a b d) (vsb c a) = -D2 a b c d:=by unfold D1 D2 vdet vdt vcr vsb; simp only []; exact ⟨by grind,by grind⟩
   have f4:vdt (D1 a b c) (vsb p a)=D2 a b c p∧vdt (D1 a b c) (vsb d a)=D2 a b c d:=by unfold D1 D2 vdet vdt vcr vsb; simp only []; exact ⟨by grind,by grind⟩
   have g1:=face (l:=[a,b,c,d]) (p:=p) (x:=b) (y:=c) (z:=d) (u:=a) (fun q=>by simp only [List.mem_cons,List.not_mem_nil,or_false]; constructor<;>intro h<;>rcases h with h|h|h|h<;>simp [h]) hd (by rw [f1.2]; grind) hw
   have g2:=face (l:=[a,b,c,d]) (p:=p) (x:=a) (y:=c) (z:=d) (u:=b) (fun q=>by simp only [List.mem_cons,List.not_mem_nil,or_false]; constructor<;>intro h<;>rcases h with h|h|h|h<;>simp [h]) hd (by rw [f2.2]; exact h) hw
   have g3:=face (l:=[a,b,c,d]) (p:=p) (x:=a) (y:=b) (z:=d) (u:=c) (fun q=>by simp only [List.mem_cons,List.not_mem_nil,or_false]; constructor<;>intro h<;>rcases h with h|h|h|h<;>simp [h]) hd (by rw [f3.2]; grind) hw
   have g4:=face (l:=[a,b,c,d]) (p:=p) (x:=a) (y:=b) (z:=c) (u:=d) (fun q=>by simp only [List.mem_cons,List.not_mem_nil,or_false]) hd (by rw [f4.2]; exact h) hw
   rw [f1.1,f1.2] at g1
   rw [f2.1,f2.2] at g2
   rw [f3.1,f3.2] at g3
   rw [f4.1,f4.2] at g4
   exact ⟨(sg _).1 (by grind),(sg _).1 g2,(sg _).1 (by grind),(sg _).1 g4⟩
 · rintro ⟨h1,h2,h3,h4⟩
   rw [← sg] at h1 h2 h3 h4
   obtain ⟨e,es⟩:=bary p h
   have hoo:0<D2 a b c d*D2 a b c d:=by
    rcases (show 0<D2 a b c d∨D2 a b c d<0 by grind) with k|k
    · exact Rat.mul_pos k k
    · have:=Rat.mul_pos (show 0 < -D2 a b c d by grind) (show 0 < -D2 a b c d by grind); grind
   have dv:∀ x:Rat,0<x*D2 a b c d→0<x / D2 a b c d:=fun x hx=>by
    have e1:x / D2 a b c d=(x*D2 a b c d)*(D2 a b c d*D2 a b c d)⁻¹:=by
     refine mul_cancel (show D2 a b c d*D2 a b c d ≠ 0 by grind) ?_
     have i1:=Rat.div_mul_cancel (a:=x) h
     have i2:=Rat.inv_mul_cancel (D2 a b c d*D2 a b c d) (by grind)
     generalize x / D2 a b c d=q at *
     generalize (D2 a b c d*D2 a b c d)⁻¹=r at *
     grind
    rw [e1]; exact Rat.mul_pos hx (Rat.inv_pos.2 hoo)
   have p1:=dv _ h1
   have p2:=dv _ h2
   have p3:=dv _ h3
   have p4:=dv _ h4
   have:=(wIn_mx (a:=a) (b:=b) (c:=c) (d:=d) es (by grind) (by grind) (by grind) (by grind)).2 p1 p2 p3 p4
   rw [← e] at this
   exact this
def Btw (a p b:V3):Prop:=wIn p [a,b] ≠ -1
theorem same2 (a b:V3):same [a,b] [b,a]:=fun x=>by simp only [List.mem_cons,List.not_mem_nil,or_false]; exact ⟨fun h=>h.symm,fun h=>h.symm⟩
theorem same24 (a b:V3):same [a,b] [a,b,b,b]:=fun x=>by simp
theorem btw_sym {a p b:V3}:Btw b p a ↔ Btw a p b:=by unfold Btw; rw [wIn_same (same2 b a) p]
theorem btw_map {k:Rat} (hk:0<k) (v:V3) {a p b:V3}:Btw (vad (vsc k a) v) (vad (vsc k p) v) (vad (vsc k b) v) ↔ Btw a p b:=by
 unfold Btw; rw [← wIn_map hk v p [a,b]]; rfl
theorem btw_end (a b:V3):Btw a a b∧Btw a b b:=⟨wIn_corner (by simp),wIn_corner (by simp)⟩
theorem mx_seg (t:Rat) (a b:V3):vad a (vsc t (vsb b a))=mx (1-t) t 0 0 a b b b:=by
 unfold mx vad vsc vsb; refine v3_ext ?_ ?_ ?_<;>(simp only []; grind)
theorem btw_mx {t:Rat} (h0:0≤t) (h1:t≤1) (a b:V3):Btw a (vad a (vsc t (vsb b a))) b:=by
 unfold Btw
 rw [wIn_same (same24 a b),mx_seg]
 exact (wIn_mx (by grind) (by grind) h0 (by grind) (by grind)).1
theorem btw_seg {t:Rat} {a b:V3} (hu:vsb b a ≠ v0):Btw a (vad a (vsc t (vsb b a))) b ↔ 0≤t∧t≤1:=by
 constructor
 · intro h
   have hd:dm [a,b]=1:=by
    have h0:¬ A0 [a,b]:=fun k=>hu (vsb_0.2 (k b (by simp) a (by simp)))
    have h1:A1 [a,b]:=fun x hx y hy z hz=>by
     simp only [List.mem_cons,List.not_mem_nil,or_false] at hx hy hz
     rcases hx with rfl|rfl<;>rcases hy with rfl|rfl<;>rcases hz with rfl|rfl<;>(rw [v0_iff]; unfold vcr vsb; simp only []; exact ⟨by grind,by grind,by grind⟩)
    have:=mt (dm_1 _).1 h0
    have:=(dm_2 _).2 h1
    omega
   have hp:dm (vad a (vsc t (vsb b a))::[a,b])=dm [a,b]:=by
    rw [dm_same (same_cons (same24 a b) _),mx_seg,dm_mx (by grind),← dm_same (same24 a b)]
   unfold Btw wIn at h
   rw [hp,if_neg (by omega),if_neg (by omega)] at h
   have hn:¬ ∃ n o,Cd [a,b] n o∧vdt n (vsb (vad a (vsc t (vsb b a))) o)<0:=fun k=>h (tri_1 k)
   have pu:=dt_pos hu
   have cr:∀ x y z,crossN (dm [a,b]) [a,b] x y z=vsb y x:=fun x y z=>by unfold crossN; rw [if_pos hd]
   have e0:∀ u o:V3,vdt u (vsb o o)=0:=fun u o=>by unfold vdt vsb; simp only []; grind
   have ng:vsb a b=vsc (-1) (vsb b a):=vsb_neg b a
   have c1:Cd [a,b] (vsb b a) a:=⟨by simp,hu,fun q hq=>by
    simp only [List.mem_cons,List.not_mem_nil,or_false] at hq
    rcases hq with rfl|rfl
    · rw [e0]; exact Rat.le_refl
    · grind,b,by simp,b,by simp,(cr _ _ _).symm⟩
   have c2:Cd [a,b] (vsb a b) b:=⟨by simp,fun e=>hu (vsb_0.2 (vsb_0.1 e).symm),fun q hq=>by
    simp only [List.mem_cons,List.not_mem_nil,or_false] at hq
    rcases hq with rfl|rfl
    · rw [ng,vdt_scl,vdt_sc2]; grind
    · rw [e0]; exact Rat.le_refl,a,by simp,a,by simp,(cr _ _ _).symm⟩
   have v1:vdt (vsb b a) (vsb (vad a (vsc t (vsb b a))) a)=t*vdt (vsb b a) (vsb b a):=by rw [vsb_vad,vdt_sc2]
   have v2:vdt (vsb a b) (vsb (vad a (vsc t (vsb b a))) b)=(1-t)*vdt (vsb b a) (vsb b a):=by unfold vdt vsb vad vsc; simp only []; grind
   constructor
   · rcases (show t<0∨0≤t by grind) with k|k
     · have:=Rat.mul_pos (show 0 < -t by grind) pu
       exact absurd ⟨_,_,c1,by rw [v1]; grind⟩ hn
     · exact k
   · rcases (show 1<t∨t≤1 by grind) with k|k
     · have:=Rat.mul_pos (show 0<t-1 by grind) pu
       exact absurd ⟨_,_,c2,by rw [v2]; grind⟩ hn
     · exact k
 · rintro ⟨h0,h1⟩; exact btw_mx h0 h1 a b
def prt (x n:V3):Prop:=0≤vdt x n∧vdt x n≤vdt n n
def crN (a b c d:V3):V3:=vcr (vsb b a) (vsb d c)
def CrE (a b c d:V3):Prop:=Btw a c b∨Btw a d b∨Btw c a d∨Btw c b d∨(crN a b c d ≠ v0∧vdt (vsb c a) (crN a b c d)=0∧prt (vcr (vsb c a) (vsb d c)) (crN a b c d)∧prt (vcr (vsb c a) (vsb b a)) (crN a b c d))
theorem crE_1 (a b c d:V3):CrE b a c d ↔ CrE a b c d:=by
 have e1:crN b a c d=vsc (-1) (crN a b c d):=by unfold crN vcr vsb vsc; refine v3_ext ?_ ?_ ?_<;>(simp only []; grind)
 have e2:vdt (vsb c b) (vsc (-1) (crN a b c d)) = -vdt (vsb c a) (crN a b c d):=by unfold crN vdt vcr vsb vsc; simp only []; grind
 have e3:vdt (vsc (-1) (crN a b c d)) (vsc (-1) (crN a b c d))=vdt (crN a b c d) (crN a b c d):=by unfold vdt vsc; simp only []; grind
 have e4:vdt (vcr (vsb c b) (vsb d c)) (vsc (-1) (crN a b c d))=vdt (crN a b c d) (crN a b c d)-vdt (vcr (vsb c a) (vsb d c)) (crN a b c d):=by
  unfold crN vdt vcr vsb vsc; simp only []; grind
 have e5:vdt (vcr (vsb c b) (vsb a b)) (vsc (-1) (crN a b c d))=vdt (vcr (vsb c a) (vsb b a)) (crN a b c d):=by unfold crN vdt vcr vsb vsc; simp only []; grind
 have p1:prt (vcr (vsb c b) (vsb d c)) (vsc (-1) (crN a b c d)) ↔ prt (vcr (vsb c a) (vsb d c)) (crN a b c d):=by
  unfold prt; rw [e3,e4]; constructor<;>intro h<;>exact ⟨by grind,by grind⟩
 have p2:prt (vcr (vsb c b) (vsb a b)) (vsc (-1) (crN a b c d)) ↔ prt (vcr (vsb c a) (vsb b a)) (crN a b c d):=by
  unfold prt; rw [e3,e5]
 have z : -vdt (vsb c a) (crN a b c d)=0 ↔ vdt (vsb c a) (crN a b c d)=0:=⟨fun h=>by grind,fun h=>by grind⟩
 have nz:vsc (-1) (crN a b c d) ≠ v0 ↔ crN a b c d ≠ v0:=not_congr neg_v0
 unfold CrE
 rw [e1,e2,p1,p2,z,nz,@btw_sym a c b,@btw_sym a d b]
 constructor<;>intro h<;>rcases h with h|h|h|h|h<;>simp [h]
theorem crE_2 (a b c d:V3):CrE c d a b ↔ CrE a b c d:=by
 have e1:crN c d a b=vsc (-1) (crN a b c d):=by unfold crN vcr vsb vsc; refine v3_ext ?_ ?_ ?_<;>(simp only []; grind)
 have e2:vdt (vsb a c) (vsc (-1) (crN a b c d))=vdt (vsb c a) (crN a b c d):=by unfold crN vdt vcr vsb vsc; simp only []; grind
 have e3:vdt (vsc (-1) (crN a b c d)) (vsc (-1) (crN a b c d))=vdt (crN a b c d) (crN a b c d):=by unfold vdt vsc; simp only []; grind
 have e4:vdt (vcr (vsb a c) (vsb b a)) (vsc (-1) (crN a b c d))=vdt (vcr (vsb c a) (vsb b a)) (crN a b c d):=by unfold crN vdt vcr vsb vsc; simp only []; grind
 have e5:vdt (vcr (vsb a c) (vsb d c)) (vsc (-1) (crN a b c d))=vdt (vcr (vsb c a) (vsb d c)) (crN a b c d):=by unfold crN vdt vcr vsb vsc; simp only []; grind
 have p1:prt (vcr (vsb a c) (vsb b a)) (vsc (-1) (crN a b c d)) ↔ prt (vcr (vsb c a) (vsb b a)) (crN a b c d):=by unfold prt; rw [e3,e4]
 have p2:prt (vcr (vsb a c) (vsb d c)) (vsc (-1) (crN a b c d)) ↔ prt (vcr (vsb c a) (vsb d c)) (crN a b c d):=by unfold prt; rw [e3,e5]
 have nz:vsc (-1) (crN a b c d) ≠ v0 ↔ crN a b c d ≠ v0:=not_congr neg_v0
 unfold CrE
 rw [e1,e2,p1,p2,nz]
 constructor<;>intro h<;>rcases h with h|h|h|h|h<;>simp [h]
theorem crE_3 (a b c d:V3):CrE d c b a ↔ CrE a b c d:=by rw [crE_2,crE_1,← crE_2,crE_1,crE_2]
theorem crE_map {k:Rat} (hk:0<k) (v:V3) (a b c d:V3):CrE (vad (vsc k a) v) (vad (vsc k b) v) (vad (vsc k c) v) (vad (vsc k d) v) ↔ CrE a b c d:=by
 have kk:0<k*k:=Rat.mul_pos hk hk
 have k3:0<k*(k*k):=Rat.mul_pos hk kk
 have k4:0<k*k*(k*k):=Rat.mul_pos kk kk
 have es:∀ x y:V3,vsb (vad (vsc k y) v) (vad (vsc k x) v)=vsc k (vsb y x):=fun x y=>by unfold vsb vad vsc; refine v3_ext ?_ ?_ ?_<;>(simp only []; grind)
 have ec:∀ a b:V3,vcr (vsc k a) (vsc k b)=vsc (k*k) (vcr a b):=fun a b=>by unfold vcr vsc; refine v3_ext ?_ ?_ ?_<;>(simp only []; grind)
 have e1:crN (vad (vsc k a) v) (vad (vsc k b) v) (vad (vsc k c) v) (vad (vsc k d) v)=vsc (k*k) (crN a b c d):=by unfold crN; rw [es,es,ec]
 have e2:vdt (vsc k (vsb c a)) (vsc (k*k) (crN a b c d))=k*(k*k)*vdt (vsb c a) (crN a b c d):=by unfold vdt vsc; simp only []; grind
 have e3:∀ x y:V3,vdt (vsc (k*k) x) (vsc (k*k) y)=k*k*(k*k)*vdt x y:=fun x y=>by unfold vdt vsc; simp only []; grind
 have le:∀ x y:Rat,k*k*(k*k)*x≤k*k*(k*k)*y ↔ x≤y:=fun x y=>by
  constructor
  · intro h
    rcases (show y<x∨x≤y by grind) with g|g
    · have:=Rat.mul_pos k4 (show 0<x-y by grind); grind
    · exact g
  · intro h; have:=nn2 (show 0≤k*k*(k*k) by grind) (show 0≤y-x by grind); grind
 have p:∀ x n:V3,prt (vsc (k*k) x) (vsc (k*k) n) ↔ prt x n:=fun x n=>by
  unfold prt; rw [e3,e3,le]
  have:=le 0 (vdt x n)
  rw [show k*k*(k*k)*0=(0:Rat) by grind] at this
  rw [this]
 have z:k*(k*k)*vdt (vsb c a) (crN a b c d)=0 ↔ vdt (vsb c a) (crN a b c d)=0:=by rw [← cmpQ_iff_0,cmpQ_pos k3,cmpQ_iff_0]
 have nz:vsc (k*k) (crN a b c d) ≠ v0 ↔ crN a b c d ≠ v0:=⟨fun h e=>h (by rw [e,sc_v0]),fun h=>vsc_nz (by grind) h⟩
 unfold CrE
 rw [e1,es,es,es,ec,ec,e2,p,p,z,nz,btw_map hk,btw_map hk,btw_map hk,btw_map hk]
def CrD (a b c d:V3):Prop:=Btw a c b∨Btw a d b∨Btw c a d∨Btw c b d∨(crN a b c d ≠ v0∧vdt (vsb c a) (crN a b c d)=0 ∧
 Btw a (vad a (vsc (vdt (vcr (vsb c a) (vsb d c)) (crN a b c d) / vdt (crN a b c d) (crN a b c d)) (vsb b a))) b∧Btw c (vad a (vsc (vdt (vcr (vsb c a) (vsb d c)) (crN a b c d) / vdt (crN a b c d) (crN a b c d)) (vsb b a))) d)
theorem crD_eq (a b c d:V3):CrD a b c d ↔ CrE a b c d:=by
 unfold CrD CrE
 have key:crN a b c d ≠ v0→vdt (vsb c a) (crN a b c d)=0→((Btw a (vad a (vsc (vdt (vcr (vsb c a) (vsb d c)) (crN a b c d) / vdt (crN a b c d) (crN a b c d)) (vsb b a))) b∧Btw c (vad a (vsc (vdt (vcr (vsb c a) (vsb d c)) (crN a b c d) / vdt (crN a b c d) (crN a b c d)) (vsb b a))) d) ↔ (prt (vcr (vsb c a) (vsb d c)) (crN a b c d)∧prt (vcr (vsb c a) (vsb b a)) (crN a b c d))):=fun h0 hz=>by
  have hu:vsb b a ≠ v0:=fun e=>h0 (by unfold crN; rw [e]; exact vcr_v0l _)
  have hv:vsb d c ≠ v0:=fun e=>h0 (by unfold crN; rw [e]; exact vcr_v0r _)
  have hx:=cross_pt (vsb b a) (vsb d c) (vsb c a)
  rw [show vcr (vsb b a) (vsb d c)=crN a b c d from rfl,hz] at hx
  have hD:=dt_self h0
  have pD:=dt_pos h0
  have a1:=Rat.div_mul_cancel (a:=vdt (vcr (vsb c a) (vsb d c)) (crN a b c d)) hD
  have a2:=Rat.div_mul_cancel (a:=vdt (vcr (vsb c a) (vsb b a)) (crN a b c d)) hD
  have rng:∀ t:Rat,(0≤t∧t≤1) ↔ (0≤t*vdt (crN a b c d) (crN a b c d)∧t*vdt (crN a b c d) (crN a b c d)≤vdt (crN a b c d) (crN a b c d)):=fun t=>by
   constructor
   · rintro ⟨h1,h2⟩
     have:=nn2 h1 (show 0≤vdt (crN a b c d) (crN a b c d) by grind)
     have:=nn2 (show 0≤1-t by grind) (show 0≤vdt (crN a b c d) (crN a b c d) by grind)
     exact ⟨by grind,by grind⟩
   · rintro ⟨h1,h2⟩
     constructor
     · rcases (show t<0∨0≤t by grind) with g|g
       · have:=Rat.mul_pos (show 0 < -t by grind) pD; grind
       · exact g
     · rcases (show 1<t∨t≤1 by grind) with g|g
       · have:=Rat.mul_pos (show 0<t-1 by grind) pD; grind
       · exact g
  have pt:vad a (vsc (vdt (vcr (vsb c a) (vsb d c)) (crN a b c d) / vdt (crN a b c d) (crN a b c d)) (vsb b a))=vad c (vsc (vdt (vcr (vsb c a) (vsb b a)) (crN a b c d) / vdt (crN a b c d) (crN a b c d)) (vsb d c)):=by
   generalize vdt (vcr (vsb c a) (vsb d c)) (crN a b c d) / vdt (crN a b c d) (crN a b c d)=s at *
   generalize vdt (vcr (vsb c a) (vsb b a)) (crN a b c d) / vdt (crN a b c d) (crN a b c d)=t at *
   rw [← a1,← a2] at hx
   generalize vdt (crN a b c d) (crN a b c d)=D at *
   generalize crN a b c d=n at *
   have g1:=congrArg (·.1) hx
   have g2:=congrArg (·.2.1) hx
   have g3:=congrArg (·.2.2) hx
   unfold vsc vad vsb at g1 g2 g3
   simp only [] at g1 g2 g3
   unfold vad vsc vsb
   refine v3_ext (mul_cancel hD ?_) (mul_cancel hD ?_) (mul_cancel hD ?_)<;>(simp only []; grind)
  unfold prt
  rw [btw_seg hu,pt,btw_seg hv,rng,rng,a1,a2]
 constructor<;>intro h<;>rcases h with h|h|h|h|⟨h1,h2,h3⟩
 · exact .inl h
 · exact .inr (.inl h)
 · exact .inr (.inr (.inl h))
 · exact .inr (.inr (.inr (.inl h)))
 · exact .inr (.inr (.inr (.inr ⟨h1,h2,(key h1 h2).1 h3⟩)))
 · exact .inl h
 · exact .inr (.inl h)
 · exact .inr (.inr (.inl h))
 · exact .inr (.inr (.inr (.inl h)))
 · exact .inr (.inr (.inr (.inr ⟨h1,h2,(key h1 h2).2 h3⟩)))
theorem D2_turn (a b c d:V3):D2 b a c d = -D2 a b c d∧D2 a c b d = -D2 a b c d∧D2 a b d c = -D2 a b c d:=by
 unfold D2 vdet vdt vcr vsb; simp only []; exact ⟨by grind,by grind,by grind⟩
theorem D2_map (k:Rat) (v a b c d:V3):D2 (vad (vsc k a) v) (vad (vsc k b) v) (vad (vsc k c) v) (vad (vsc k d) v)=k*k*k*D2 a b c d:=by
 unfold D2 vdet vdt vcr vsb vad vsc; simp only []; grind
def atL (l:List V3) (i:Nat):V3:=l.getD i v0
theorem atL_in {l:List V3} {i:Nat} (h:i<l.length):atL l i ∈ l:=by
 unfold atL; rw [List.getD_eq_getElem?_getD,List.getElem?_eq_getElem h]; exact List.getElem_mem h
theorem in_atL {l:List V3} {a:V3} (h:a ∈ l):∃ i,i<l.length∧atL l i=a:=by
 obtain ⟨i,hi,e⟩:=List.getElem_of_mem h
 refine ⟨i,hi,?_⟩
 unfold atL; rw [List.getD_eq_getElem?_getD,List.getElem?_eq_getElem hi]; exact e
noncomputable def cN (l:List V3) (i j k:Nat):V3:=crossN (dm l) l (atL l i) (atL l j) (atL l k)
def Gd (sk:Nat→Nat→Nat→Bool) (l:List V3) (i j k:Nat):Prop:=sk i j k=false∧cN l i j k ≠ v0∧∀ q ∈ l,0≤vdt (cN l i j k) (vsb q (atL l i))
def bef (i j k i' j' k':Nat):Prop:=i'<i∨(i'=i∧(j'<j∨(j'=j∧k'<k)))
def Jw (sk:Nat→Nat→Nat→Bool) (p:V3) (l:List V3) (i j k:Nat) (w:Int):Prop :=
 (w=0∨w=1)∧(∀ i' j' k',j'<l.length→k'<l.length→bef i j k i' j' k'→Gd sk l i' j' k'→0≤vdt (cN l i' j' k') (vsb p (atL l i'))) ∧
 (w=0 ↔ ∃ i' j' k',j'<l.length∧k'<l.length∧bef i j k i' j' k'∧Gd sk l i' j' k'∧vdt (cN l i' j' k') (vsb p (atL l i'))=0)
variable {sk:Nat→Nat→Nat→Bool} {p:V3} {l:List V3} {i j k:Nat} {w:Int}
theorem Jw_0:Jw sk p l 0 0 0 1:=⟨.inr rfl,fun i' j' k' _ _ h=>by unfold bef at h; omega,⟨fun h=>absurd h (by decide),fun ⟨i',j',k',_,_,h,_⟩=>by unfold bef at h; omega⟩⟩
theorem bef_next (i j k i' j' k':Nat):bef i j (k+1) i' j' k' ↔ bef i j k i' j' k'∨(i'=i∧j'=j∧k'=k):=by unfold bef; omega
theorem Jw_skip (hj:Jw sk p l i j k w) (h:¬ Gd sk l i j k):Jw sk p l i j (k+1) w:=by
 obtain ⟨h1,h2,h3⟩:=hj
 refine ⟨h1,fun i' j' k' a b c g=>?_,h3.trans ⟨fun ⟨i',j',k',a,b,c,g⟩=>⟨i',j',k',a,b,(bef_next ..).2 (.inl c),g⟩,fun ⟨i',j',k',a,b,c,g⟩=>?_⟩⟩
 · rcases (bef_next ..).1 c with c|⟨rfl,rfl,rfl⟩
   · exact h2 i' j' k' a b c g
   · exact absurd g h
 · rcases (bef_next ..).1 c with c|⟨rfl,rfl,rfl⟩
   · exact ⟨i',j',k',a,b,c,g⟩
   · exact absurd g.1 h
theorem Jw_pos (hj:Jw sk p l i j k w) (h:0<vdt (cN l i j k) (vsb p (atL l i))):Jw sk p l i j (k+1) w:=by
 obtain ⟨h1,h2,h3⟩:=hj
 refine ⟨h1,fun i' j' k' a b c g=>?_,h3.trans ⟨fun ⟨i',j',k',a,b,c,g⟩=>⟨i',j',k',a,b,(bef_next ..).2 (.inl c),g⟩,fun ⟨i',j',k',a,b,c,g⟩=>?_⟩⟩
 · rcases (bef_next ..).1 c with c|⟨rfl,rfl,rfl⟩
   · exact h2 i' j' k' a b c g
   · grind
 · rcases (bef_next ..).1 c with c|⟨rfl,rfl,rfl⟩
   · exact ⟨i',j',k',a,b,c,g⟩
   · have:=g.2; grind
theorem Jw_zero (hj:Jw sk p l i j k w) (hl:j<l.length) (hk:k<l.length) (hg:Gd sk l i j k) (h:vdt (cN l i j k) (vsb p (atL l i))=0):Jw sk p l i j (k+1) 0:=by
 obtain ⟨h1,h2,h3⟩:=hj
 refine ⟨.inl rfl,fun i' j' k' a b c g=>?_,⟨fun _=>⟨i,j,k,hl,hk,(bef_next ..).2 (.inr ⟨rfl,rfl,rfl⟩),hg,h⟩,fun _=>rfl⟩⟩
 rcases (bef_next ..).1 c with c|⟨rfl,rfl,rfl⟩
 · exact h2 i' j' k' a b c g
 · grind
theorem Jw_roll (hj:Jw sk p l i j l.length w):Jw sk p l i (j+1) 0 w:=by
 obtain ⟨h1,h2,h3⟩:=hj
 have e:∀ i' j' k',k'<l.length→(bef i (j+1) 0 i' j' k' ↔ bef i j l.length i' j' k'):=fun i' j' k' h=>by unfold bef; omega
 exact ⟨h1,fun i' j' k' a b c g=>h2 i' j' k' a b ((e _ _ _ b).1 c) g,h3.trans ⟨fun ⟨i',j',k',a,b,c,g⟩=>⟨i',j',k',a,b,(e _ _ _ b).2 c,g⟩,fun ⟨i',j',k',a,b,c,g⟩=>⟨i',j',k',a,b,(e _ _ _ b).1 c,g⟩⟩⟩
theorem Jw_rol2 (hj:Jw sk p l i l.length 0 w):Jw sk p l (i+1) 0 0 w:=by
 obtain ⟨h1,h2,h3⟩:=hj
 have e:∀ i' j' k',j'<l.length→(bef (i+1) 0 0 i' j' k' ↔ bef i l.length 0 i' j' k'):=fun i' j' k' h=>by unfold bef; omega
 exact ⟨h1,fun i' j' k' a b c g=>h2 i' j' k' a b ((e _ _ _ a).1 c) g,h3.trans ⟨fun ⟨i',j',k',a,b,c,g⟩=>⟨i',j',k',a,b,(e _ _ _ a).2 c,g⟩,fun ⟨i',j',k',a,b,c,g⟩=>⟨i',j',k',a,b,(e _ _ _ a).1 c,g⟩⟩⟩
def allB (sk:Nat→Nat→Nat→Bool) (l:List V3):Prop:=∀ n a,Cd l n a→∃ i j k,i<l.length∧j<l.length∧k<l.length∧Gd sk l i j k∧cN l i j k=n∧atL l i=a
theorem Gd_Cd (hi:i<l.length) (hj:j<l.length) (hk:k<l.length) (h:Gd sk l i j k):Cd l (cN l i j k) (atL l i):=⟨atL_in hi,h.2.1,h.2.2,_,atL_in hj,_,atL_in hk,rfl⟩
theorem Jw_end (ha:allB sk l) (h0:¬ dm l<dm (p::l)) (h1:dm l ≠ 0) (hj:Jw sk p l l.length 0 0 w):wIn p l=w:=by
 obtain ⟨g1,g2,g3⟩:=hj
 have hb:∀ {i' j' k':Nat},i'<l.length→bef l.length 0 0 i' j' k':=fun h=>.inl h
 have hn:¬ ∃ n a,Cd l n a∧vdt n (vsb p a)<0:=by
  rintro ⟨n,a,hc,hlt⟩
  obtain ⟨i,j,k,hi,hj,hk,hg,e1,e2⟩:=ha n a hc
  have:=g2 i j k hj hk (hb hi) hg
  rw [e1,e2] at this
  grind
 unfold wIn
 rw [if_neg h0,if_neg h1]
 rcases g1 with rfl|rfl
 · obtain ⟨i,j,k,hj,hk,hbe,hg,e⟩:=g3.1 rfl
   have hi:i<l.length:=by unfold bef at hbe; omega
   exact tri_2 hn ⟨_,_,Gd_Cd hi hj hk hg,e⟩
 · refine tri_3 hn ?_
   rintro ⟨n,a,hc,hz⟩
   obtain ⟨i,j,k,hi,hj,hk,hg,e1,e2⟩:=ha n a hc
   exact absurd (g3.2 ⟨i,j,k,hj,hk,hb hi,hg,by rw [e1,e2]; exact hz⟩) (by decide)
theorem Jw_out (h0:¬ dm l<dm (p::l)) (h1:dm l ≠ 0) (hi:i<l.length) (hj:j<l.length) (hk:k<l.length) (hg:Gd sk l i j k) (h:vdt (cN l i j k) (vsb p (atL l i))<0):wIn p l = -1:=by
 unfold wIn
 rw [if_neg h0,if_neg h1]
 exact tri_1 ⟨_,_,Gd_Cd hi hj hk hg,h⟩
theorem allB_r:allB (fun _ _ _=>false) l:=fun n a ⟨ha,hn,hq,b,hb,c,hc,e⟩=>by
 obtain ⟨i,hi,ei⟩:=in_atL ha
 obtain ⟨j,hj,ej⟩:=in_atL hb
 obtain ⟨k,hk,ek⟩:=in_atL hc
 have en:cN l i j k=n:=by unfold cN; rw [ei,ej,ek,e]
 exact ⟨i,j,k,hi,hj,hk,⟨rfl,by rw [en]; exact hn,by rw [en,ei]; exact hq⟩,en,ei⟩
def skP (d:Nat) (i j k:Nat):Bool:=decide (i=j) || (decide (d=3) && (decide (k=i) || decide (k=j)) || (decide (d<3) && decide (0<k)))
theorem vcr_z (a b:V3):vcr a (vsb b b)=v0∧vcr (vsb b b) a=v0:=by rw [vsb_self]; exact ⟨vcr_v0r a,vcr_v0l a⟩
theorem allB_p (h1:dm l ≠ 0):allB (skP (dm l)) l:=fun n a ⟨ha,hn,hq,b,hb,c,hc,e⟩=>by
 obtain ⟨i,hi,ei⟩:=in_atL ha
 obtain ⟨j,hj,ej⟩:=in_atL hb
 have hij:i ≠ j:=fun h=>hn (by
  have eab:a=b:=by rw [← ei,← ej,h]
  rw [e,eab]; unfold crossN
  split
  · exact vsb_self b
  · split
    · exact (vcr_z _ _).1
    · exact (vcr_z _ _).2)
 by_cases h3:dm l=3
 · obtain ⟨k,hk,ek⟩:=in_atL hc
   have ec:crossN (dm l) l a b c=vcr (vsb b a) (vsb c a):=by unfold crossN; rw [if_neg (by omega),if_neg (by omega)]
   have hki:k ≠ i:=fun h=>hn (by
    have:c=a:=by rw [← ek,← ei,h]
    rw [e,ec,this]; exact (vcr_z _ _).1)
   have hkj:k ≠ j:=fun h=>hn (by
    have:c=b:=by rw [← ek,← ej,h]
    rw [e,ec,this]; rw [v0_iff]; unfold vcr; simp only []; exact ⟨by grind,by grind,by grind⟩)
   have en:cN l i j k=n:=by unfold cN; rw [ei,ej,ek,e]
   exact ⟨i,j,k,hi,hj,hk,⟨by unfold skP; simp [hij,hki,hkj,h3],by rw [en]; exact hn,by rw [en,ei]; exact hq⟩,en,ei⟩
 · have hd:dm l<3:=by have:=dm_le l; omega
   have en:cN l i j 0=n:=by
    unfold cN; rw [ei,ej,e]; unfold crossN
    by_cases c1:dm l=1
    · rw [if_pos c1,if_pos c1]
    · have c2:dm l=2:=by omega
      rw [if_neg c1,if_neg c1,if_pos c2,if_pos c2]
   exact ⟨i,j,0,hi,hj,by omega,⟨by unfold skP; simp [hij,h3],by rw [en]; exact hn,by rw [en,ei]; exact hq⟩,en,ei⟩
end Go.Proofs.YtapddfjimhohcaaGreatDoor.AM
/- Hulls of points that are given. -/
namespace Go.Proofs.YtapddfjimhohcaaGreatDoor.AM
set_option linter.all false
set_option autoImplicit true
set_option relaxedAutoImplicit true
open Go Go.Proofs
set_option maxRecDepth 100000
set_option maxHeartbeats 4000000
def crossD (d:Nat) (n a b c:V3):V3:=if d=1 then vsb b a else if d=2 then vcr n (vsb b a) else vcr (vsb b a) (vsb c a)
def cds (d:Nat) (n:V3) (l:List V3):List (V3 × V3):=l.flatMap fun a=>l.flatMap fun b=>l.map fun c=>(crossD d n a b c,a)
def cdv (d:Nat) (n p:V3) (l:List V3):List Rat:=((cds d n l).filter fun x=>decide (x.1 ≠ v0) && l.all fun q=>decide (0≤vdt x.1 (vsb q x.2))).map fun x=>vdt x.1 (vsb p x.2)
def wCl (d e:Nat) (p:V3) (l:List V3):Int:=if d<e then -1 else if d=0 then 1 else if (cdv d (nmL l) p l).any (fun x=>decide (x<0)) then -1 else if (cdv d (nmL l) p l).any (fun x=>decide (x=0)) then 0 else 1
theorem cdv_mem {d:Nat} {p:V3} {l:List V3} {v:Rat} (hd:dm l=d):v ∈ cdv d (nmL l) p l ↔ ∃ n a,Cd l n a∧vdt n (vsb p a)=v:=by
 unfold cdv cds Cd
 simp only [List.mem_map,List.mem_filter,List.mem_flatMap,Bool.and_eq_true,decide_eq_true_eq,List.all_eq_true]
 constructor
 · rintro ⟨x,⟨⟨a,ha,b,hb,c,hc,rfl⟩,hn,hq⟩,e⟩
   exact ⟨_,a,⟨ha,hn,hq,b,hb,c,hc,by rw [hd]; rfl⟩,e⟩
 · rintro ⟨n,a,⟨ha,hn,hq,b,hb,c,hc,e⟩,rfl⟩
   exact ⟨(n,a),⟨⟨a,ha,b,hb,c,hc,by rw [e,hd]; rfl⟩,hn,hq⟩,rfl⟩
theorem wIn_C {d e:Nat} {p:V3} {l:List V3} (h:Rk (lessH l) d) (h':Rk (lessH (p::l)) e):wIn p l=wCl d e p l:=by
 have hd:dm l=d:=rkN_is h
 have he:dm (p::l)=e:=rkN_is h'
 unfold wIn wCl
 rw [hd,he]
 by_cases c1:d<e
 · rw [if_pos c1,if_pos c1]
 rw [if_neg c1,if_neg c1]
 by_cases c2:d=0
 · rw [if_pos c2,if_pos c2]
 rw [if_neg c2,if_neg c2]
 have e1:(∃ n a,Cd l n a∧vdt n (vsb p a)<0) ↔ (cdv d (nmL l) p l).any (fun x=>decide (x<0))=true:=by
  rw [List.any_eq_true]
  constructor
  · rintro ⟨n,a,hc,hlt⟩; exact ⟨_,(cdv_mem hd).2 ⟨n,a,hc,rfl⟩,decide_eq_true hlt⟩
  · rintro ⟨v,hv,hlt⟩
    obtain ⟨n,a,hc,rfl⟩:=(cdv_mem hd).1 hv
    exact ⟨n,a,hc,of_decide_eq_true hlt⟩
 have e2:(∃ n a,Cd l n a∧vdt n (vsb p a)=0) ↔ (cdv d (nmL l) p l).any (fun x=>decide (x=0))=true:=by
  rw [List.any_eq_true]
  constructor
  · rintro ⟨n,a,hc,hlt⟩; exact ⟨_,(cdv_mem hd).2 ⟨n,a,hc,rfl⟩,decide_eq_true hlt⟩
  · rintro ⟨v,hv,hlt⟩
    obtain ⟨n,a,hc,rfl⟩:=(cdv_mem hd).1 hv
    exact ⟨n,a,hc,of_decide_eq_true hlt⟩
 by_cases k1:(cdv d (nmL l) p l).any (fun x=>decide (x<0))=true
 · rw [if_pos k1,tri_1 (e1.2 k1)]
 rw [if_neg k1]
 by_cases k2:(cdv d (nmL l) p l).any (fun x=>decide (x=0))=true
 · rw [if_pos k2,tri_2 (fun h=>k1 (e1.1 h)) (e2.2 k2)]
 · rw [if_neg k2,tri_3 (fun h=>k1 (e1.1 h)) (fun h=>k2 (e2.1 h))]
end Go.Proofs.YtapddfjimhohcaaGreatDoor.AM
/- The laws of lines: what small lines give. -/
namespace Go.Proofs.YtapddfjimhohcaaGreatDoor.AM
set_option linter.all false
set_option autoImplicit true
set_option relaxedAutoImplicit true
open Go Go.Proofs
set_option maxRecDepth 100000
set_option maxHeartbeats 8000000
set_option linter.unusedSimpArgs false
variable {P:Program}
theorem sm {x:Rat} (h:fl x≤4096):fl x≤4096∧fl x≤8192∧fl x≤65536∧fl x≤262144∧fl x≤1048576∧fl x≤4194304∧fl x≤8388608∧fl x≤16777216∧fl x≤67108864∧fl x≤268435456∧fl x≤FB∧wl x.num≤68719476736:=by
 have k:∀ m,4096≤m→fl x≤m:=fun m hm=>Nat.le_trans h hm
 exact ⟨h,k _ (by decide),k _ (by decide),k _ (by decide),k _ (by decide),k _ (by decide),k _ (by decide),k _ (by decide),k _ (by decide),k _ (by decide),k _ (by decide),Nat.le_trans (fl_num h) (by decide)⟩
theorem smi {n:Int} (h1 : -9223372036854775808≤n) (h2:n≤9223372036854775807):(fl ((n:Int):Rat)≤8192∧fl ((n:Int):Rat)≤65536∧fl ((n:Int):Rat)≤262144∧fl ((n:Int):Rat)≤1048576∧fl ((n:Int):Rat)≤4194304∧fl ((n:Int):Rat)≤8388608∧fl ((n:Int):Rat)≤16777216∧fl ((n:Int):Rat)≤67108864∧fl ((n:Int):Rat)≤268435456∧fl ((n:Int):Rat)≤FB)∧((-9223372036854775808:Int)≤n∧n≤9223372036854775807):=by
 have s:=sm (Nat.le_trans (fl_i64 h1 h2) (by decide))
 exact ⟨⟨s.2.1,s.2.2.1,s.2.2.2.1,s.2.2.2.2.1,s.2.2.2.2.2.1,s.2.2.2.2.2.2.1,s.2.2.2.2.2.2.2.1,s.2.2.2.2.2.2.2.2.1,s.2.2.2.2.2.2.2.2.2.1,s.2.2.2.2.2.2.2.2.2.2.1⟩,h1,h2⟩
end Go.Proofs.YtapddfjimhohcaaGreatDoor.AM
/- Loops a round at a time,that keep the number of the next object. -/
namespace Go.Proofs.YtapddfjimhohcaaGreatDoor.AM
set_option linter.all false
set_option autoImplicit true
set_option relaxedAutoImplicit true
open Go Go.Proofs
set_option maxRecDepth 100000
section
variable {P:Program} {E:Env} {s:St} {Q:Exit→Nat→St→Prop} {nx:Nat} {c:Code}
def onceN (P:Program) (c:Code) (Q:Exit→Nat→St→Prop):Exit→Nat→St→Prop
 | .normal,_,s=>TriW P false c Q s
 | e,nx,s=>Q e nx s
theorem onceN_eq:onceN P c Q=onceQ P c Q:=by funext e nx s; cases e<;>rfl
def goN (P:Program) (c:Code) (_:Nat) (s:St) [Q:Bx (Exit→Nat→St→Prop)]:Prop:=TriW P false c Q.v s
theorem q_onceN_normal:qX .normal nx s (Q:=⟨onceN P c Q⟩)=goN P c nx s (Q:=⟨Q⟩):=rfl
theorem q_onceN_exit (i):qX (.exit i) nx s (Q:=⟨onceN P c Q⟩)=qX (.exit i) nx s (Q:=⟨Q⟩):=rfl
theorem q_onceN_ret:qX .ret nx s (Q:=⟨onceN P c Q⟩)=qX .ret nx s (Q:=⟨Q⟩):=rfl
theorem trN_once (HE:EnvOk P E) (hmix:P.follows .mixedOrders=true) (N:Nat) (nx0:Nat) (h:vcX (Tri P) (ICall P) E N c nx0 s (Q:=⟨onceN P c Q⟩)) (hN:regsOk N c=true:=by kernel_rfl):trX (Tri P) (.loop c) s (Q:=⟨Q⟩) :=
 trX_once HE hmix N nx0 hN (onceN_eq ▸ h)
theorem goN_once (HE:EnvOk P E) (hmix:P.follows .mixedOrders=true) (N:Nat) (h:vcX (Tri P) (ICall P) E N c nx s (Q:=⟨onceN P c Q⟩)) (hN:regsOk N c=true:=by kernel_rfl):goN P c nx s (Q:=⟨Q⟩) :=
 goX_once HE hmix N nx hN (onceN_eq ▸ h)
end
attribute [go_sem] q_onceN_normal q_onceN_exit q_onceN_ret
section
variable {X:Nat→Prop} {φ φ0:Nat→Option (Option Nat)} {m m0:Nat→AObj} {a:Act} {w w0:World}
variable {P:Program} {E:Env} {s:St} {Q:Exit→Nat→St→Prop} {nx:Nat} {c:Code}
def frzM (L:List Nat) (m:Nat→AObj):Nat→AObj:=fun r=>if L.contains r then (m r).freeze else m r
theorem frz_live {L:List Nat} {r:Nat} {cs:List AV} (h:frzM L m r = .live cs):m r = .live cs:=by
 unfold frzM at h
 split at h
 · cases hm:m r<;>rw [hm] at h<;>simp [AObj.freeze] at h
 · exact h
theorem frz_rel (L:List Nat) (R:Rel X φ s a w) (hst:Stp X φ0 m0 w0 φ s.m w):Rel X φ ⟨s.t,frzM L s.m,s.n⟩ a w∧Stp X φ0 m0 w0 φ (frzM L s.m) w:=by
 have hw:∀ b,Wr X φ (frzM L s.m) b→Wr X φ s.m b:=fun b hW=>by
  rcases hW with h|⟨r,cs,h,h'⟩
  · exact .inl h
  · exact .inr ⟨r,cs,h,frz_live h'⟩
 have E:Ext (Wr X φ s.m) φ w (Wr X φ (frzM L s.m)) φ w:=⟨fun _ _ h=>.inl h,fun _ _ _=>rfl,fun b _ hW=>hw b hW,fun _ _ c e fr _ _ h=>⟨c,e,fr,h,Nat.le_refl _⟩⟩
 have hobj:∀ r,ObjOk (Wr X φ (frzM L s.m)) φ w (φ r) (frzM L s.m r):=fun r=>by
  have ho:=R.mem.obj r
  have key:∀ cs b,ObjAt (Wr X φ s.m) φ w b cs→ObjAt (Wr X φ (frzM L s.m)) φ w b cs:=fun cs b ⟨c,e,k2,k3,k4,k5⟩=>⟨c,e,k2,k3,k4.mono E,k5⟩
  unfold frzM
  cases hm:s.m r with
  | unused=>rw [hm] at ho; split<;>exact ho
  | gone=>rw [hm] at ho; split<;>exact ho
  | live cs =>
    rw [hm] at ho
    obtain ⟨b,k1,k2⟩:=ho
    split<;>exact ⟨b,k1,key cs b k2⟩
  | ro cs =>
    rw [hm] at ho
    obtain ⟨b,k1,k2⟩:=ho
    split<;>exact ⟨b,k1,key cs b k2⟩
 refine ⟨⟨fun i hi=>?_,R.df,R.n,⟨hobj,R.mem.inj,R.mem.ext,R.mem.xlt⟩⟩,⟨⟨hst.ext.phi,hst.ext.old,fun b hb hW=>hst.ext.wr b hb (hw b hW),hst.ext.size⟩,hst.fr⟩⟩
 obtain ⟨v,h3,h4⟩:=R.tm i hi
 exact ⟨v,h3,h4.mono E⟩
theorem Tri_frz (L:List Nat) (h:Tri P c Q ⟨s.t,frzM L s.m,s.n⟩):Tri P c Q s:=by
 intro X φ a w R
 obtain ⟨r0,st0⟩:=frz_rel L R (.refl _ _ _ _)
 refine Code.wp_mono ?_ (h X φ a w r0)
 rintro e a2 w2 ⟨nx,s2,φ2,q,r2,st2⟩
 exact ⟨nx,s2,φ2,q,r2,st0.trans st2⟩
theorem trX_frz (L:List Nat) (h:trX (Tri P) c ⟨s.t,frzM L s.m,s.n⟩ (Q:=⟨Q⟩)):trX (Tri P) c s (Q:=⟨Q⟩):=Tri_frz L h
theorem Has.frz {L K:List Nat} (h:Has L m):Has L (frzM K m):=fun r hr=>h r fun e=>hr (by unfold frzM; rw [e]; split<;>rfl)
end
end Go.Proofs.YtapddfjimhohcaaGreatDoor.AM
/- Points in lists: how many dimensions they span. -/
namespace Go.Proofs.YtapddfjimhohcaaGreatDoor.AM
set_option linter.all false
set_option autoImplicit true
set_option relaxedAutoImplicit true
open Go Go.Proofs
set_option maxRecDepth 100000
set_option maxHeartbeats 16000000
set_option linter.unusedSimpArgs false
variable {P:Program}
def fVm (m:Nat):List V3→Prop
 | []=>True
 | a::l=>fV a m∧fVm m l
theorem fVm_nil (m):fVm m []=True:=rfl
theorem fVm_cons (m a l):fVm m (a::l)=(fV a m∧fVm m l):=rfl
theorem fVm_mem {m:Nat}:∀ {l:List V3},fVm m l→∀ a ∈ l,fV a m
 | _::_,h,_,ha=>by
   rcases List.mem_cons.1 ha with rfl|ha
   · exact h.1
   · exact fVm_mem h.2 _ ha
theorem fVm_of {m:Nat}:∀ {l:List V3},(∀ a ∈ l,fV a m)→fVm m l
 | [],_=>trivial
 | _::_,h=>⟨h _ List.mem_cons_self,fVm_of fun a ha=>h a (List.mem_cons_of_mem _ ha)⟩
theorem unV_cl:∀ l:List V3,unV (cl cV l)=some l
 | []=>rfl
 | (x,y,z)::l=>(unV_cons x y z (cl cV l)).trans (by rw [unV_cl l]; rfl)
theorem unX3_cl:∀ l:List V3,unX3 (cl cW l)=some l
 | []=>rfl
 | (x,y,z)::l=>(unX3_cons x y z (cl cW l)).trans (by rw [unX3_cl l]; rfl)
def rawLV:AV→Option (List V3)
 | .imm n cs=>(unV cs).bind fun l=>if n=l.length then some l else none
 | _=>none
theorem rawLV_eq (n cs):rawLV (.imm n cs)=(unV cs).bind fun l=>if n=l.length then some l else none:=rfl
theorem rawLV_cl (l:List V3):rawLV (.imm l.length (cl cV l))=some l:=by rw [rawLV_eq,unV_cl,Option.bind_some,if_pos rfl]
theorem rawLV_inv {x:AV} {l:List V3} (h:rawLV x=some l):x = .imm l.length (cl cV l):=by
 unfold rawLV at h
 split at h
 · obtain ⟨k,hk,h⟩:=Option.bind_eq_some_iff.1 h
   split at h
   · rename_i e; obtain rfl:=Option.some.inj h; rw [unV_inv _ _ hk,e]
   · simp at h
 · simp at h
def rawLX:AV→Option (List V3)
 | .imm n cs=>(unX3 cs).bind fun l=>if n=l.length then some l else none
 | _=>none
theorem rawLX_eq (n cs):rawLX (.imm n cs)=(unX3 cs).bind fun l=>if n=l.length then some l else none:=rfl
theorem rawLX_cl (l:List V3):rawLX (.imm l.length (cl cW l))=some l:=by rw [rawLX_eq,unX3_cl,Option.bind_some,if_pos rfl]
theorem rawLX_inv {x:AV} {l:List V3} (h:rawLX x=some l):x = .imm l.length (cl cW l):=by
 unfold rawLX at h
 split at h
 · obtain ⟨k,hk,h⟩:=Option.bind_eq_some_iff.1 h
   split at h
   · rename_i e; obtain rfl:=Option.some.inj h; rw [unX3_inv _ _ hk,e]
   · simp at h
 · simp at h
attribute [go_sem] fVm_nil fVm_cons unV_cl unX3_cl rawLV_cl rawLX_cl rawLV_eq rawLX_eq
noncomputable def lessQ (l:List V3):List V3:=l.tail.map fun q=>vsbq q (l.headD v0)
theorem lessQ_H (l:List V3):lessQ l=lessH l:=by
 cases l with
 | nil=>rfl
 | cons a t=>simp only [lessQ,lessH,List.tail_cons,List.headD_cons,vsbq_vsb]
theorem less_len (l:List V3):(lessH l).length=l.length-1:=by cases l<;>simp [lessH]
theorem less_fV {m:Nat} {l:List V3} (h:fVm m l):∀ a ∈ lessH l,fV a (m+m+1):=by
 cases l with
 | nil=>intro a ha; simp [lessH] at ha
 | cons o t =>
   intro a ha
   obtain ⟨q,hq,rfl⟩:=List.mem_map.1 ha
   have:=vsbq_fV (fVm_mem h q (List.mem_cons_of_mem _ hq)) h.1
   rwa [vsbq_vsb] at this
theorem sub_w {x y:V3} (hx:fV x 524288) (hy:fV y 524288):fl (qsub x.1 y.1)≤2097152∧fl (qsub x.2.1 y.2.1)≤2097152∧fl (qsub x.2.2 y.2.2)≤2097152:=⟨Nat.le_trans (fl_qsub hx.1 hy.1) (by decide),Nat.le_trans (fl_qsub hx.2.1 hy.2.1) (by decide),Nat.le_trans (fl_qsub hx.2.2 hy.2.2) (by decide)⟩
theorem sub_b {x y:V3} (hx:fV x 16384) (hy:fV y 16384):fl (qsub x.1 y.1)≤65536∧fl (qsub x.2.1 y.2.1)≤65536∧fl (qsub x.2.2 y.2.2)≤65536:=⟨Nat.le_trans (fl_qsub hx.1 hy.1) (by decide),Nat.le_trans (fl_qsub hx.2.1 hy.2.1) (by decide),Nat.le_trans (fl_qsub hx.2.2 hy.2.2) (by decide)⟩
theorem nw8:((1:Int).toNat=1∧(2:Int).toNat=2∧(3:Int).toNat=3∧(4:Int).toNat=4∧(5:Int).toNat=5)∧((0:Int)≤1∧(0:Int)≤2∧(0:Int)≤3∧(0:Int)≤4)∧IntKind.i64.wrap (0+1)=1∧IntKind.i64.wrap (1+1)=2∧IntKind.i64.wrap (2+1)=3∧IntKind.i64.wrap (3+1)=4∧IntKind.i64.wrap (4+1)=5:=⟨⟨rfl,rfl,rfl,rfl,rfl⟩,⟨by decide,by decide,by decide,by decide⟩,rfl,rfl,rfl,rfl,rfl⟩
theorem span_spec (hP:PrgOk P) (l:List V3) (h2:2≤l.length) (h5:l.length≤5) (hb:fVm 16384 l):CSpec P 48 [.imm l.length (cl cV l)] (.int .i64 (dm l:Nat)):=by
 have HE:=Zt4_all hP TF hP.tF
 have nw:=nw8
 unfold dm; rw [← lessQ_H]
 match l,h2,h5,hb with
 | [a,b],_,_,hb =>
   obtain ⟨ha,hb,_⟩:=hb
   show CSpec P 48 [.imm 2 [.opq (.frac (a.1)),.pad,.pad,.pad,.pad,.opq (.frac (a.2.1)),.pad,.pad,.pad,.pad,.opq (.frac (a.2.2)),.pad,.pad,.pad,.pad,.opq (.frac (b.1)),.pad,.pad,.pad,.pad,.opq (.frac (b.2.1)),.pad,.pad,.pad,.pad,.opq (.frac (b.2.2)),.pad,.pad,.pad,.pad]] (.int .i64 (rkN [(qsub b.1 a.1,qsub b.2.1 a.2.1,qsub b.2.2 a.2.2)]:Nat))
   have B:=(⟨bf ha (by decide),bf hb (by decide),sub_b hb ha⟩:_∧_∧_)
   refine CSpec_go (E:=⟨TF,Zt4⟩) (fn48 hP) HE hP.mix ?_
   simp only [go_sem,nw,B,Option.some.injEq,false_implies,implies_true]
   refine trN_once HE hP.mix 24 1000 ?_
   simp only [go_sem,nw,B,Option.some.injEq,false_implies,implies_true]
   refine goN_once HE hP.mix 24 ?_
   simp only [go_sem,nw,B,Option.some.injEq,false_implies,implies_true]
   exact fin_z
 | [a,b,c],_,_,hb =>
   obtain ⟨ha,hb,hc,_⟩:=hb
   show CSpec P 48 [.imm 3 (.opq (.frac (a.1)) :: .pad :: .pad :: .pad :: .pad :: .opq (.frac (a.2.1)) :: .pad :: .pad :: .pad :: .pad :: .opq (.frac (a.2.2)) :: .pad :: .pad :: .pad :: .pad :: .opq (.frac (b.1)) :: .pad :: .pad :: .pad :: .pad :: .opq (.frac (b.2.1)) :: .pad :: .pad :: .pad :: .pad :: .opq (.frac (b.2.2)) :: .pad :: .pad :: .pad :: .pad :: .opq (.frac (c.1)) :: .pad :: .pad :: .pad :: .pad :: .opq (.frac (c.2.1)) :: .pad :: .pad :: .pad :: .pad :: .opq (.frac (c.2.2)) :: .pad :: .pad :: .pad :: .pad::[])] (.int .i64 (rkN [(qsub b.1 a.1,qsub b.2.1 a.2.1,qsub b.2.2 a.2.2),(qsub c.1 a.1,qsub c.2.1 a.2.1,qsub c.2.2 a.2.2)]:Nat))
   have B:=(⟨bf ha (by decide),bf hb (by decide),bf hc (by decide),sub_b hb ha,sub_b hc ha⟩:_∧_∧_∧_∧_)
   refine CSpec_go (E:=⟨TF,Zt4⟩) (fn48 hP) HE hP.mix ?_
   simp only [go_sem,nw,B,Option.some.injEq,false_implies,implies_true]
   refine trN_once HE hP.mix 24 1000 ?_
   simp only [go_sem,nw,B,Option.some.injEq,false_implies,implies_true]
   refine goN_once HE hP.mix 24 ?_
   simp only [go_sem,nw,B,Option.some.injEq,false_implies,implies_true]
   refine goN_once HE hP.mix 24 ?_
   simp only [go_sem,nw,B,Option.some.injEq,false_implies,implies_true]
   exact fin_z
 | [a,b,c,d],_,_,hb =>
   obtain ⟨ha,hb,hc,hd,_⟩:=hb
   show CSpec P 48 [.imm 4 (.opq (.frac (a.1)) :: .pad :: .pad :: .pad :: .pad :: .opq (.frac (a.2.1)) :: .pad :: .pad :: .pad :: .pad :: .opq (.frac (a.2.2)) :: .pad :: .pad :: .pad :: .pad :: .opq (.frac (b.1)) :: .pad :: .pad :: .pad :: .pad :: .opq (.frac (b.2.1)) :: .pad :: .pad :: .pad :: .pad :: .opq (.frac (b.2.2)) :: .pad :: .pad :: .pad :: .pad :: .opq (.frac (c.1)) :: .pad :: .pad :: .pad :: .pad :: .opq (.frac (c.2.1)) :: .pad :: .pad :: .pad :: .pad :: .opq (.frac (c.2.2)) :: .pad :: .pad :: .pad :: .pad :: .opq (.frac (d.1)) :: .pad :: .pad :: .pad :: .pad :: .opq (.frac (d.2.1)) :: .pad :: .pad :: .pad :: .pad :: .opq (.frac (d.2.2)) :: .pad :: .pad :: .pad :: .pad::[])] (.int .i64 (rkN [(qsub b.1 a.1,qsub b.2.1 a.2.1,qsub b.2.2 a.2.2),(qsub c.1 a.1,qsub c.2.1 a.2.1,qsub c.2.2 a.2.2),(qsub d.1 a.1,qsub d.2.1 a.2.1,qsub d.2.2 a.2.2)]:Nat))
   have B:=(⟨bf ha (by decide),bf hb (by decide),bf hc (by decide),bf hd (by decide),sub_b hb ha,sub_b hc ha,sub_b hd ha⟩:_∧_∧_∧_∧_∧_∧_)
   refine CSpec_go (E:=⟨TF,Zt4⟩) (fn48 hP) HE hP.mix ?_
   simp only [go_sem,nw,B,Option.some.injEq,false_implies,implies_true]
   refine trN_once HE hP.mix 24 1000 ?_
   simp only [go_sem,nw,B,Option.some.injEq,false_implies,implies_true]
   refine goN_once HE hP.mix 24 ?_
   simp only [go_sem,nw,B,Option.some.injEq,false_implies,implies_true]
   refine goN_once HE hP.mix 24 ?_
   simp only [go_sem,nw,B,Option.some.injEq,false_implies,implies_true]
   refine goN_once HE hP.mix 24 ?_
   simp only [go_sem,nw,B,Option.some.injEq,false_implies,implies_true]
   exact fin_z
 | [a,b,c,d,e],_,_,hb =>
   obtain ⟨ha,hb,hc,hd,he,_⟩:=hb
   show CSpec P 48 [.imm 5 (.opq (.frac (a.1)) :: .pad :: .pad :: .pad :: .pad :: .opq (.frac (a.2.1)) :: .pad :: .pad :: .pad :: .pad :: .opq (.frac (a.2.2)) :: .pad :: .pad :: .pad :: .pad :: .opq (.frac (b.1)) :: .pad :: .pad :: .pad :: .pad :: .opq (.frac (b.2.1)) :: .pad :: .pad :: .pad :: .pad :: .opq (.frac (b.2.2)) :: .pad :: .pad :: .pad :: .pad :: .opq (.frac (c.1)) :: .pad :: .pad :: .pad :: .pad :: .opq (.frac (c.2.1)) :: .pad :: .pad :: .pad :: .pad :: .opq (.frac (c.2.2)) :: .pad :: .pad :: .pad :: .pad :: .opq (.frac (d.1)) :: .pad :: .pad :: .pad :: .pad :: .opq (.frac (d.2.1)) :: .pad :: .pad :: .pad :: .pad :: .opq (.frac (d.2.2)) :: .pad :: .pad :: .pad :: .pad :: .opq (.frac (e.1)) :: .pad :: .pad :: .pad :: .pad :: .opq (.frac (e.2.1)) :: .pad :: .pad :: .pad :: .pad :: .opq (.frac (e.2.2)) :: .pad :: .pad :: .pad :: .pad::[])] (.int .i64 (rkN [(qsub b.1 a.1,qsub b.2.1 a.2.1,qsub b.2.2 a.2.2),(qsub c.1 a.1,qsub c.2.1 a.2.1,qsub c.2.2 a.2.2),(qsub d.1 a.1,qsub d.2.1 a.2.1,qsub d.2.2 a.2.2),(qsub e.1 a.1,qsub e.2.1 a.2.1,qsub e.2.2 a.2.2)]:Nat))
   have B:=(⟨bf ha (by decide),bf hb (by decide),bf hc (by decide),bf hd (by decide),bf he (by decide),sub_b hb ha,sub_b hc ha,sub_b hd ha,sub_b he ha⟩:_∧_∧_∧_∧_∧_∧_∧_∧_)
   refine CSpec_go (E:=⟨TF,Zt4⟩) (fn48 hP) HE hP.mix ?_
   simp only [go_sem,nw,B,Option.some.injEq,false_implies,implies_true]
   refine trN_once HE hP.mix 24 1000 ?_
   simp only [go_sem,nw,B,Option.some.injEq,false_implies,implies_true]
   refine goN_once HE hP.mix 24 ?_
   simp only [go_sem,nw,B,Option.some.injEq,false_implies,implies_true]
   refine goN_once HE hP.mix 24 ?_
   simp only [go_sem,nw,B,Option.some.injEq,false_implies,implies_true]
   refine goN_once HE hP.mix 24 ?_
   simp only [go_sem,nw,B,Option.some.injEq,false_implies,implies_true]
   refine goN_once HE hP.mix 24 ?_
   simp only [go_sem,nw,B,Option.some.injEq,false_implies,implies_true]
   exact fin_z
 | _::_::_::_::_::_::_,_,h5,_=>simp at h5
 | [_],h2,_,_=>simp at h2
 | [],h2,_,_=>simp at h2
theorem away_spec (hP:PrgOk P) (l:List V3) (h2:2≤l.length) (h5:l.length≤5) (hb:fVm 524288 l):CSpec P 50 [.imm l.length (cl cW l)] (.imm (lessH l).length (cl cW (lessH l))):=by
 have HE:=Zt4_all hP TF hP.tF
 have nw:=nw8
 rw [← lessQ_H]
 match l,h2,h5,hb with
 | [a,b],_,_,hb =>
   obtain ⟨ha,hb,_⟩:=hb
   show CSpec P 50 [.imm 2 [.opq (.rfrac (a.1)),.pad,.pad,.opq (.rfrac (a.2.1)),.pad,.pad,.opq (.rfrac (a.2.2)),.pad,.pad,.opq (.rfrac (b.1)),.pad,.pad,.opq (.rfrac (b.2.1)),.pad,.pad,.opq (.rfrac (b.2.2)),.pad,.pad]] (.imm 1 [.opq (.rfrac (qsub b.1 a.1)),.pad,.pad,.opq (.rfrac (qsub b.2.1 a.2.1)),.pad,.pad,.opq (.rfrac (qsub b.2.2 a.2.2)),.pad,.pad])
   have B:=(⟨bf ha (by decide),bf hb (by decide),sub_w hb ha⟩:_∧_∧_)
   refine CSpec_go (E:=⟨TF,Zt4⟩) (fn50 hP) HE hP.mix ?_
   simp only [go_sem,nw,B,Option.some.injEq,false_implies,implies_true]
   refine trN_once HE hP.mix 23 1000 ?_
   simp only [go_sem,nw,B,Option.some.injEq,false_implies,implies_true]
   refine goN_once HE hP.mix 23 ?_
   simp only [go_sem,nw,B,Option.some.injEq,false_implies,implies_true]
   exact fin_z
 | [a,b,c],_,_,hb =>
   obtain ⟨ha,hb,hc,_⟩:=hb
   show CSpec P 50 [.imm 3 [.opq (.rfrac (a.1)),.pad,.pad,.opq (.rfrac (a.2.1)),.pad,.pad,.opq (.rfrac (a.2.2)),.pad,.pad,.opq (.rfrac (b.1)),.pad,.pad,.opq (.rfrac (b.2.1)),.pad,.pad,.opq (.rfrac (b.2.2)),.pad,.pad,.opq (.rfrac (c.1)),.pad,.pad,.opq (.rfrac (c.2.1)),.pad,.pad,.opq (.rfrac (c.2.2)),.pad,.pad]] (.imm 2 [.opq (.rfrac (qsub b.1 a.1)),.pad,.pad,.opq (.rfrac (qsub b.2.1 a.2.1)),.pad,.pad,.opq (.rfrac (qsub b.2.2 a.2.2)),.pad,.pad,.opq (.rfrac (qsub c.1 a.1)),.pad,.pad,.opq (.rfrac (qsub c.2.1 a.2.1)),.pad,.pad,.opq (.rfrac (qsub c.2.2 a.2.2)),.pad,.pad])
   have B:=(⟨bf ha (by decide),bf hb (by decide),bf hc (by decide),sub_w hb ha,sub_w hc ha⟩:_∧_∧_∧_∧_)
   refine CSpec_go (E:=⟨TF,Zt4⟩) (fn50 hP) HE hP.mix ?_
   simp only [go_sem,nw,B,Option.some.injEq,false_implies,implies_true]
   refine trN_once HE hP.mix 23 1000 ?_
   simp only [go_sem,nw,B,Option.some.injEq,false_implies,implies_true]
   refine goN_once HE hP.mix 23 ?_
   simp only [go_sem,nw,B,Option.some.injEq,false_implies,implies_true]
   refine goN_once HE hP.mix 23 ?_
   simp only [go_sem,nw,B,Option.some.injEq,false_implies,implies_true]
   exact fin_z
 | [a,b,c,d],_,_,hb =>
   obtain ⟨ha,hb,hc,hd,_⟩:=hb
   show CSpec P 50 [.imm 4 (.opq (.rfrac (a.1)) :: .pad :: .pad :: .opq (.rfrac (a.2.1)) :: .pad :: .pad :: .opq (.rfrac (a.2.2)) :: .pad :: .pad :: .opq (.rfrac (b.1)) :: .pad :: .pad :: .opq (.rfrac (b.2.1)) :: .pad :: .pad :: .opq (.rfrac (b.2.2)) :: .pad :: .pad :: .opq (.rfrac (c.1)) :: .pad :: .pad :: .opq (.rfrac (c.2.1)) :: .pad :: .pad :: .opq (.rfrac (c.2.2)) :: .pad :: .pad :: .opq (.rfrac (d.1)) :: .pad :: .pad :: .opq (.rfrac (d.2.1)) :: .pad :: .pad :: .opq (.rfrac (d.2.2)) :: .pad :: .pad::[])] (.imm 3 [.opq (.rfrac (qsub b.1 a.1)),.pad,.pad,.opq (.rfrac (qsub b.2.1 a.2.1)),.pad,.pad,.opq (.rfrac (qsub b.2.2 a.2.2)),.pad,.pad,.opq (.rfrac (qsub c.1 a.1)),.pad,.pad,.opq (.rfrac (qsub c.2.1 a.2.1)),.pad,.pad,.opq (.rfrac (qsub c.2.2 a.2.2)),.pad,.pad,.opq (.rfrac (qsub d.1 a.1)),.pad,.pad,.opq (.rfrac (qsub d.2.1 a.2.1)),.pad,.pad,.opq (.rfrac (qsub d.2.2 a.2.2)),.pad,.pad])
   have B:=(⟨bf ha (by decide),bf hb (by decide),bf hc (by decide),bf hd (by decide),sub_w hb ha,sub_w hc ha,sub_w hd ha⟩:_∧_∧_∧_∧_∧_∧_)
   refine CSpec_go (E:=⟨TF,Zt4⟩) (fn50 hP) HE hP.mix ?_
   simp only [go_sem,nw,B,Option.some.injEq,false_implies,implies_true]
   refine trN_once HE hP.mix 23 1000 ?_
   simp only [go_sem,nw,B,Option.some.injEq,false_implies,implies_true]
   refine goN_once HE hP.mix 23 ?_
   simp only [go_sem,nw,B,Option.some.injEq,false_implies,implies_true]
   refine goN_once HE hP.mix 23 ?_
   simp only [go_sem,nw,B,Option.some.injEq,false_implies,implies_true]
   refine goN_once HE hP.mix 23 ?_
   simp only [go_sem,nw,B,Option.some.injEq,false_implies,implies_true]
   exact fin_z
 | [a,b,c,d,e],_,_,hb =>
   obtain ⟨ha,hb,hc,hd,he,_⟩:=hb
   show CSpec P 50 [.imm 5 (.opq (.rfrac (a.1)) :: .pad :: .pad :: .opq (.rfrac (a.2.1)) :: .pad :: .pad :: .opq (.rfrac (a.2.2)) :: .pad :: .pad :: .opq (.rfrac (b.1)) :: .pad :: .pad :: .opq (.rfrac (b.2.1)) :: .pad :: .pad :: .opq (.rfrac (b.2.2)) :: .pad :: .pad :: .opq (.rfrac (c.1)) :: .pad :: .pad :: .opq (.rfrac (c.2.1)) :: .pad :: .pad :: .opq (.rfrac (c.2.2)) :: .pad :: .pad :: .opq (.rfrac (d.1)) :: .pad :: .pad :: .opq (.rfrac (d.2.1)) :: .pad :: .pad :: .opq (.rfrac (d.2.2)) :: .pad :: .pad :: .opq (.rfrac (e.1)) :: .pad :: .pad :: .opq (.rfrac (e.2.1)) :: .pad :: .pad :: .opq (.rfrac (e.2.2)) :: .pad :: .pad::[])] (.imm 4 (.opq (.rfrac (qsub b.1 a.1)) :: .pad :: .pad :: .opq (.rfrac (qsub b.2.1 a.2.1)) :: .pad :: .pad :: .opq (.rfrac (qsub b.2.2 a.2.2)) :: .pad :: .pad :: .opq (.rfrac (qsub c.1 a.1)) :: .pad :: .pad :: .opq (.rfrac (qsub c.2.1 a.2.1)) :: .pad :: .pad :: .opq (.rfrac (qsub c.2.2 a.2.2)) :: .pad :: .pad :: .opq (.rfrac (qsub d.1 a.1)) :: .pad :: .pad :: .opq (.rfrac (qsub d.2.1 a.2.1)) :: .pad :: .pad :: .opq (.rfrac (qsub d.2.2 a.2.2)) :: .pad :: .pad :: .opq (.rfrac (qsub e.1 a.1)) :: .pad :: .pad :: .opq (.rfrac (qsub e.2.1 a.2.1)) :: .pad :: .pad :: .opq (.rfrac (qsub e.2.2 a.2.2)) :: .pad :: .pad::[]))
   have B:=(⟨bf ha (by decide),bf hb (by decide),bf hc (by decide),bf hd (by decide),bf he (by decide),sub_w hb ha,sub_w hc ha,sub_w hd ha,sub_w he ha⟩:_∧_∧_∧_∧_∧_∧_∧_∧_)
   refine CSpec_go (E:=⟨TF,Zt4⟩) (fn50 hP) HE hP.mix ?_
   simp only [go_sem,nw,B,Option.some.injEq,false_implies,implies_true]
   refine trN_once HE hP.mix 23 1000 ?_
   simp only [go_sem,nw,B,Option.some.injEq,false_implies,implies_true]
   refine goN_once HE hP.mix 23 ?_
   simp only [go_sem,nw,B,Option.some.injEq,false_implies,implies_true]
   refine goN_once HE hP.mix 23 ?_
   simp only [go_sem,nw,B,Option.some.injEq,false_implies,implies_true]
   refine goN_once HE hP.mix 23 ?_
   simp only [go_sem,nw,B,Option.some.injEq,false_implies,implies_true]
   refine goN_once HE hP.mix 23 ?_
   simp only [go_sem,nw,B,Option.some.injEq,false_implies,implies_true]
   exact fin_z
 | _::_::_::_::_::_::_,_,h5,_=>simp at h5
 | [_],h2,_,_=>simp at h2
 | [],h2,_,_=>simp at h2
noncomputable def spanS:List AV→Option (Prop × AV)
 | [x]=>(rawLV x).map fun l=>((2≤l.length∧l.length≤5)∧fVm 16384 l,.int .i64 (dm l:Nat))
 | _=>none
theorem spanS_eq (x):spanS [x]=(rawLV x).map fun l=>((2≤l.length∧l.length≤5)∧fVm 16384 l,.int .i64 (dm l:Nat)):=rfl
theorem spanS_ok (hP:PrgOk P) (args p r) (he:spanS args=some (p,r)) (hp:p):CSpec P 48 args r:=by
 unfold spanS at he
 split at he
 · simp only [Option.map_eq_some_iff,Prod.mk.injEq] at he
   obtain ⟨l,h1,rfl,rfl⟩:=he
   rw [rawLV_inv h1]
   exact span_spec hP l hp.1.1 hp.1.2 hp.2
 · simp at he
attribute [go_sem] spanS_eq
noncomputable def awayS:List AV→Option (Prop × AV)
 | [x]=>(rawLX x).map fun l=>((2≤l.length∧l.length≤5)∧fVm 524288 l,.imm (lessH l).length (cl cW (lessH l)))
 | _=>none
theorem awayS_eq (x):awayS [x]=(rawLX x).map fun l=>((2≤l.length∧l.length≤5)∧fVm 524288 l,.imm (lessH l).length (cl cW (lessH l))):=rfl
theorem awayS_ok (hP:PrgOk P) (args p r) (he:awayS args=some (p,r)) (hp:p):CSpec P 50 args r:=by
 unfold awayS at he
 split at he
 · simp only [Option.map_eq_some_iff,Prod.mk.injEq] at he
   obtain ⟨l,h1,rfl,rfl⟩:=he
   rw [rawLX_inv h1]
   exact away_spec hP l hp.1.1 hp.1.2 hp.2
 · simp at he
attribute [go_sem] awayS_eq
noncomputable def rkwS:List AV→Option (Prop × AV)
 | [x]=>(rawLX x).map fun l=>(l.length≤1000000∧fVm 2097152 l,.int .i64 (rkN l:Nat))
 | _=>none
theorem rkwS_eq (x):rkwS [x]=(rawLX x).map fun l=>(l.length≤1000000∧fVm 2097152 l,.int .i64 (rkN l:Nat)):=rfl
theorem rkwS_ok (hP:PrgOk P) (args p r) (he:rkwS args=some (p,r)) (hp:p):CSpec P 49 args r:=by
 unfold rkwS at he
 split at he
 · simp only [Option.map_eq_some_iff,Prod.mk.injEq] at he
   obtain ⟨l,h1,rfl,rfl⟩:=he
   rw [rawLX_inv h1]
   exact rvRank_spec hP l hp.1 (fVm_mem hp.2)
 · simp at he
attribute [go_sem] rkwS_eq
noncomputable def Kt0:Nat→List AV→Option (Prop × AV):=addS (addS (addS Zt4 48 spanS) 50 awayS) 49 rkwS
theorem Kt0_all (hP:PrgOk P) (T) (hT:TyOk P T):EnvOk P ⟨T,Kt0⟩:=((((Zt4_all hP T hT).add (spanS_ok hP)).add (awayS_ok hP)).add (rkwS_ok hP))
theorem Kt0_at (f a):Kt0 f a=(addS (addS (addS Zt4 48 spanS) 50 awayS) 49 rkwS) f a:=rfl
attribute [go_sem] Kt0_at
theorem flat_spec (hP:PrgOk P) (l:List V3) (h2:2≤l.length) (h5:l.length≤5) (hb:fVm 524288 l):CSpec P 22 [.imm l.length (cl cW l)] (.int .i64 (dm l:Nat)):=by
 have HE:=Kt0_all hP TF hP.tF
 have e2:(lessH l).length≤1000000:=by rw [less_len]; omega
 have e3:fVm 2097152 (lessH l):=fVm_of fun a ha=>fV_mono (less_fV hb a ha) (by decide)
 have hgo:groundL [.imm l.length (cl cW l)]=true:=by simp only [groundL,onlyL,AV.only,cl_only,Bool.and_true]
 refine CSpec_vc (E:=⟨TF,Kt0⟩) (fn22 hP) HE hP.mix rfl hgo rfl (Nat.le_of_ble_eq_true rfl) ?_
 simp only [go_sem,h2,h5,hb,e2,e3]
 exact .refl _
noncomputable def flatS:List AV→Option (Prop × AV)
 | [x]=>(rawLX x).map fun l=>((2≤l.length∧l.length≤5)∧fVm 524288 l,.int .i64 (dm l:Nat))
 | _=>none
theorem flatS_eq (x):flatS [x]=(rawLX x).map fun l=>((2≤l.length∧l.length≤5)∧fVm 524288 l,.int .i64 (dm l:Nat)):=rfl
theorem flatS_ok (hP:PrgOk P) (args p r) (he:flatS args=some (p,r)) (hp:p):CSpec P 22 args r:=by
 unfold flatS at he
 split at he
 · simp only [Option.map_eq_some_iff,Prod.mk.injEq] at he
   obtain ⟨l,h1,rfl,rfl⟩:=he
   rw [rawLX_inv h1]
   exact flat_spec hP l hp.1.1 hp.1.2 hp.2
 · simp at he
attribute [go_sem] flatS_eq
noncomputable def Kt1:Nat→List AV→Option (Prop × AV):=addS Kt0 22 flatS
theorem Kt1_all (hP:PrgOk P) (T) (hT:TyOk P T):EnvOk P ⟨T,Kt1⟩:=((Kt0_all hP T hT).add (flatS_ok hP))
theorem Kt1_at (f a):Kt1 f a=(addS Kt0 22 flatS) f a:=rfl
attribute [go_sem] Kt1_at
end Go.Proofs.YtapddfjimhohcaaGreatDoor.AM
