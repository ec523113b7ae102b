/- Ranks by elimination. -/
import Derived.Test.YtapddfjimhohcaaB4
import Derived.Test.YtapddfjimhohcaaB2
namespace Go.Proofs.Ytapddfjimhohcaa.AM
set_option linter.all false
set_option autoImplicit true
set_option relaxedAutoImplicit true
open Go Go.Proofs
set_option maxRecDepth 100000
def redA (rows:List (V3 × Nat)) (a:V3):V3:=rows.foldl (fun b r=>red1 r.1 r.2 b) a
def stepR (dir:V3→V3):List V3→List (V3 × Nat)→Nat
 | [],rows=>rows.length
 | a::l,rows=>match nzP (redA rows a) with
   | none=>stepR dir l rows
   | some p=>if rows.length+1=3 then 3 else stepR dir l (rows++[(dir (redA rows a),p)])
theorem nz_rat {x y:Rat} (hx:x ≠ 0) (h:x*y=0):y=0:=zero_of_mul hx h
theorem det_perp {n a b c:V3} (hn:n ≠ v0) (ha:vdt a n=0) (hb:vdt b n=0) (hc:vdt c n=0):vdet a b c=0:=by
 have h1:n.1*vdet a b c=0:=by
  have:n.1*vdet a b c=vdt a n*(vcr b c).1+vdt b n*(vcr c a).1+vdt c n*(vcr a b).1:=by
   unfold vdet vdt vcr; simp only []; grind
  rw [this,ha,hb,hc]; grind
 have h2:n.2.1*vdet a b c=0:=by
  have:n.2.1*vdet a b c=vdt a n*(vcr b c).2.1+vdt b n*(vcr c a).2.1+vdt c n*(vcr a b).2.1:=by
   unfold vdet vdt vcr; simp only []; grind
  rw [this,ha,hb,hc]; grind
 have h3:n.2.2*vdet a b c=0:=by
  have:n.2.2*vdet a b c=vdt a n*(vcr b c).2.2+vdt b n*(vcr c a).2.2+vdt c n*(vcr a b).2.2:=by
   unfold vdet vdt vcr; simp only []; grind
  rw [this,ha,hb,hc]; grind
 by_cases e1:n.1=0
 · by_cases e2:n.2.1=0
   · by_cases e3:n.2.2=0
     · exact absurd ((v0_iff n).2 ⟨e1,e2,e3⟩) hn
     · exact nz_rat e3 h3
   · exact nz_rat e2 h2
 · exact nz_rat e1 h1
theorem par_trans {r a b:V3} (hr:r ≠ v0) (ha:vcr a r=v0) (hb:vcr b r=v0):vcr a b=v0:=by
 obtain ⟨a1,a2,a3⟩:=cr_zero.1 ha
 obtain ⟨b1,b2,b3⟩:=cr_zero.1 hb
 rw [cr_zero]
 by_cases e1:r.1=0
 · by_cases e2:r.2.1=0
   · by_cases e3:r.2.2=0
     · exact absurd ((v0_iff r).2 ⟨e1,e2,e3⟩) hr
     · refine ⟨nz_rat e3 ?_,nz_rat e3 ?_,nz_rat e3 ?_⟩<;>grind
   · refine ⟨nz_rat e2 ?_,nz_rat e2 ?_,nz_rat e2 ?_⟩<;>grind
 · refine ⟨nz_rat e1 ?_,nz_rat e1 ?_,nz_rat e1 ?_⟩<;>grind
theorem rs_nz {r s:V3} {p q:Nat} (hp:p<3) (hq:q<3) (hr:pick p r ≠ 0) (hs:pick q s ≠ 0) (h0:pick p s=0):vcr r s ≠ v0:=by
 intro h
 obtain ⟨h1,h2,h3⟩:=cr_zero.1 h
 have hpq:p ≠ q:=fun e=>hs (e ▸ h0)
 rcases (show p=0∨p=1∨p=2 by omega) with rfl|rfl|rfl<;>rcases (show q=0∨q=1∨q=2 by omega) with rfl|rfl|rfl<;>first|exact absurd rfl hpq|skip
 all_goals simp only [pick0,pick1,pick2] at hr hs h0
 all_goals exact mul_nz hr hs (by grind)
def InvR (seen:List V3):List (V3 × Nat)→Prop
 | []=>∀ a ∈ seen,a=v0
 | [(r,p)]=>p<3∧pick p r ≠ 0∧(∃ a ∈ seen,∃ k,r=vsc k a)∧∀ a ∈ seen,vcr a r=v0
 | [(r,p),(s,q)]=>p<3∧q<3∧pick p r ≠ 0∧pick q s ≠ 0∧pick p s=0∧(∃ a ∈ seen,∃ b ∈ seen,∃ k,vcr r s=vsc k (vcr a b))∧∀ a ∈ seen,vdt a (vcr r s)=0
 | _=>False
theorem sc_v0 (k:Rat):vsc k v0=v0:=by unfold vsc v0; refine v3_ext ?_ ?_ ?_<;>(simp only []; grind)
theorem pick_v0 (p:Nat):pick p v0=0:=by
 unfold pick v0
 split
 · rfl
 · split<;>rfl
theorem rank_ok {dir:V3→V3} (hd:∀ a,a ≠ v0→∃ k,k ≠ 0∧dir a=vsc k a):∀ (l:List V3) (rows:List (V3 × Nat)) (seen:List V3),InvR seen rows→Rk (seen++l) (stepR dir l rows)
 | [],rows,seen,h=>by
   rw [List.append_nil]
   unfold stepR
   match rows,h with
   | [],h=>exact .inl ⟨rfl,h⟩
   | [(r,p)],⟨h1,h2,⟨a,ha,k,hk⟩,h4⟩ =>
     have hr0:r ≠ v0:=fun e=>h2 (by rw [e]; exact pick_v0 p)
     exact .inr (.inl ⟨rfl,⟨a,ha,fun e=>hr0 (by rw [hk,e]; exact sc_v0 k)⟩,fun x hx y hy=>par_trans hr0 (h4 x hx) (h4 y hy)⟩)
   | [(r,p),(s,q)],⟨h1,h2,h3,h4,h5,⟨a,ha,b,hb,k,hk⟩,h7⟩ =>
     have hn:=rs_nz h1 h2 h3 h4 h5
     exact .inr (.inr (.inl ⟨rfl,⟨a,ha,b,hb,fun e=>hn (by rw [hk,e]; exact sc_v0 k)⟩,fun x hx y hy z hz=>det_perp hn (h7 x hx) (h7 y hy) (h7 z hz)⟩))
   | _::_::_::_,h=>exact absurd h id
 | a::l,rows,seen,h=>by
   have e:seen++a::l=(seen++[a])++l:=by simp
   have hin:a ∈ seen++[a]:=by simp
   have hup:∀ x ∈ seen,x ∈ seen++[a]:=fun x hx=>by simp [hx]
   have hall:∀ {Q:V3→Prop},(∀ x ∈ seen,Q x)→Q a→∀ x ∈ seen++[a],Q x:=fun h1 h2 x hx=>by
    rcases List.mem_append.1 hx with hx|hx
    · exact h1 x hx
    · rw [List.mem_singleton.1 hx]; exact h2
   rw [e]
   unfold stepR
   match rows,h with
   | [],h =>
     have er:redA [] a=a:=rfl
     rw [er]
     cases hz:nzP a with
     | none=>exact rank_ok hd l [] _ (hall h (nz_none hz))
     | some p =>
       obtain ⟨k1,k2⟩:=nz_some hz
       have ha0:a ≠ v0:=fun e=>k1 (by rw [e]; exact pick_v0 p)
       obtain ⟨k,hk0,hk⟩:=hd a ha0
       refine rank_ok hd l [(dir a,p)] _ ⟨k2,?_,⟨a,hin,k,hk⟩,hall (fun x hx=>by rw [h x hx]; exact cr_zl _) (by rw [hk]; exact cr_self k a)⟩
       rw [hk,pick_sc]; exact mul_nz hk0 k1
   | [(r,p)],⟨h1,h2,⟨b,hb,k,hk⟩,h4⟩ =>
     have er:redA [(r,p)] a=red1 r p a:=rfl
     rw [er]
     cases hz:nzP (red1 r p a) with
     | none=>exact rank_ok hd l [(r,p)] _ ⟨h1,h2,⟨b,hup b hb,k,hk⟩,hall h4 (red_zero h2 (nz_none hz))⟩
     | some q =>
       obtain ⟨k1,k2⟩:=nz_some hz
       have ha0:red1 r p a ≠ v0:=fun e=>k1 (by rw [e]; exact pick_v0 q)
       obtain ⟨j,hj0,hj⟩:=hd _ ha0
       refine rank_ok hd l [(r,p),(dir (red1 r p a),q)] _ ⟨h1,k2,h2,?_,?_,⟨b,hup b hb,a,hin,j*pick p r*k,?_⟩,hall (fun x hx=>dt_par (h4 x hx)) ?_⟩
       · rw [hj,pick_sc]; exact mul_nz hj0 k1
       · rw [hj,pick_sc,red1_p,Rat.mul_zero]
       · rw [hj,cr_red,hk,cr_sc,sc_sc,← hk]
       · rw [hj,cr_red,dt_sc,dt_cr_self,Rat.mul_zero]
   | [(r,p),(s,q)],⟨h1,h2,h3,h4,h5,⟨b,hb,c,hc,k,hk⟩,h7⟩ =>
     have er:redA [(r,p),(s,q)] a=red1 s q (red1 r p a):=rfl
     rw [er]
     cases hz:nzP (red1 s q (red1 r p a)) with
     | none =>
       refine rank_ok hd l [(r,p),(s,q)] _ ⟨h1,h2,h3,h4,h5,⟨b,hup b hb,c,hup c hc,k,hk⟩,hall h7 ?_⟩
       have hz:=nz_none hz
       have key:vdt (red1 s q (red1 r p a)) (vcr r s)=pick q s*pick p r*vdt a (vcr r s):=by
        unfold red1 vsb vsc vdt vcr
        simp only []
        generalize pick q s=x
        generalize pick p r=y
        generalize pick p a=z
        generalize pick q _=w
        grind
       rw [hz] at key
       have:vdt v0 (vcr r s)=0:=by unfold vdt v0; simp only []; grind
       rw [this] at key
       exact nz_rat (mul_nz h4 h3) key.symm
     | some t =>
       obtain ⟨k1,k2⟩:=nz_some hz
       have ha0:red1 s q (red1 r p a) ≠ v0:=fun e=>k1 (by rw [e]; exact pick_v0 t)
       have hd3:=third h1 h2 h3 h4 h5 ha0
       rw [hk,dt_sc] at hd3
       exact .inr (.inr (.inr ⟨rfl,a,by simp,b,by simp [hb],c,by simp [hc],(nz_of_mul hd3).2⟩))
   | _::_::_::_,h=>exact absurd h id
end Go.Proofs.Ytapddfjimhohcaa.AM
/- The document's whole numbers. -/
namespace Go.Proofs.Ytapddfjimhohcaa.AM
set_option linter.all false
set_option autoImplicit true
set_option relaxedAutoImplicit true
open Go Go.Proofs
set_option maxRecDepth 100000
set_option maxHeartbeats 8000000
set_option linter.unusedSimpArgs false
variable {P:Program}
def rC (z:Int):List AV:=[.bool (decide (z<0)),.opq (.rnat z.natAbs)]
theorem CvL.rintOut (z:Int) {xs bs} (h:CvL xs bs):CvL (.agg (rC z)::xs) ((.agg [.opq (.rint (z)),.pad])::bs):=.agg (by simpa [Pay.open,Pay.width,rC] using CvL.fold (.rint z) [] rfl) h
theorem Conv.rint (z:Int):Conv (.agg (rC z)) (.agg [.opq (.rint (z)),.pad]):=CvL.conv (.rintOut z .nil)
noncomputable def Wt4:Nat→List AV→Option (Prop × AV):=Wt3
theorem Wt4_all (hP:PrgOk P) (T) (hT:TyOk P T):EnvOk P ⟨T,Wt4⟩:=(Wt3_all hP T hT)
attribute [go_sem] Wt4
end Go.Proofs.Ytapddfjimhohcaa.AM
/- Lists of numbers in cells. -/
namespace Go.Proofs.Ytapddfjimhohcaa.AM
set_option linter.all false
set_option autoImplicit true
set_option relaxedAutoImplicit true
open Go Go.Proofs
theorem nq_l (q k:Nat):(q+(k+1) == q)=false:=by simp
theorem nq_r (q k:Nat):(q == q+(k+1))=false:=by simp
attribute [go_sem] nq_l nq_r true_or or_true ne_eq not_false_eq_true not_true_eq_false imp_self
class Wd {α:Type} (f:α→List AV) (k:outParam Nat):Prop where
 len:∀ a,(f a).length=k
 pos:0<k
 head:∀ a,AV.head (f a)=true
 ck:∀ a,(f a).all AV.ck=true
 only:∀ g a,onlyL g (f a)=true
 fv:∀ m j a,(f a).map (fzV m j)=f a
 fc:∀ m j a,∀ x ∈ f a,fzC m j x
def cl {α:Type} (f:α→List AV) (l:List α):List AV:=l.flatMap f
section
variable {α:Type} {f:α→List AV} {k:Nat} {l:List α} {a:α} {i:Nat}
theorem cl_cons:cl f (a::l)=f a++cl f l:=rfl
theorem cl_app (l'):cl f l++cl f l'=cl f (l++l'):=by simp [cl]
theorem cl_snoc:cl f l++f a=cl f (l++[a]):=by simp [cl]
variable [h:Wd f k]
theorem cl_len:(cl f l).length=l.length*k:=by
 induction l with
 | nil=>simp [cl]
 | cons a l ih=>rw [cl_cons,List.length_append,h.len,ih,List.length_cons,Nat.succ_mul,Nat.add_comm]
theorem cl_drop:(cl f l).drop (i*k)=cl f (l.drop i):=by
 induction i generalizing l with
 | zero=>simp
 | succ i ih =>
   cases l with
   | nil=>simp [cl]
   | cons a l =>
     rw [cl_cons,Nat.succ_mul,Nat.add_comm,← List.drop_drop,← h.len a,List.drop_left,List.drop_succ_cons,h.len a]; exact ih
theorem cl_take:(cl f l).take (i*k)=cl f (l.take i):=by
 induction i generalizing l with
 | zero=>simp [cl]
 | succ i ih =>
   cases l with
   | nil=>simp [cl]
   | cons a l =>
     rw [cl_cons,Nat.succ_mul,Nat.add_comm,List.take_append,h.len,List.take_of_length_le (by rw [h.len]; omega),Nat.add_sub_cancel_left,List.take_succ_cons,ih]; rfl
theorem cl_head {α:Type} {f:α→List AV} {k:Nat} {l:List α} [h:Wd f k]:AV.head (cl f l)=true:=by
 cases l with
 | nil=>rfl
 | cons a l =>
   have h1:=h.head a
   have h2:=h.len a
   have h3:=h.pos
   rw [cl_cons]
   cases hf:f a with
   | nil=>rw [hf] at h2; simp at h2; omega
   | cons x t=>rw [hf] at h1; cases x<;>first|rfl|exact h1
theorem cl_ck {α:Type} {f:α→List AV} {k:Nat} {l:List α} [h:Wd f k]:(cl f l).all AV.ck=true:=by
 induction l with
 | nil=>rfl
 | cons a l ih=>rw [cl_cons,List.all_append,h.ck,ih]; rfl
theorem cl_only {α:Type} {f:α→List AV} {k:Nat} {l:List α} [h:Wd f k] (g):onlyL g (cl f l)=true:=by
 induction l with
 | nil=>rfl
 | cons a l ih=>rw [cl_cons,onlyL_append,h.only,ih]; rfl
theorem cl_fv {α:Type} {f:α→List AV} {k:Nat} {l:List α} [h:Wd f k] (m j):(cl f l).map (fzV m j)=cl f l:=by
 induction l with
 | nil=>rfl
 | cons a l ih=>rw [cl_cons,List.map_append,h.fv,ih]
theorem cl_fc {α:Type} {f:α→List AV} {k:Nat} {l:List α} [h:Wd f k] (m j):(∀ x ∈ cl f l,fzC m j x)=True:=eq_true fun x hx=>by
 obtain ⟨a,_,hx⟩:=List.mem_flatMap.1 hx
 exact h.fc m j a x hx
theorem cl_all {α:Type} {f:α→List AV} {k:Nat} {l:List α} [h:Wd f k] {n:Nat} (hn:n=l.length*k):(cl f l).take n=cl f l:=List.take_of_length_le (by rw [cl_len]; omega)
theorem cl_repl {α:Type} {f:α→List AV} (n:Nat) (a:α):(List.replicate n (f a)).flatten=cl f (List.replicate n a):=by
 induction n with
 | zero=>rfl
 | succ n ih=>rw [List.replicate_succ,List.flatten_cons,ih,List.replicate_succ,cl_cons]
theorem cl_set (hi:i<l.length):(cl f l).take (i*k)++f a++(cl f l).drop (i*k+k)=cl f (l.set i a):=by
 rw [cl_take,show i*k+k=(i+1)*k by rw [Nat.succ_mul],cl_drop,cl_snoc,cl_app]
 congr 1
 rw [List.set_eq_take_append_cons_drop,if_pos hi]; simp
end
theorem CvL.imm {n:Nat} {cs cs' xs bs:List AV} (h:CvL cs cs') (h':CvL xs bs):CvL (.imm n cs::xs) (.imm n cs'::bs):=fun X φ w l hl=>by
 generalize e:(AV.imm n cs::xs)=t at hl
 cases hl with
 | imm0 a c h1 =>
   obtain ⟨e1,e2⟩:=List.cons.inj e
   simp only [AV.imm.injEq] at e1
   obtain ⟨rfl,rfl⟩:=e1
   obtain rfl:=e2
   have h2:=h X φ w [] .nil
   have:cs'=[]:=by have:=h2.length; simpa using this.symm
   subst this
   exact .imm0 _ _ (h' _ _ _ _ h1)
 | imm z h1 h2 h3 h4 =>
   obtain ⟨e1,e2⟩:=List.cons.inj e
   simp only [AV.imm.injEq] at e1
   obtain ⟨rfl,rfl⟩:=e1
   obtain rfl:=e2
   exact .imm z h1 h2 (h _ _ _ _ h3) (h' _ _ _ _ h4)
 | _=>cases e
theorem RL.app_inv {W φ w} {us bs:List AV} {l:List Value} (h:RL W φ w l (us++bs)) (hh:AV.head bs=true):RL W φ w (l.take us.length) us∧RL W φ w (l.drop us.length) bs:=by
 have:=h.split us.length (by simp) (by simpa using hh)
 simpa using this
theorem CvL.app {a b c d:List AV} (h:CvL a b) (h':CvL c d) (hc:AV.head c=true):CvL (a++c) (b++d):=fun X φ w l hl=>by
 obtain ⟨h1,h2⟩:=RL.app_inv hl hc
 have:=(h _ _ _ _ h1).app (h' _ _ _ _ h2)
 rwa [List.take_append_drop] at this
theorem CvL.cl {α:Type} {f g:α→List AV} {k:Nat} [Wd f k] (h:∀ a,CvL (f a) (g a)) (l:List α):CvL (AM.cl f l) (AM.cl g l):=by
 induction l with
 | nil=>exact .refl _
 | cons a l ih=>rw [cl_cons,cl_cons]; exact CvL.app (h a) ih cl_head
theorem CvL.clm {α β:Type} {f:α→List AV} {g:β→List AV} {k:Nat} [Wd f k] {h:α→β} (hh:∀ a,CvL (f a) (g (h a))) (l:List α):CvL (AM.cl f l) (AM.cl g (l.map h)):=by
 induction l with
 | nil=>exact .refl _
 | cons a l ih=>rw [cl_cons,List.map_cons,cl_cons]; exact CvL.app (hh a) ih cl_head
def wG (z:Int):List AV:=[.opq (.whole z),.pad,.pad]
theorem fz_flat {l:List AV} (h:∀ x ∈ l,∀ m j,fzC m j x∧fzV m j x=x):(∀ m j,l.map (fzV m j)=l)∧∀ m j,∀ x ∈ l,fzC m j x:=by
 refine ⟨fun m j=>?_,fun m j x hx=>(h x hx m j).1⟩
 conv=>rhs; rw [← List.map_id l]
 exact List.map_congr_left fun x hx=>(h x hx m j).2
theorem fz_wC (z:Int):∀ x ∈ wC z,∀ m j,fzC m j x∧fzV m j x=x:=by
 intro x hx m j
 simp only [wC,List.mem_cons,List.not_mem_nil,or_false] at hx
 rcases hx with rfl|rfl|rfl<;>cases j<;>exact ⟨trivial,rfl⟩
theorem fz_wG (z:Int):∀ x ∈ wG z,∀ m j,fzC m j x∧fzV m j x=x:=by
 intro x hx m j
 simp only [wG,List.mem_cons,List.not_mem_nil,or_false] at hx
 rcases hx with rfl|rfl|rfl<;>cases j<;>exact ⟨trivial,rfl⟩
instance:Wd wC 3:=⟨fun _=>rfl,by decide,fun _=>rfl,fun _=>rfl,fun _ _=>rfl,fun m j z=>(fz_flat (fz_wC z)).1 m j,fun m j z=>(fz_flat (fz_wC z)).2 m j⟩
instance:Wd wG 3:=⟨fun _=>rfl,by decide,fun _=>rfl,fun _=>rfl,fun _ _=>rfl,fun m j z=>(fz_flat (fz_wG z)).1 m j,fun m j z=>(fz_flat (fz_wG z)).2 m j⟩
theorem CvL.GC (z:Int):CvL (wG z) (wC z):=by simpa [Pay.open,Pay.width,wC,wG] using CvL.unfold (.whole z) []
theorem CvL.CG (z:Int):CvL (wC z) (wG z):=by simpa [Pay.open,Pay.width,wC,wG] using CvL.fold (.whole z) [] rfl
end Go.Proofs.Ytapddfjimhohcaa.AM
/- Whole numbers without what divides them all. -/
namespace Go.Proofs.Ytapddfjimhohcaa.AM
set_option linter.all false
set_option autoImplicit true
set_option relaxedAutoImplicit true
open Go Go.Proofs
set_option maxRecDepth 100000
set_option maxHeartbeats 8000000
set_option linter.unusedSimpArgs false
variable {P:Program}
def gcdL (l:List Int):Nat:=l.foldl (fun g z=>Nat.gcd g z.natAbs) 0
theorem gcdL_snoc (l:List Int) (z:Int):gcdL (l++[z])=Nat.gcd (gcdL l) z.natAbs:=by simp [gcdL]
theorem gcdF_blen {n:Nat}:∀ (l:List Int) (g:Nat),blen g≤n→(∀ z ∈ l,wl z≤n)→blen (l.foldl (fun g z=>Nat.gcd g z.natAbs) g)≤n
 | [],_,hg,_=>hg
 | z::l,g,hg,h=>gcdF_blen l _ (gcd_blen hg (h z (by simp))) fun y hy=>h y (by simp [hy])
theorem gcdL_blen {n:Nat} (l:List Int) (h:∀ z ∈ l,wl z≤n):blen (gcdL l)≤n:=gcdF_blen l 0 (Nat.le_trans (Nat.le_of_eq (show blen 0=0 by decide)) (Nat.zero_le _)) h
def primZ (g:Nat) (z:Int):Int:=if g=0 then z else sg (decide (z<0)) (z.natAbs / g)
def primL (l:List Int):List Int:=l.map (primZ (gcdL l))
theorem prim2_ic (hP:PrgOk P) {l:List Int} {i g:Nat} {z:Int} {K:Nat→AV→(Nat→AObj)→Prop} (hi:i<l.length) (hz:l[i]=z) (hzb:wl z≤34359738368) (hg:blen g≤34359738368)
 (k:∀ nx m',KM [2,0] m' (upd (upd (fun _=>.unused) 0 (.live [.imm l.length (cl wC l)])) 2 (.live [.opq (.nat (Nat.gcd g z.natAbs)),.pad]))→K nx (.tup []) m') :
 icX (ICall P) 79 [.int .i64 (i:Int),.ref 2 0,.ref 0 0] (upd (upd (fun _=>.unused) 0 (.live [.imm l.length (cl wC l)])) 2 (.live [.opq (.nat g),.pad])) (K:=⟨K⟩):=by
 have HE:=Wt4_all hP T1 hP.t1
 refine icX_vc (E:=⟨T1,Wt4⟩) (fn79 hP) HE hP.mix rfl rfl (Nat.le_of_ble_eq_true rfl) 0 ?_
 have h3:i*3≤l.length*3:=by omega
 have hd:(cl wC l).drop (i*3) = .bool (decide (z<0)) :: .opq (.nat z.natAbs) :: .pad::cl wC (l.drop (i+1)):=by
  rw [cl_drop,List.drop_eq_getElem_cons hi,cl_cons,hz]; rfl
 have hlen:(cl wC (l.drop (i+1))).length=(l.length-(i+1))*3:=by rw [cl_len,List.length_drop]
 have hh:AV.head (cl wC (l.drop (i+1)))=true:=cl_head
 have hzb':=Nat.le_trans hzb (show _≤68719476736 by decide)
 have hg':=Nat.le_trans hg (show _≤68719476736 by decide)
 unfold wl at hzb'
 simp only [go_sem,hi,cl_len,h3,hd,hzb',hg',hlen,hh,upd_upd]
 have ho:objOnly [2,0] (.live [.imm l.length (cl wC l)])=true:=by simp only [objOnly,onlyL,AV.only,cl_only,Bool.and_true]
 exact k _ _ (KM.p (.upd rfl rfl (.upd rfl ho .nil)))
theorem each_ic (hP:PrgOk P) {n fd:Nat} {dcs cs0:List AV} {M:Nat→Nat→AObj} {L:List Nat} {K:Nat→AV→(Nat→AObj)→Prop} (hn:n≤1099511627776)
 (h0:∀ i,M i 0 = .live [.imm n cs0]) (hM:∀ i,GenM L (M i)) (hd:onlyL (fun r=>L.contains r) dcs=true) (h0L:L.contains 0=true)
 (step:∀ i,i<n→∀ K':Nat→AV→(Nat→AObj)→Prop,(∀ nx m',KM L m' (M (i+1))→K' nx (.tup []) m')→icX (ICall P) fd (.int .i64 (i:Int)::dcs) (M i) (K:=⟨K'⟩))
 (k:∀ nx,K nx (.tup []) (M n)) :
 icX (ICall P) 78 [.fn fd [] dcs,.ref 0 0] (M 0) (K:=⟨K⟩):=by
 have HE:=EnvOk.no hP.t1
 refine icX_vc (E:=⟨T1,noS⟩) (fn78 hP) HE hP.mix rfl rfl (Nat.le_of_ble_eq_true rfl) 0 ?_
 have h00:=h0 0
 have hdo:(AV.fn fd [] dcs).only (fun r=>L.contains r)=true:=by simp only [AV.only,onlyL,Bool.true_and]; exact hd
 have hro:(AV.ref 0 0).only (fun r=>L.contains r)=true:=by simp only [AV.only]; exact h0L
 simp only [go_sem,h00]
 refine trX_loop HE hP.mix L (fun i:Nat=>⟨upd (upd (upd (upd (fun _=>.junk) 0 (.fn fd [] dcs)) 1 (.ref 0 0)) 5 (.int .i64 (n:Int))) 6 (.int .i64 (i:Int)),M i,13⟩)
  (fun i=>i≤n) (fun i=>n-i) 0 0 (hM 0).1 (Kept.of rfl (by repeat (first|exact KT.nil|refine KT.upd rfl (by first|rfl|exact hdo|exact hro) ?_)) (KM.gen (hM 0))) (Nat.zero_le _) 13 (by kernel_rfl) ?_
 intro i hi
 by_cases h:i<n
 · have hwi:=wi_add1 i (by omega)
   simp only [go_sem,h,h0 i]
   refine step i h _ fun nx m' hm'=>?_
   simp only [go_sem,hwi]
   exact ⟨i+1,Kept.of rfl (by repeat (first|exact KT.nil|refine KT.upd rfl (by first|rfl|exact hdo|exact hro) ?_)) hm',by omega,by omega⟩
 · obtain rfl:i=n:=by omega
   simp only [go_sem,h]
   exact k _
def wX (p:Bool × Int):List AV:=if p.1 then wG p.2 else wC p.2
theorem fz_wX (p:Bool × Int):∀ x ∈ wX p,∀ m j,fzC m j x∧fzV m j x=x:=by
 obtain ⟨b,z⟩:=p
 cases b
 · exact fz_wC z
 · exact fz_wG z
instance:Wd wX 3:=⟨fun ⟨b,_⟩=>by cases b<;>rfl,by decide,fun ⟨b,_⟩=>by cases b<;>rfl,fun ⟨b,_⟩=>by cases b<;>rfl,fun _ ⟨b,_⟩=>by cases b<;>rfl,fun m j z=>(fz_flat (fz_wX z)).1 m j,fun m j z=>(fz_flat (fz_wX z)).2 m j⟩
theorem CvL.XG (p:Bool × Int):CvL (wX p) (wG p.2):=by
 obtain ⟨b,z⟩:=p
 cases b
 · exact .CG z
 · exact .refl _
def stP (g:Nat) (z:Int):Bool × Int:=if g=0 then (false,z) else (true,primZ g z)
theorem stP_snd (g z):(stP g z).2=primZ g z:=by unfold stP primZ; split<;>rfl
abbrev M3 (l:List Int) (g:Nat) (o:List (Bool × Int)):Nat→AObj:=upd (upd (upd (upd (fun _=>.unused) 0 (.live [.imm l.length (cl wC l)])) 2 (.live [.opq (.nat g),.pad])) 10 (.live (cl wX o))) 11 (.live [.sl 10 0 l.length 3])
theorem prim3_ic (hP:PrgOk P) {l:List Int} {i g:Nat} {z:Int} {o:List (Bool × Int)} {K:Nat→AV→(Nat→AObj)→Prop} (hi:i<l.length) (ho:o.length=l.length) (hz:l[i]=z) (hzb:wl z≤34359738368) (hg:blen g≤34359738368)
 (k:∀ nx m',KM [11,10,2,0] m' (M3 l g (o.set i (stP g z)))→K nx (.tup []) m') :
 icX (ICall P) 80 [.int .i64 (i:Int),.ref 0 0,.ref 11 0,.ref 2 0] (M3 l g o) (K:=⟨K⟩):=by
 have HE:=Wt4_all hP T1 hP.t1
 refine icX_any 0 (icX_vc (E:=⟨T1,Wt4⟩) (fn80 hP) HE hP.mix rfl rfl (Nat.le_of_ble_eq_true rfl) 20 ?_)
 have hio:i<o.length:=by omega
 have h3:i*3≤l.length*3:=by omega
 have h4:i*3+3≤o.length*3:=by omega
 have h5:i*3+3≤l.length*3:=by omega
 have h6:i*3+3=(i+1)*3:=by omega
 have hd:(cl wC l).drop (i*3) = .bool (decide (z<0)) :: .opq (.nat z.natAbs) :: .pad::cl wC (l.drop (i+1)):=by
  rw [cl_drop,List.drop_eq_getElem_cons hi,cl_cons,hz]; rfl
 have hlen:(cl wC (l.drop (i+1))).length=(l.length-(i+1))*3:=by rw [cl_len,List.length_drop]
 have hh:AV.head (cl wC (l.drop (i+1)))=true:=cl_head
 have o1:AV.head ((cl wX o).drop (i*3))=true:=by rw [cl_drop]; exact cl_head
 have o2:AV.head ((cl wX o).drop (i*3+3))=true:=by rw [h6,cl_drop]; exact cl_head
 have s1:(cl wX o).take (i*3)++[.bool (decide (z<0)),.opq (.nat z.natAbs),.pad]++(cl wX o).drop (i*3+3)=cl wX (o.set i (false,z)):=cl_set (f:=wX) (a:=(false,z)) hio
 have hzb':=Nat.le_trans hzb (show _≤68719476736 by decide)
 have hg':=Nat.le_trans hg (show _≤68719476736 by decide)
 unfold wl at hzb'
 have ho0:objOnly [11,10,2,0] (.live [.imm l.length (cl wC l)])=true:=by simp only [objOnly,onlyL,AV.only,cl_only,Bool.and_true]
 have hoX:∀ o:List (Bool × Int),objOnly [11,10,2,0] (.live (cl wX o))=true:=fun o=>by simp only [objOnly,cl_only]
 by_cases h0:g=0
 · have hs:stP g z=(false,z):=by unfold stP; rw [if_pos h0]
   rw [hs] at k
   subst h0
   have b0:blen 0≤68719476736:=by decide
   simp only [go_sem,hi,hio,cl_len,ho,h3,h4,h5,hd,hzb',hg',hlen,hh,upd_upd,o1,o2,s1,b0]
   exact k _ _ (KM.p (.upd rfl rfl (.upd rfl (hoX _) (.upd rfl rfl (.upd rfl ho0 .nil)))))
 · have hs:stP g z=(true,primZ g z):=by unfold stP; rw [if_neg h0]
   rw [hs] at k
   have h0':(g=0)=False:=eq_false h0
   have hq:=Nat.le_trans (blen_le_of (Nat.div_le_self z.natAbs g) hzb) (show _≤68719476736 by decide)
   have hpz:sg (decide (z<0)) (z.natAbs / g)=primZ g z:=by unfold primZ; rw [if_neg h0]
   have o3:(o.set i (false,z)).length=l.length:=by rw [List.length_set,ho]
   have o4:AV.head ((cl wX (o.set i (false,z))).drop (i*3))=true:=by rw [cl_drop]; exact cl_head
   have o5:AV.head ((cl wX (o.set i (false,z))).drop (i*3+3))=true:=by rw [h6,cl_drop]; exact cl_head
   have s2:(cl wX (o.set i (false,z))).take (i*3)++[.opq (.whole (primZ g z)),.pad,.pad]++(cl wX (o.set i (false,z))).drop (i*3+3)=cl wX (o.set i (true,primZ g z)):=by
    have:=cl_set (f:=wX) (l:=o.set i (false,z)) (a:=(true,primZ g z)) (i:=i) (by omega)
    rw [List.set_set] at this; exact this
   simp only [go_sem,hi,hio,cl_len,ho,h3,h4,h5,hd,hzb',hg',hlen,hh,upd_upd,o1,o2,s1,h0',hq,hpz,o3,o4,o5,s2]
   exact k _ _ (KM.p (.upd rfl rfl (.upd rfl (hoX _) (.upd rfl rfl (.upd rfl ho0 .nil)))))
end Go.Proofs.Ytapddfjimhohcaa.AM
/- What divides some numbers. -/
namespace Go.Proofs.Ytapddfjimhohcaa.AM
set_option linter.all false
set_option autoImplicit true
set_option relaxedAutoImplicit true
open Go Go.Proofs
set_option maxRecDepth 100000
theorem primZ_wl (g:Nat) (z:Int):wl (primZ g z)≤wl z:=by
 unfold primZ; split
 · exact Nat.le_refl _
 · rw [show wl (sg (decide (z<0)) (z.natAbs / g))=blen (z.natAbs / g) by unfold wl; rw [sg_abs]]
   exact blen_mono (Nat.div_le_self _ _)
theorem gcdF_dvd:∀ (l:List Int) (g:Nat),l.foldl (fun g z=>Nat.gcd g z.natAbs) g ∣ g∧∀ z ∈ l,l.foldl (fun g z=>Nat.gcd g z.natAbs) g ∣ z.natAbs
 | [],g=>⟨Nat.dvd_refl _,by simp⟩
 | y::l,g=>by
   obtain ⟨h1,h2⟩:=gcdF_dvd l (Nat.gcd g y.natAbs)
   simp only [List.foldl_cons]
   refine ⟨Nat.dvd_trans h1 (Nat.gcd_dvd_left _ _),fun z hz=>?_⟩
   rcases List.mem_cons.1 hz with rfl|hz
   · exact Nat.dvd_trans h1 (Nat.gcd_dvd_right _ _)
   · exact h2 z hz
theorem gcdL_dvd {l:List Int} {z:Int} (h:z ∈ l):gcdL l ∣ z.natAbs:=(gcdF_dvd l 0).2 z h
theorem primZ_mul {g:Nat} {z:Int} (h:g ≠ 0) (hd:g ∣ z.natAbs):primZ g z*(g:Int)=z:=by
 have hz:=sg_of z
 unfold primZ
 rw [if_neg h]
 have e:=Nat.div_mul_cancel hd
 by_cases h1:z<0
 · rw [decide_eq_true h1,sg_t] at *
   rw [Int.neg_mul,← Int.natCast_mul,e]; exact hz
 · rw [decide_eq_false h1,sg_f] at *
   rw [← Int.natCast_mul,e]; exact hz
theorem gcdL_zero {l:List Int} (h:gcdL l=0) {z:Int} (hz:z ∈ l):z=0:=by
 have:=gcdL_dvd hz
 rw [h] at this
 have:=Nat.zero_dvd.1 this
 omega
def lcmD (m d:Nat):Nat:=m*(d / Nat.gcd m d)
theorem lcmD_blen {m d x y:Nat} (h:blen m≤x) (h':blen d≤y):blen (lcmD m d)≤x+y:=blen_mul_le h (blen_le_of (Nat.div_le_self _ _) h')
theorem lcmD_l (m d):m ∣ lcmD m d:=⟨_,rfl⟩
theorem lcmD_r (m d:Nat):d ∣ lcmD m d:=by
 unfold lcmD
 obtain ⟨c,hc⟩:=Nat.gcd_dvd_left m d
 have e:=Nat.div_mul_cancel (Nat.gcd_dvd_right m d)
 refine ⟨c,?_⟩
 generalize Nat.gcd m d=g at *
 calc m*(d / g)=(d / g*g)*c:=by rw [hc]; rw [Nat.mul_comm (g*c),Nat.mul_assoc]
  _=d*c:=by rw [e]
theorem lcmD_pos {m d:Nat} (hm:0<m) (hd:0<d):0<lcmD m d:=Nat.mul_pos hm (Nat.div_pos (Nat.le_of_dvd hd (Nat.gcd_dvd_right m d)) (Nat.gcd_pos_of_pos_right m hd))
def mV (a:V3):Nat:=lcmD (lcmD (lcmD 1 a.1.den) a.2.1.den) a.2.2.den
theorem mV_pos (a:V3):0<mV a:=lcmD_pos (lcmD_pos (lcmD_pos (by decide) a.1.den_pos) a.2.1.den_pos) a.2.2.den_pos
theorem mV_1 (a:V3):a.1.den ∣ mV a:=Nat.dvd_trans (lcmD_r _ _) (Nat.dvd_trans (lcmD_l _ _) (lcmD_l _ _))
theorem mV_2 (a:V3):a.2.1.den ∣ mV a:=Nat.dvd_trans (lcmD_r _ _) (lcmD_l _ _)
theorem mV_3 (a:V3):a.2.2.den ∣ mV a:=lcmD_r _ _
def nV (a:V3) (x:Rat):Int:=x.num*((mV a / x.den:Nat):Int)
def gV (a:V3):Nat:=gcdL [nV a a.1,nV a a.2.1,nV a a.2.2]
def dV (a:V3) (x:Rat):Int:=primZ (gV a) (nV a x)
noncomputable def dirA (a:V3):V3:=((dV a a.1:Int),(dV a a.2.1:Int),(dV a a.2.2:Int))
theorem num_den (x:Rat):(x.num:Rat)=x*(x.den:Rat):=by
 rw [mul_mk,← mk_int]
 show mkRat x.num 1=mkRat (x.num*(x.den:Int)) (x.den*1)
 have:=Rat.mkRat_mul_right (n:=x.num) (d:=1) (a:=x.den) x.den_nz
 rw [Nat.mul_one,← this,Nat.one_mul]
theorem nV_eq {a:V3} {x:Rat} (h:x.den ∣ mV a):((nV a x:Int):Rat)=x*(mV a:Rat):=by
 unfold nV
 obtain ⟨c,hc⟩:=h
 have hd:mV a / x.den=c:=by rw [hc]; exact Nat.mul_div_cancel_left c x.den_pos
 rw [hd,hc,Rat.intCast_mul,num_den x,Rat.natCast_mul,Rat.mul_assoc]
 rfl
theorem nat_nz {n:Nat} (h:n ≠ 0):(n:Rat) ≠ 0:=fun e=>h (by exact_mod_cast e)
theorem gV_zero (a:V3):gV a=0 ↔ a=v0:=by
 have hm:=nat_nz (Nat.pos_iff_ne_zero.1 (mV_pos a))
 constructor
 · intro h
   have k:∀ {x:Rat},x.den ∣ mV a→nV a x=0→x=0:=fun hd e=>by
    have:=nV_eq hd
    rw [e] at this
    rcases Rat.mul_eq_zero.1 this.symm with h|h
    · exact h
    · exact absurd h hm
   refine (v0_iff a).2 ⟨k (mV_1 a) (gcdL_zero h (by simp)),k (mV_2 a) (gcdL_zero h (by simp)),k (mV_3 a) (gcdL_zero h (by simp))⟩
 · rintro rfl
   decide +kernel
theorem dV_mul {a:V3} (h0:a ≠ v0) {x:Rat} (hd:x.den ∣ mV a) (hx:nV a x ∈ [nV a a.1,nV a a.2.1,nV a a.2.2]):((dV a x:Int):Rat)=((mV a:Rat) / (gV a:Rat))*x:=by
 have hg:gV a ≠ 0:=fun e=>h0 ((gV_zero a).1 e)
 have e:primZ (gV a) (nV a x)*(gV a:Int)=nV a x:=primZ_mul hg (gcdL_dvd hx)
 have e2:((dV a x:Int):Rat)*(gV a:Rat)=x*(mV a:Rat):=by
  rw [← nV_eq hd]
  have:((primZ (gV a) (nV a x)*(gV a:Int):Int):Rat)=((nV a x:Int):Rat):=by rw [e]
  rw [Rat.intCast_mul] at this
  exact this
 have hg':=nat_nz hg
 generalize (gV a:Rat)=g at *
 generalize (mV a:Rat)=m at *
 generalize ((dV a x:Int):Rat)=d at *
 rw [Rat.div_def]
 have h1:=Rat.mul_inv_cancel g hg'
 generalize g⁻¹=i at *
 calc d=d*g*i:=by rw [Rat.mul_assoc,h1,Rat.mul_one]
  _=m*i*x:=by rw [e2]; grind
theorem nat_pos' {n:Nat} (h:n ≠ 0):(0:Rat)<(n:Rat):=by
 have:0<n:=Nat.pos_of_ne_zero h
 exact_mod_cast this
theorem dirA_sc {a:V3} (h:a ≠ v0):∃ k:Rat,0<k∧dirA a=vsc k a:=by
 have hg:gV a ≠ 0:=fun e=>h ((gV_zero a).1 e)
 refine ⟨(mV a:Rat) / (gV a:Rat),?_,?_⟩
 · rw [Rat.div_def]
   exact Rat.mul_pos (nat_pos' (Nat.pos_iff_ne_zero.1 (mV_pos a))) (Rat.inv_pos.2 (nat_pos' hg))
 · exact v3_ext (dV_mul h (mV_1 a) (by simp)) (dV_mul h (mV_2 a) (by simp)) (dV_mul h (mV_3 a) (by simp))
theorem dir_ok (a:V3) (h:a ≠ v0):∃ k,k ≠ 0∧dirA a=vsc k a:=by
 obtain ⟨j,hj,ej⟩:=dirA_sc h
 exact ⟨j,by grind,ej⟩
noncomputable def rkN (l:List V3):Nat:=stepR dirA l []
theorem rkN_ok (l:List V3):Rk l (rkN l):=by
 have:=rank_ok dir_ok l [] [] (by intro a ha; simp at ha)
 rwa [List.nil_append] at this
end Go.Proofs.Ytapddfjimhohcaa.AM
/- Fractions: their cells; in lowest terms. -/
namespace Go.Proofs.Ytapddfjimhohcaa.AM
set_option linter.all false
set_option autoImplicit true
set_option relaxedAutoImplicit true
open Go Go.Proofs
set_option maxRecDepth 100000
set_option maxHeartbeats 8000000
set_option linter.unusedSimpArgs false
variable {P:Program}
def fC (q:Rat):List AV:=[.opq (.whole q.num),.pad,.pad,.opq (.nat (q.den-1)),.pad]
theorem CvL.fracIn (q:Rat) {xs bs} (h:CvL xs bs):CvL ((.agg [.opq (.frac (q)),.pad,.pad,.pad,.pad])::xs) (.agg (fC q)::bs):=.agg (by simpa [Pay.open,Pay.width,fC] using CvL.unfold (.frac q) []) h
theorem CvL.fracOut (q:Rat) {xs bs} (h:CvL xs bs):CvL (.agg (fC q)::xs) ((.agg [.opq (.frac (q)),.pad,.pad,.pad,.pad])::bs):=.agg (by simpa [Pay.open,Pay.width,fC] using CvL.fold (.frac q) [] rfl) h
theorem Conv.frac (q:Rat):Conv (.agg (fC q)) (.agg [.opq (.frac (q)),.pad,.pad,.pad,.pad]):=CvL.conv (.fracOut q .nil)
noncomputable def rawF:AV→Option (Prop × Rat)
 | .agg [.opq (.frac q),.pad,.pad,.pad,.pad]=>some (True,q)
 | .agg [.opq (.whole z),.pad,.pad,.opq (.nat l),.pad]=>some (Nat.gcd z.natAbs (l+1)=1,qlow z (l+1))
 | _=>none
theorem rawF_atom (q:Rat):rawF (.agg [.opq (.frac (q)),.pad,.pad,.pad,.pad])=some (True,q):=rfl
theorem rawF_raw (z l):rawF (.agg [.opq (.whole z),.pad,.pad,.opq (.nat l),.pad])=some (Nat.gcd z.natAbs (l+1)=1,qlow z (l+1)):=rfl
theorem q_self' (q:Rat):qlow q.num (q.den-1+1)=q:=by rw [den_eq,qlow_eq]; exact q_self q
theorem q_gcd' (q:Rat):(Nat.gcd q.num.natAbs (q.den-1+1)=1)=True:=by rw [den_eq]; exact eq_true (q_gcd q)
theorem fC_mk {z:Int} {d:Nat} (hd:0<d) (h:Nat.gcd z.natAbs d=1):fC (mkRat z d)=[.opq (.whole z),.pad,.pad,.opq (.nat (d-1)),.pad]:=by
 unfold fC
 rw [mk_num hd,mk_den hd,h,Nat.div_one,Nat.div_one,sg_of]
theorem rawF_cv {v:AV} {p q} (h:rawF v=some (p,q)) (hp:p) {xs bs} (k:CvL xs bs):CvL (v::xs) ((.agg [.opq (.frac (q)),.pad,.pad,.pad,.pad])::bs):=by
 unfold rawF at h
 split at h
 · simp only [Option.some.injEq,Prod.mk.injEq] at h
   obtain ⟨rfl,rfl⟩:=h
   exact .agg (.refl _) k
 · simp only [Option.some.injEq,Prod.mk.injEq] at h
   obtain ⟨rfl,rfl⟩:=h
   rename_i z l
   have e:fC (mkRat z (l+1))=[.opq (.whole z),.pad,.pad,.opq (.nat l),.pad]:=fC_mk (by omega) hp
   rw [← e,qlow_eq]; exact .fracOut _ k
 · simp at h
noncomputable def onF1 (f:Rat→Prop × AV):List AV→Option (Prop × AV)
 | [x]=>(rawF x).map fun a=>(a.1∧(f a.2).1,(f a.2).2)
 | _=>none
noncomputable def onF2 (f:Rat→Rat→Prop × AV):List AV→Option (Prop × AV)
 | [x,y]=>(rawF x).bind fun a=>(rawF y).map fun b=>(a.1∧b.1∧(f a.2 b.2).1,(f a.2 b.2).2)
 | _=>none
theorem onF1_ok {fi:Nat} {f:Rat→Prop × AV} (h:∀ a,(f a).1→CSpec P fi [(.agg [.opq (.frac (a)),.pad,.pad,.pad,.pad])] (f a).2) (args p r) (he:onF1 f args=some (p,r)) (hp:p):CSpec P fi args r:=by
 unfold onF1 at he
 split at he
 · simp only [Option.map_eq_some_iff,Prod.exists,Prod.mk.injEq] at he
   obtain ⟨q,a,h1,rfl,rfl⟩:=he
   exact (h a hp.2).cv (rawF_cv h1 hp.1 .nil)
 · simp at he
theorem onF2_ok {fi:Nat} {f:Rat→Rat→Prop × AV} (h:∀ a b,(f a b).1→CSpec P fi [(.agg [.opq (.frac (a)),.pad,.pad,.pad,.pad]),(.agg [.opq (.frac (b)),.pad,.pad,.pad,.pad])] (f a b).2) (args p r) (he:onF2 f args=some (p,r)) (hp:p):CSpec P fi args r:=by
 unfold onF2 at he
 split at he
 · simp only [Option.bind_eq_some_iff,Option.map_eq_some_iff,Prod.exists,Prod.mk.injEq] at he
   obtain ⟨q,a,h1,q',b,h2,rfl,rfl⟩:=he
   exact (h a b hp.2.2).cv (rawF_cv h1 hp.1 (rawF_cv h2 hp.2.1 .nil))
 · simp at he
theorem onF1_eq (f x):onF1 f [x]=(rawF x).map fun a=>(a.1∧(f a.2).1,(f a.2).2):=rfl
theorem onF2_eq (f x y):onF2 f [x,y]=(rawF x).bind fun a=>(rawF y).map fun b=>(a.1∧b.1∧(f a.2 b.2).1,(f a.2 b.2).2):=rfl
attribute [go_sem] rawF_atom rawF_raw onF1_eq onF2_eq q_self' q_gcd'
abbrev FB:Nat:=1073741824
theorem one_spec (hP:PrgOk P):CSpec P 61 [] (.agg [.opq (.nat (1)),.pad]):=by
 have HE:=Wt3_all hP T2 hP.t2
 have h1:(1:Int).toNat=1:=rfl
 refine CSpec_go (E:=⟨T2,Wt3⟩) (fn61 hP) HE hP.mix ?_
 simp only [go_sem,h1]
 exact fin_z
def oneS:List AV→Option (Prop × AV)
 | []=>some (True,(.agg [.opq (.nat (1)),.pad]))
 | _=>none
theorem oneS_ok (hP:PrgOk P) (args p r) (h:oneS args=some (p,r)) (hp:p):CSpec P 61 args r:=by
 unfold oneS at h
 split at h
 · simp only [Option.some.injEq,Prod.mk.injEq] at h
   obtain ⟨rfl,rfl⟩:=h
   exact one_spec hP
 · simp at h
attribute [go_sem] oneS
theorem part_spec (hP:PrgOk P) (x g:Nat) (hx:blen x≤68719476736) (hg:blen g≤34359738368) (h0:0<g):CSpec P 70 [(.agg [.opq (.nat (x)),.pad]),.fref [.opq (.nat g),.pad]] (.agg [.opq (.nat (x / g)),.pad]):=by
 have HE:=Wt3_all hP T2 hP.t2
 have hz:(g=0)=False:=eq_false (by omega)
 refine CSpec_go (E:=⟨T2,Wt3⟩) (fn70 hP) HE hP.mix ?_
 simp only [go_sem,hx,hg,hz]
 exact fin_z
def partS:List AV→Option (Prop × AV)
 | [x,.fref [.opq (.nat g),.pad]]=>(rawN x).map fun a=>(a.1∧blen a.2≤68719476736∧blen g≤34359738368∧0<g,(.agg [.opq (.nat (a.2 / g)),.pad]))
 | _=>none
theorem partS_eq (x g):partS [x,.fref [.opq (.nat g),.pad]]=(rawN x).map fun a=>(a.1∧blen a.2≤68719476736∧blen g≤34359738368∧0<g,(.agg [.opq (.nat (a.2 / g)),.pad])):=rfl
theorem partS_ok (hP:PrgOk P) (args p r) (he:partS args=some (p,r)) (hp:p):CSpec P 70 args r:=by
 unfold partS at he
 split at he
 · simp only [Option.map_eq_some_iff,Prod.exists,Prod.mk.injEq] at he
   obtain ⟨q,a,h1,rfl,rfl⟩:=he
   exact (part_spec hP a _ hp.2.1 hp.2.2.1 hp.2.2.2).cv (rawN_cv h1 hp.1 (.refl _))
 · simp at he
attribute [go_sem] partS_eq
noncomputable def Ft0:Nat→List AV→Option (Prop × AV):=addS (addS Wt3 61 oneS) 70 partS
theorem Ft0_all (hP:PrgOk P) (T) (hT:TyOk P T):EnvOk P ⟨T,Ft0⟩:=(((Wt3_all hP T hT).add (oneS_ok hP)).add (partS_ok hP))
theorem Ft0_at (f a):Ft0 f a=(addS (addS Wt3 61 oneS) 70 partS) f a:=rfl
attribute [go_sem] Ft0_at
theorem fr_live2 (cs):(AObj.live cs).freeze = .ro cs:=rfl
theorem fr_ro (cs):(AObj.ro cs).freeze = .ro cs:=rfl
attribute [go_sem] fr_live2 fr_ro
theorem sgn_neg (z:Int):(sgnZ z<0)=(z<0):=by
 unfold sgnZ; rw [eq_iff_iff]; split
 · omega
 · split<;>omega
theorem blen_one_iff (d:Nat):blen d=1 ↔ d=1:=by
 constructor
 · intro h
   have h1:d<2^1:=(blen_le_iff d 1).1 (by omega)
   have h2:d ≠ 0:=fun e=>by rw [e] at h; exact absurd h (by decide)
   omega
 · intro h; rw [h]; decide
theorem blen_two {d:Nat} (h0:0<d) (h:d ≠ 1):1<blen d:=by
 have h1:blen d ≠ 0:=by rw [Ne,blen_zero_iff]; omega
 have h2:=mt (blen_one_iff d).1 h
 omega
theorem low_spec (hP:PrgOk P) (z:Int) (d:Nat) (hz:wl z≤34359738368) (hd:blen d≤34359738368) (h0:0<d):CSpec P 56 [(.agg [.opq (.whole (z)),.pad,.pad]),(.agg [.opq (.nat (d)),.pad])] (.agg [.opq (.frac (qlow z d)),.pad,.pad,.pad,.pad]):=by
 have HE:=Ft0_all hP T2 hP.t2
 rw [qlow_eq]
 refine CSpec.conv (r:=.agg (fC (mkRat z d))) ?_ (.frac _)
 have hz':=Nat.le_trans hz (show _≤68719476736 by decide)
 have hd':=Nat.le_trans hd (show _≤68719476736 by decide)
 refine CSpec_go (E:=⟨T2,Ft0⟩) (fn56 hP) HE hP.mix ?_
 by_cases h1:d=1
 · subst h1
   have hb:(blen 1 == 1)=true:=by decide
   rw [fC_mk (by decide) (Nat.gcd_one_right _)]
   simp only [go_sem,hz',hd',hb]
   exact fin_z
 · have hb:(blen d == 1)=false:=beq_eq_false_iff_ne.2 (mt (blen_one_iff d).1 h1)
   have hg0:0<Nat.gcd z.natAbs d:=Nat.gcd_pos_of_pos_right _ h0
   have hgb:blen (Nat.gcd z.natAbs d)≤34359738368:=gcd_blen hz hd
   have hgb':=Nat.le_trans hgb (show _≤68719476736 by decide)
   by_cases h2:Nat.gcd z.natAbs d=1
   · have hb2:(1<blen 1)=False:=eq_false (by decide)
     have hlt:(d<1)=False:=eq_false (by omega)
     rw [fC_mk h0 h2]
     simp only [go_sem,hz,hd,hz',hd',hb,h2,hb2,hlt]
     exact fin_z
   · have hb2:(1<blen (Nat.gcd z.natAbs d))=True:=eq_true (blen_two hg0 h2)
     have hgz:(Nat.gcd z.natAbs d=0)=False:=eq_false (by omega)
     have hq1:=blen_le_of (Nat.div_le_self z.natAbs (Nat.gcd z.natAbs d)) hz'
     have hq2:=blen_le_of (Nat.div_le_self d (Nat.gcd z.natAbs d)) hd'
     have hdg:0<d / Nat.gcd z.natAbs d:=Nat.div_pos (Nat.le_of_dvd h0 (Nat.gcd_dvd_right _ _)) hg0
     have hlt:(d / Nat.gcd z.natAbs d<1)=False:=eq_false (by omega)
     have e:fC (mkRat z d)=[.opq (.whole (sg (decide (z<0)) (z.natAbs / Nat.gcd z.natAbs d))),.pad,.pad,.opq (.nat (d / Nat.gcd z.natAbs d-1)),.pad]:=by
      unfold fC; rw [mk_num h0,mk_den h0]
     rw [e]
     simp only [go_sem,hz,hd,hz',hd',hb,hb2,hgb,hgb',sgn_neg,hg0,hq1,hq2,hlt]
     exact fin_z
noncomputable def lowS:List AV→Option (Prop × AV)
 | [x,y]=>(rawW x).bind fun z=>(rawN y).map fun d=>(z.1∧d.1∧wl z.2≤34359738368∧blen d.2≤34359738368∧0<d.2,(.agg [.opq (.frac (qlow z.2 d.2)),.pad,.pad,.pad,.pad]))
 | _=>none
theorem lowS_eq (x y):lowS [x,y]=(rawW x).bind fun z=>(rawN y).map fun d=>(z.1∧d.1∧wl z.2≤34359738368∧blen d.2≤34359738368∧0<d.2,(.agg [.opq (.frac (qlow z.2 d.2)),.pad,.pad,.pad,.pad])):=rfl
theorem lowS_ok (hP:PrgOk P) (args p r) (he:lowS args=some (p,r)) (hp:p):CSpec P 56 args r:=by
 unfold lowS at he
 split at he
 · simp only [Option.bind_eq_some_iff,Option.map_eq_some_iff,Prod.exists,Prod.mk.injEq] at he
   obtain ⟨q,a,h1,q',b,h2,rfl,rfl⟩:=he
   exact (low_spec hP a b hp.2.2.1 hp.2.2.2.1 hp.2.2.2.2).cv (rawW_cv h1 hp.1 (rawN_cv h2 hp.2.1 .nil))
 · simp at he
attribute [go_sem] lowS_eq
theorem fDen_spec (hP:PrgOk P) (q:Rat) (h:blen q.den≤34359738368):CSpec P 47 [(.agg [.opq (.frac (q)),.pad,.pad,.pad,.pad])] (.agg [.opq (.nat (q.den)),.pad]):=by
 have HE:=Ft0_all hP T2 hP.t2
 refine CSpec.cv ?_ (.fracIn q .nil)
 have hl:blen (q.den-1)≤68719476736:=blen_le_of (Nat.sub_le _ _) (Nat.le_trans h (by decide))
 have h1:blen 1≤68719476736:=by decide
 have e:=den_eq q
 unfold fC
 refine CSpec_go (E:=⟨T2,Ft0⟩) (fn47 hP) HE hP.mix ?_
 simp only [go_sem,hl,h1,e]
 exact fin_z
noncomputable def fDenS:List AV→Option (Prop × AV):=onF1 fun q=>(blen q.den≤34359738368,(.agg [.opq (.nat (q.den)),.pad]))
theorem fDenS_ok (hP:PrgOk P) (args p r):fDenS args=some (p,r)→p→CSpec P 47 args r:=onF1_ok (fun a h=>by exact fDen_spec hP a h) args p r
theorem fNum_spec (hP:PrgOk P) (q:Rat):CSpec P 65 [(.agg [.opq (.frac (q)),.pad,.pad,.pad,.pad])] (.agg [.opq (.whole (q.num)),.pad,.pad]):=by
 have HE:=Ft0_all hP T2 hP.t2
 refine CSpec.cv ?_ (.fracIn q .nil)
 unfold fC
 refine CSpec_go (E:=⟨T2,Ft0⟩) (fn65 hP) HE hP.mix ?_
 simp only [go_sem]
 exact fin_z
noncomputable def fNumS:List AV→Option (Prop × AV):=onF1 fun q=>(True,(.agg [.opq (.whole (q.num)),.pad,.pad]))
theorem fNumS_ok (hP:PrgOk P) (args p r):fNumS args=some (p,r)→p→CSpec P 65 args r:=onF1_ok (fun a _=>by exact fNum_spec hP a) args p r
theorem fSign_spec (hP:PrgOk P) (q:Rat) (h:wl q.num≤68719476736):CSpec P 19 [(.agg [.opq (.frac (q)),.pad,.pad,.pad,.pad])] (.int .i64 (cmpQ q 0)):=by
 have HE:=Ft0_all hP T2 hP.t2
 refine CSpec.cv ?_ (.fracIn q .nil)
 rw [← sgn_cmp]
 unfold fC
 refine CSpec_go (E:=⟨T2,Ft0⟩) (fn19 hP) HE hP.mix ?_
 simp only [go_sem,h]
 exact fin_z
noncomputable def fSignS:List AV→Option (Prop × AV):=onF1 fun q=>(wl q.num≤68719476736,.int .i64 (cmpQ q 0))
theorem fSignS_ok (hP:PrgOk P) (args p r):fSignS args=some (p,r)→p→CSpec P 19 args r:=onF1_ok (fun a h=>by exact fSign_spec hP a h) args p r
theorem ent_spec (hP:PrgOk P) (q:Rat) (h:blen q.den≤34359738368):CSpec P 44 [(.agg [.opq (.frac (q)),.pad,.pad,.pad,.pad])] (.bool (decide (q.den=1))):=by
 have HE:=Ft0_all hP T2 hP.t2
 refine CSpec.cv ?_ (.fracIn q .nil)
 have hl:blen (q.den-1)≤68719476736:=blen_le_of (Nat.sub_le _ _) (Nat.le_trans h (by decide))
 have hp:=q.den_pos
 have e:(blen (q.den-1) == 0)=decide (q.den=1):=by
  rw [Bool.eq_iff_iff]; simp only [beq_iff_eq,decide_eq_true_eq,blen_zero_iff]; omega
 unfold fC
 refine CSpec_go (E:=⟨T2,Ft0⟩) (fn44 hP) HE hP.mix ?_
 simp only [go_sem,hl,e]
 exact fin_z
noncomputable def entS:List AV→Option (Prop × AV):=onF1 fun q=>(blen q.den≤34359738368,.bool (decide (q.den=1)))
theorem entS_ok (hP:PrgOk P) (args p r):entS args=some (p,r)→p→CSpec P 44 args r:=onF1_ok (fun a h=>by exact ent_spec hP a h) args p r
theorem by_spec (hP:PrgOk P) (z:Int) (d:Nat) (hz:wl z≤34359738368) (hd:blen d≤34359738368):CSpec P 46 [(.agg [.opq (.whole (z)),.pad,.pad]),(.agg [.opq (.nat (d)),.pad])] (.agg [.opq (.whole (z*d)),.pad,.pad]):=by
 have HE:=Ft0_all hP T2 hP.t2
 have hd':=Nat.le_trans hd (show _≤68719476736 by decide)
 have hdz:wl (d:Int)≤34359738368:=hd
 refine CSpec_go (E:=⟨T2,Ft0⟩) (fn46 hP) HE hP.mix ?_
 simp only [go_sem,hz,hd',hdz,sg_abs,sg_f]
 exact fin_z
def byS:List AV→Option (Prop × AV)
 | [x,y]=>(rawW x).bind fun z=>(rawN y).map fun d=>(z.1∧d.1∧wl z.2≤34359738368∧blen d.2≤34359738368,(.agg [.opq (.whole (z.2*d.2)),.pad,.pad]))
 | _=>none
theorem byS_eq (x y):byS [x,y]=(rawW x).bind fun z=>(rawN y).map fun d=>(z.1∧d.1∧wl z.2≤34359738368∧blen d.2≤34359738368,(.agg [.opq (.whole (z.2*d.2)),.pad,.pad])):=rfl
theorem byS_ok (hP:PrgOk P) (args p r) (he:byS args=some (p,r)) (hp:p):CSpec P 46 args r:=by
 unfold byS at he
 split at he
 · simp only [Option.bind_eq_some_iff,Option.map_eq_some_iff,Prod.exists,Prod.mk.injEq] at he
   obtain ⟨q,a,h1,q',b,h2,rfl,rfl⟩:=he
   exact (by_spec hP a b hp.2.2.1 hp.2.2.2).cv (rawW_cv h1 hp.1 (rawN_cv h2 hp.2.1 .nil))
 · simp at he
theorem fOf_spec (hP:PrgOk P) (z:Int):CSpec P 68 [(.agg [.opq (.whole (z)),.pad,.pad])] (.agg [.opq (.frac ((z:Rat))),.pad,.pad,.pad,.pad]):=by
 have HE:=Ft0_all hP T2 hP.t2
 refine CSpec.conv (r:=.agg (fC (z:Rat))) ?_ (.frac _)
 have e:fC (z:Rat)=[.opq (.whole z),.pad,.pad,.opq (.nat 0),.pad]:=rfl
 rw [e]
 refine CSpec_go (E:=⟨T2,Ft0⟩) (fn68 hP) HE hP.mix ?_
 simp only [go_sem]
 exact fin_z
def fOfS:List AV→Option (Prop × AV):=onW1 fun z=>(True,(.agg [.opq (.frac ((z:Rat))),.pad,.pad,.pad,.pad]))
theorem fOfS_ok (hP:PrgOk P) (args p r):fOfS args=some (p,r)→p→CSpec P 68 args r:=onW1_ok (fun a _=>by exact fOf_spec hP a) args p r
theorem fInt_spec (hP:PrgOk P) (n:Int) (h1 : -9223372036854775808≤n) (h2:n≤9223372036854775807):CSpec P 16 [.int .i64 n] (.agg [.opq (.frac ((n:Rat))),.pad,.pad,.pad,.pad]):=by
 have HE:=Ft0_all hP T2 hP.t2
 refine CSpec.conv (r:=.agg (fC (n:Rat))) ?_ (.frac _)
 have e:fC (n:Rat)=[.opq (.whole n),.pad,.pad,.opq (.nat 0),.pad]:=rfl
 rw [e]
 refine CSpec_go (E:=⟨T2,Ft0⟩) (fn16 hP) HE hP.mix ?_
 simp only [go_sem,h1,h2]
 exact fin_z
def fIntS:List AV→Option (Prop × AV)
 | [.int .i64 n]=>some (-9223372036854775808≤n∧n≤9223372036854775807,(.agg [.opq (.frac ((n:Rat))),.pad,.pad,.pad,.pad]))
 | _=>none
theorem fIntS_ok (hP:PrgOk P) (args p r) (h:fIntS args=some (p,r)) (hp:p):CSpec P 16 args r:=by
 unfold fIntS at h
 split at h
 · simp only [Option.some.injEq,Prod.mk.injEq] at h
   obtain ⟨rfl,rfl⟩:=h
   exact fInt_spec hP _ hp.1 hp.2
 · simp at h
theorem fNeg_spec (hP:PrgOk P) (q:Rat) (h:wl q.num≤68719476736):CSpec P 22 [(.agg [.opq (.frac (q)),.pad,.pad,.pad,.pad])] (.agg [.opq (.frac (qneg q)),.pad,.pad,.pad,.pad]):=by
 have HE:=Ft0_all hP T2 hP.t2
 rw [qneg_eq]
 refine CSpec.cv ?_ (.fracIn q .nil)
 refine CSpec.conv (r:=.agg (fC (-q))) ?_ (.frac _)
 unfold fC
 rw [(neg_nd q).1,(neg_nd q).2]
 refine CSpec_go (E:=⟨T2,Ft0⟩) (fn22 hP) HE hP.mix ?_
 simp only [go_sem,h]
 exact fin_z
noncomputable def fNegS:List AV→Option (Prop × AV):=onF1 fun q=>(wl q.num≤68719476736,(.agg [.opq (.frac (qneg q)),.pad,.pad,.pad,.pad]))
theorem fNegS_ok (hP:PrgOk P) (args p r):fNegS args=some (p,r)→p→CSpec P 22 args r:=onF1_ok (fun a h=>by exact fNeg_spec hP a h) args p r
attribute [go_sem] fDenS fNumS fSignS entS byS_eq fOfS fIntS fNegS
noncomputable def Ft1:Nat→List AV→Option (Prop × AV):=addS (addS (addS (addS (addS (addS (addS (addS (addS Ft0 56 lowS) 47 fDenS) 65 fNumS) 19 fSignS) 44 entS) 46 byS) 68 fOfS) 16 fIntS) 22 fNegS
theorem Ft1_all (hP:PrgOk P) (T) (hT:TyOk P T):EnvOk P ⟨T,Ft1⟩:=((((((((((Ft0_all hP T hT).add (lowS_ok hP)).add (fDenS_ok hP)).add (fNumS_ok hP)).add (fSignS_ok hP)).add (entS_ok hP)).add (byS_ok hP)).add (fOfS_ok hP)).add (fIntS_ok hP)).add (fNegS_ok hP))
theorem Ft1_at (f a):Ft1 f a=(addS (addS (addS (addS (addS (addS (addS (addS (addS Ft0 56 lowS) 47 fDenS) 65 fNumS) 19 fSignS) 44 entS) 46 byS) 68 fOfS) 16 fIntS) 22 fNegS) f a:=rfl
attribute [go_sem] Ft1_at
theorem fl_num {q:Rat} {n:Nat} (h:fl q≤n):wl q.num≤n:=(fl_le.1 h).1
theorem fl_den {q:Rat} {n:Nat} (h:fl q≤n):blen q.den≤n:=(fl_le.1 h).2
theorem fl_denZ {q:Rat} {n:Nat} (h:fl q≤n):wl (q.den:Int)≤n:=(fl_le.1 h).2
theorem fCmp_spec (hP:PrgOk P) (a b:Rat) (ha:fl a≤FB) (hb:fl b≤FB):CSpec P 29 [(.agg [.opq (.frac (a)),.pad,.pad,.pad,.pad]),(.agg [.opq (.frac (b)),.pad,.pad,.pad,.pad])] (.int .i64 (cmpQ a b)):=by
 have HE:=Ft1_all hP T2 hP.t2
 refine CSpec.cv ?_ (.fracIn a (.fracIn b .nil))
 have a1:wl a.num≤34359738368:=Nat.le_trans (fl_num ha) (by decide)
 have a2:blen a.den≤34359738368:=Nat.le_trans (fl_den ha) (by decide)
 have a3:wl a.num≤68719476736:=Nat.le_trans (fl_num ha) (by decide)
 have a4:blen a.den≤68719476736:=Nat.le_trans (fl_den ha) (by decide)
 have a5:0<a.den:=a.den_pos
 have b1:wl b.num≤34359738368:=Nat.le_trans (fl_num hb) (by decide)
 have b2:blen b.den≤34359738368:=Nat.le_trans (fl_den hb) (by decide)
 have b3:wl b.num≤68719476736:=Nat.le_trans (fl_num hb) (by decide)
 have b4:blen b.den≤68719476736:=Nat.le_trans (fl_den hb) (by decide)
 have b5:0<b.den:=b.den_pos
 have m1:wl (a.num*b.den)≤68719476736:=Nat.le_trans (wl_mul (fl_num ha) (fl_denZ hb)) (by decide)
 have m2:wl (b.num*a.den)≤68719476736:=Nat.le_trans (wl_mul (fl_num hb) (fl_denZ ha)) (by decide)
 rw [cmpQ_mk]
 unfold fC
 refine CSpec_go (E:=⟨T2,Ft1⟩) (fn29 hP) HE hP.mix ?_
 by_cases h1:a.den=1
 · by_cases h2:b.den=1
   · have h1':decide (a.den=1)=true:=decide_eq_true h1
     have h2':decide (b.den=1)=true:=decide_eq_true h2
     have e:cmpZ (a.num*b.den) (b.num*a.den)=cmpZ a.num b.num:=by rw [h1,h2,Int.natCast_one,Int.mul_one,Int.mul_one]
     rw [e]
     simp only [go_sem,a1,a2,a3,b1,b2,b3,m1,m2,h1',h2']
     exact fin_z
   · have h1':decide (a.den=1)=true:=decide_eq_true h1
     have h2':decide (b.den=1)=false:=decide_eq_false h2
     simp only [go_sem,a1,a2,a3,b1,b2,b3,m1,m2,h1',h2']
     exact fin_z
 · have h1':decide (a.den=1)=false:=decide_eq_false h1
   simp only [go_sem,a1,a2,a3,b1,b2,b3,m1,m2,h1']
   exact fin_z
noncomputable def fCmpS:List AV→Option (Prop × AV):=onF2 fun a b=>(fl a≤FB∧fl b≤FB,.int .i64 (cmpQ a b))
theorem fCmpS_ok (hP:PrgOk P) (args p r):fCmpS args=some (p,r)→p→CSpec P 29 args r:=onF2_ok (fun a b h=>by exact fCmp_spec hP a b h.1 h.2) args p r
theorem jAdd_spec (hP:PrgOk P) (a b:Rat) (ha:fl a≤FB) (hb:fl b≤FB):CSpec P 50 [(.agg [.opq (.frac (a)),.pad,.pad,.pad,.pad]),(.agg [.opq (.frac (b)),.pad,.pad,.pad,.pad]),.fn 58 [] []] (.agg [.opq (.frac (qadd a b)),.pad,.pad,.pad,.pad]):=by
 have HE:=Ft1_all hP T2 hP.t2
 rw [qadd_eq]
 refine CSpec.cv ?_ (.fracIn a (.fracIn b (.refl _)))
 have a1:wl a.num≤34359738368:=Nat.le_trans (fl_num ha) (by decide)
 have a2:blen a.den≤34359738368:=Nat.le_trans (fl_den ha) (by decide)
 have a3:wl a.num≤68719476736:=Nat.le_trans (fl_num ha) (by decide)
 have a4:blen a.den≤68719476736:=Nat.le_trans (fl_den ha) (by decide)
 have a5:0<a.den:=a.den_pos
 have b1:wl b.num≤34359738368:=Nat.le_trans (fl_num hb) (by decide)
 have b2:blen b.den≤34359738368:=Nat.le_trans (fl_den hb) (by decide)
 have b3:wl b.num≤68719476736:=Nat.le_trans (fl_num hb) (by decide)
 have b4:blen b.den≤68719476736:=Nat.le_trans (fl_den hb) (by decide)
 have b5:0<b.den:=b.den_pos
 have m0:wl (a.num+b.num)≤34359738368:=Nat.le_trans (wl_add (fl_num ha) (fl_num hb)) (by decide)
 have m1:wl (a.num*b.den)≤34359738368:=Nat.le_trans (wl_mul (fl_num ha) (fl_denZ hb)) (by decide)
 have m2:wl (b.num*a.den)≤34359738368:=Nat.le_trans (wl_mul (fl_num hb) (fl_denZ ha)) (by decide)
 have m3:wl (a.num*b.den+b.num*a.den)≤34359738368:=Nat.le_trans (wl_add (wl_mul (fl_num ha) (fl_denZ hb)) (wl_mul (fl_num hb) (fl_denZ ha))) (by decide)
 have m4:blen (a.den*b.den)≤34359738368:=Nat.le_trans (blen_mul_le (fl_den ha) (fl_den hb)) (by decide)
 have m5:0<a.den*b.den:=Nat.mul_pos a5 b5
 by_cases h:a.den=1∧b.den=1
 · refine CSpec.conv (r:=.agg (fC (a+b))) ?_ (.frac _)
   have e:fC (a+b)=[.opq (.whole (a.num+b.num)),.pad,.pad,.opq (.nat 0),.pad]:=by
    rw [add_mk,h.1,h.2,fC_mk (by decide) (Nat.gcd_one_right _),Int.natCast_one,Int.mul_one,Int.mul_one]
   have h1':decide (a.den=1)=true:=decide_eq_true h.1
   have h2':decide (b.den=1)=true:=decide_eq_true h.2
   rw [e]
   unfold fC
   refine CSpec_go (E:=⟨T2,Ft1⟩) (fn50 hP) HE hP.mix ?_
   simp only [go_sem,a1,a2,b1,b2,m0,h1',h2']
   exact fin_z
 · rw [add_mk,← qlow_eq]
   unfold fC
   refine CSpec_go (E:=⟨T2,Ft1⟩) (fn50 hP) HE hP.mix ?_
   by_cases h1:a.den=1
   · have h2:¬ b.den=1:=fun e=>h ⟨h1,e⟩
     have h1':decide (a.den=1)=true:=decide_eq_true h1
     have h2':decide (b.den=1)=false:=decide_eq_false h2
     simp only [go_sem,a1,a2,a4,b1,b2,b4,m1,m2,m3,m4,m5,h1',h2']
     exact fin_z
   · have h1':decide (a.den=1)=false:=decide_eq_false h1
     simp only [go_sem,a1,a2,a4,b1,b2,b4,m1,m2,m3,m4,m5,h1']
     exact fin_z
theorem jSub_spec (hP:PrgOk P) (a b:Rat) (ha:fl a≤FB) (hb:fl b≤FB):CSpec P 50 [(.agg [.opq (.frac (a)),.pad,.pad,.pad,.pad]),(.agg [.opq (.frac (b)),.pad,.pad,.pad,.pad]),.fn 51 [] []] (.agg [.opq (.frac (qsub a b)),.pad,.pad,.pad,.pad]):=by
 have HE:=Ft1_all hP T2 hP.t2
 rw [qsub_eq]
 refine CSpec.cv ?_ (.fracIn a (.fracIn b (.refl _)))
 have a1:wl a.num≤34359738368:=Nat.le_trans (fl_num ha) (by decide)
 have a2:blen a.den≤34359738368:=Nat.le_trans (fl_den ha) (by decide)
 have a3:wl a.num≤68719476736:=Nat.le_trans (fl_num ha) (by decide)
 have a4:blen a.den≤68719476736:=Nat.le_trans (fl_den ha) (by decide)
 have a5:0<a.den:=a.den_pos
 have b1:wl b.num≤34359738368:=Nat.le_trans (fl_num hb) (by decide)
 have b2:blen b.den≤34359738368:=Nat.le_trans (fl_den hb) (by decide)
 have b3:wl b.num≤68719476736:=Nat.le_trans (fl_num hb) (by decide)
 have b4:blen b.den≤68719476736:=Nat.le_trans (fl_den hb) (by decide)
 have b5:0<b.den:=b.den_pos
 have m0:wl (a.num-b.num)≤34359738368:=Nat.le_trans (wl_sub (fl_num ha) (fl_num hb)) (by decide)
 have m1:wl (a.num*b.den)≤34359738368:=Nat.le_trans (wl_mul (fl_num ha) (fl_denZ hb)) (by decide)
 have m2:wl (b.num*a.den)≤34359738368:=Nat.le_trans (wl_mul (fl_num hb) (fl_denZ ha)) (by decide)
 have m3:wl (a.num*b.den-b.num*a.den)≤34359738368:=Nat.le_trans (wl_sub (wl_mul (fl_num ha) (fl_denZ hb)) (wl_mul (fl_num hb) (fl_denZ ha))) (by decide)
 have m4:blen (a.den*b.den)≤34359738368:=Nat.le_trans (blen_mul_le (fl_den ha) (fl_den hb)) (by decide)
 have m5:0<a.den*b.den:=Nat.mul_pos a5 b5
 by_cases h:a.den=1∧b.den=1
 · refine CSpec.conv (r:=.agg (fC (a-b))) ?_ (.frac _)
   have e:fC (a-b)=[.opq (.whole (a.num-b.num)),.pad,.pad,.opq (.nat 0),.pad]:=by
    rw [sub_mk,h.1,h.2,fC_mk (by decide) (Nat.gcd_one_right _),Int.natCast_one,Int.mul_one,Int.mul_one]
   have h1':decide (a.den=1)=true:=decide_eq_true h.1
   have h2':decide (b.den=1)=true:=decide_eq_true h.2
   rw [e]
   unfold fC
   refine CSpec_go (E:=⟨T2,Ft1⟩) (fn50 hP) HE hP.mix ?_
   simp only [go_sem,a1,a2,b1,b2,m0,h1',h2']
   exact fin_z
 · rw [sub_mk,← qlow_eq]
   unfold fC
   refine CSpec_go (E:=⟨T2,Ft1⟩) (fn50 hP) HE hP.mix ?_
   by_cases h1:a.den=1
   · have h2:¬ b.den=1:=fun e=>h ⟨h1,e⟩
     have h1':decide (a.den=1)=true:=decide_eq_true h1
     have h2':decide (b.den=1)=false:=decide_eq_false h2
     simp only [go_sem,a1,a2,a4,b1,b2,b4,m1,m2,m3,m4,m5,h1',h2']
     exact fin_z
   · have h1':decide (a.den=1)=false:=decide_eq_false h1
     simp only [go_sem,a1,a2,a4,b1,b2,b4,m1,m2,m3,m4,m5,h1']
     exact fin_z
noncomputable def joinS:List AV→Option (Prop × AV)
 | [x,y,.fn f [] []]=>(rawF x).bind fun a=>(rawF y).map fun b=>(a.1∧b.1∧fl a.2≤FB∧fl b.2≤FB∧(f=58∨f=51),(.agg [.opq (.frac (if f=58 then qadd a.2 b.2 else qsub a.2 b.2)),.pad,.pad,.pad,.pad]))
 | _=>none
theorem joinS_eq (x y f):joinS [x,y,.fn f [] []]=(rawF x).bind fun a=>(rawF y).map fun b=>(a.1∧b.1∧fl a.2≤FB∧fl b.2≤FB∧(f=58∨f=51),(.agg [.opq (.frac (if f=58 then qadd a.2 b.2 else qsub a.2 b.2)),.pad,.pad,.pad,.pad])):=rfl
theorem joinS_ok (hP:PrgOk P) (args p r) (he:joinS args=some (p,r)) (hp:p):CSpec P 50 args r:=by
 unfold joinS at he
 split at he
 · simp only [Option.bind_eq_some_iff,Option.map_eq_some_iff,Prod.exists,Prod.mk.injEq] at he
   obtain ⟨q,a,h1,q',b,h2,rfl,rfl⟩:=he
   obtain ⟨p1,p2,p3,p4,h|h⟩:=hp
   · subst h
     exact (jAdd_spec hP a b p3 p4).cv (rawF_cv h1 p1 (rawF_cv h2 p2 (.refl _)))
   · subst h
     exact (jSub_spec hP a b p3 p4).cv (rawF_cv h1 p1 (rawF_cv h2 p2 (.refl _)))
 · simp at he
attribute [go_sem] joinS_eq fCmpS
noncomputable def Ft2:Nat→List AV→Option (Prop × AV):=addS (addS Ft1 29 fCmpS) 50 joinS
theorem Ft2_all (hP:PrgOk P) (T) (hT:TyOk P T):EnvOk P ⟨T,Ft2⟩:=(((Ft1_all hP T hT).add (fCmpS_ok hP)).add (joinS_ok hP))
theorem Ft2_at (f a):Ft2 f a=(addS (addS Ft1 29 fCmpS) 50 joinS) f a:=rfl
attribute [go_sem] Ft2_at
theorem fAdd_spec (hP:PrgOk P) (a b:Rat) (ha:fl a≤FB) (hb:fl b≤FB):CSpec P 43 [(.agg [.opq (.frac (a)),.pad,.pad,.pad,.pad]),(.agg [.opq (.frac (b)),.pad,.pad,.pad,.pad])] (.agg [.opq (.frac (qadd a b)),.pad,.pad,.pad,.pad]):=by
 have HE:=Ft2_all hP TF hP.tF
 refine CSpec_go (E:=⟨TF,Ft2⟩) (fn43 hP) HE hP.mix ?_
 simp only [go_sem,ha,hb]
 exact fin_z
noncomputable def fAddS:List AV→Option (Prop × AV):=onF2 fun a b=>(fl a≤FB∧fl b≤FB,(.agg [.opq (.frac (qadd a b)),.pad,.pad,.pad,.pad]))
theorem fAddS_ok (hP:PrgOk P) (args p r):fAddS args=some (p,r)→p→CSpec P 43 args r:=onF2_ok (fun a b h=>by exact fAdd_spec hP a b h.1 h.2) args p r
theorem fSub_spec (hP:PrgOk P) (a b:Rat) (ha:fl a≤FB) (hb:fl b≤FB):CSpec P 35 [(.agg [.opq (.frac (a)),.pad,.pad,.pad,.pad]),(.agg [.opq (.frac (b)),.pad,.pad,.pad,.pad])] (.agg [.opq (.frac (qsub a b)),.pad,.pad,.pad,.pad]):=by
 have HE:=Ft2_all hP TF hP.tF
 refine CSpec_go (E:=⟨TF,Ft2⟩) (fn35 hP) HE hP.mix ?_
 simp only [go_sem,ha,hb]
 exact fin_z
noncomputable def fSubS:List AV→Option (Prop × AV):=onF2 fun a b=>(fl a≤FB∧fl b≤FB,(.agg [.opq (.frac (qsub a b)),.pad,.pad,.pad,.pad]))
theorem fSubS_ok (hP:PrgOk P) (args p r):fSubS args=some (p,r)→p→CSpec P 35 args r:=onF2_ok (fun a b h=>by exact fSub_spec hP a b h.1 h.2) args p r
theorem fMul_spec (hP:PrgOk P) (a b:Rat) (ha:fl a≤FB) (hb:fl b≤FB):CSpec P 42 [(.agg [.opq (.frac (a)),.pad,.pad,.pad,.pad]),(.agg [.opq (.frac (b)),.pad,.pad,.pad,.pad])] (.agg [.opq (.frac (qmul a b)),.pad,.pad,.pad,.pad]):=by
 have HE:=Ft1_all hP T2 hP.t2
 rw [qmul_eq]
 refine CSpec.cv ?_ (.fracIn a (.fracIn b .nil))
 have a1:wl a.num≤34359738368:=Nat.le_trans (fl_num ha) (by decide)
 have a2:blen a.den≤34359738368:=Nat.le_trans (fl_den ha) (by decide)
 have a3:wl a.num≤68719476736:=Nat.le_trans (fl_num ha) (by decide)
 have a4:blen a.den≤68719476736:=Nat.le_trans (fl_den ha) (by decide)
 have a5:0<a.den:=a.den_pos
 have b1:wl b.num≤34359738368:=Nat.le_trans (fl_num hb) (by decide)
 have b2:blen b.den≤34359738368:=Nat.le_trans (fl_den hb) (by decide)
 have b3:wl b.num≤68719476736:=Nat.le_trans (fl_num hb) (by decide)
 have b4:blen b.den≤68719476736:=Nat.le_trans (fl_den hb) (by decide)
 have b5:0<b.den:=b.den_pos
 have m0:wl (a.num*b.num)≤34359738368:=Nat.le_trans (wl_mul (fl_num ha) (fl_num hb)) (by decide)
 have m4:blen (a.den*b.den)≤34359738368:=Nat.le_trans (blen_mul_le (fl_den ha) (fl_den hb)) (by decide)
 have m5:0<a.den*b.den:=Nat.mul_pos a5 b5
 by_cases h:a.den=1∧b.den=1
 · refine CSpec.conv (r:=.agg (fC (a*b))) ?_ (.frac _)
   have e:fC (a*b)=[.opq (.whole (a.num*b.num)),.pad,.pad,.opq (.nat 0),.pad]:=by
    rw [mul_mk,h.1,h.2,fC_mk (by decide) (Nat.gcd_one_right _)]
   have h1':decide (a.den=1)=true:=decide_eq_true h.1
   have h2':decide (b.den=1)=true:=decide_eq_true h.2
   rw [e]
   unfold fC
   refine CSpec_go (E:=⟨T2,Ft1⟩) (fn42 hP) HE hP.mix ?_
   simp only [go_sem,a1,a2,b1,b2,m0,h1',h2']
   exact fin_z
 · rw [mul_mk,← qlow_eq]
   unfold fC
   refine CSpec_go (E:=⟨T2,Ft1⟩) (fn42 hP) HE hP.mix ?_
   by_cases h1:a.den=1
   · have h2:¬ b.den=1:=fun e=>h ⟨h1,e⟩
     have h1':decide (a.den=1)=true:=decide_eq_true h1
     have h2':decide (b.den=1)=false:=decide_eq_false h2
     simp only [go_sem,a1,a2,a4,b1,b2,b4,m0,m4,m5,h1',h2']
     exact fin_z
   · have h1':decide (a.den=1)=false:=decide_eq_false h1
     simp only [go_sem,a1,a2,a4,b1,b2,b4,m0,m4,m5,h1']
     exact fin_z
noncomputable def fMulS:List AV→Option (Prop × AV):=onF2 fun a b=>(fl a≤FB∧fl b≤FB,(.agg [.opq (.frac (qmul a b)),.pad,.pad,.pad,.pad]))
theorem fMulS_ok (hP:PrgOk P) (args p r):fMulS args=some (p,r)→p→CSpec P 42 args r:=onF2_ok (fun a b h=>by exact fMul_spec hP a b h.1 h.2) args p r
attribute [go_sem] fAddS fSubS fMulS
noncomputable def Ft3:Nat→List AV→Option (Prop × AV):=addS (addS (addS Ft2 43 fAddS) 35 fSubS) 42 fMulS
theorem Ft3_all (hP:PrgOk P) (T) (hT:TyOk P T):EnvOk P ⟨T,Ft3⟩:=((((Ft2_all hP T hT).add (fAddS_ok hP)).add (fSubS_ok hP)).add (fMulS_ok hP))
theorem Ft3_at (f a):Ft3 f a=(addS (addS (addS Ft2 43 fAddS) 35 fSubS) 42 fMulS) f a:=rfl
attribute [go_sem] Ft3_at
noncomputable def Ft4:Nat→List AV→Option (Prop × AV):=Ft3
theorem Ft4_all (hP:PrgOk P) (T) (hT:TyOk P T):EnvOk P ⟨T,Ft4⟩:=(Ft3_all hP T hT)
attribute [go_sem] Ft4
end Go.Proofs.Ytapddfjimhohcaa.AM
/- Texts of fractions: plain facts. -/
namespace Go.Proofs.Ytapddfjimhohcaa.AM
set_option linter.all false
set_option autoImplicit true
set_option relaxedAutoImplicit true
open Go Go.Proofs
set_option maxRecDepth 100000
def dgs (l:List Nat):Prop:=∀ c ∈ l,48≤c∧c≤57
instance dgs_dec (l:List Nat):Decidable (dgs l):=by unfold dgs; infer_instance
theorem fl_zero (n:Nat):fl 0≤n+1:=fl_le.2 ⟨Nat.le_trans (Nat.le_of_ble_eq_true rfl:wl (0:Rat).num≤0) (by omega),Nat.le_trans (Nat.le_of_ble_eq_true rfl:blen (0:Rat).den≤1) (by omega)⟩
end Go.Proofs.Ytapddfjimhohcaa.AM
/- Fractions: read from texts. -/
namespace Go.Proofs.Ytapddfjimhohcaa.AM
set_option linter.all false
set_option autoImplicit true
set_option relaxedAutoImplicit true
open Go Go.Proofs
set_option maxRecDepth 100000
set_option maxHeartbeats 8000000
set_option linter.unusedSimpArgs false
variable {P:Program}
noncomputable def Lt0:Nat→List AV→Option (Prop × AV):=Ft4
theorem Lt0_all (hP:PrgOk P) (T) (hT:TyOk P T):EnvOk P ⟨T,Lt0⟩:=(Ft4_all hP T hT)
attribute [go_sem] Lt0
noncomputable def Lt1:Nat→List AV→Option (Prop × AV):=Lt0
theorem Lt1_all (hP:PrgOk P) (T) (hT:TyOk P T):EnvOk P ⟨T,Lt1⟩:=(Lt0_all hP T hT)
attribute [go_sem] Lt1
noncomputable def Lt2:Nat→List AV→Option (Prop × AV):=Lt1
theorem Lt2_all (hP:PrgOk P) (T) (hT:TyOk P T):EnvOk P ⟨T,Lt2⟩:=(Lt1_all hP T hT)
attribute [go_sem] Lt2
noncomputable def Lt3:Nat→List AV→Option (Prop × AV):=Lt2
theorem Lt3_all (hP:PrgOk P) (T) (hT:TyOk P T):EnvOk P ⟨T,Lt3⟩:=(Lt2_all hP T hT)
attribute [go_sem] Lt3
noncomputable def Lt4:Nat→List AV→Option (Prop × AV):=Lt3
theorem Lt4_all (hP:PrgOk P) (T) (hT:TyOk P T):EnvOk P ⟨T,Lt4⟩:=(Lt3_all hP T hT)
attribute [go_sem] Lt4
noncomputable def Lt5:Nat→List AV→Option (Prop × AV):=Lt4
theorem Lt5_all (hP:PrgOk P) (T) (hT:TyOk P T):EnvOk P ⟨T,Lt5⟩:=(Lt4_all hP T hT)
attribute [go_sem] Lt5
noncomputable def Jt0:Nat→List AV→Option (Prop × AV):=Lt5
theorem Jt0_all (hP:PrgOk P) (T) (hT:TyOk P T):EnvOk P ⟨T,Jt0⟩:=(Lt5_all hP T hT)
attribute [go_sem] Jt0
end Go.Proofs.Ytapddfjimhohcaa.AM
/- Loops,a round at a time. -/
namespace Go.Proofs.Ytapddfjimhohcaa.AM
set_option linter.all false
set_option autoImplicit true
set_option relaxedAutoImplicit true
open Go Go.Proofs
set_option maxRecDepth 100000
section
variable {P:Program} {E:Env} {s s':St} {Q Q':Exit→Nat→St→Prop} {nx:Nat} {c:Code}
def LW (P:Program) (b0:Bool) (c:Code) (Q:Exit→Act→World→Prop) (a:Act) (w:World):Prop :=
 ∀ (b:Frame) (k:List Item) (cs:List Frame),
   ∃ e a' w',Q e a' w'∧Arrives P (lone (b.at a ((if b0 then .code (.loop c) else .inLoop c)::k)) cs w) b k cs e a' w'
theorem LW_step {b0:Bool} (b:Frame) (k:List Item) (cs:List Frame) (a:Act) (w:World):step P (lone (b.at a ((if b0 then .code (.loop c) else .inLoop c)::k)) cs w) = .next (lone (b.at a (.code c :: .inLoop c::k)) cs w):=by
 cases b0
 · exact step_inLoop
 · exact step_loop
theorem LW_true {Q:Exit→Act→World→Prop} {a w} (h:LW P true c Q a w):(Code.loop c).wp P Q a w:=fun b k cs=>h b k cs
theorem LW_mono {b0:Bool} {Q Q':Exit→Act→World→Prop} {a w} (h:LW P b0 c Q a w) (hq:∀ e a w,Q e a w→Q' e a w):LW P b0 c Q' a w :=
 fun b k cs=>let ⟨e,a',w',q,r⟩:=h b k cs; ⟨e,a',w',hq _ _ _ q,r⟩
theorem LW_pass {Q:Exit→Act→World→Prop} {e:Exit} {a1:Act} {w1:World} {m:Machine} {b:Frame} {k:List Item} {cs:List Frame} (hq:Q e a1 w1) (hne:e ≠ .normal) (harr:Arrives P m b (.inLoop c::k) cs e a1 w1):∃ e a' w',Q e a' w'∧Arrives P m b k cs e a' w' :=
 ⟨e,a1,w1,hq,.pass (x:=.inLoop c) rfl (fun _ _=>.inl hne) harr⟩
theorem LW_once {b0:Bool} {Q:Exit→Act→World→Prop} {a w} (h:c.wp P (Exit.then (LW P false c Q) Q) a w):LW P b0 c Q a w:=fun b k cs=>by
 obtain ⟨e,a1,w1,hq,harr⟩:=h b (.inLoop c::k) cs
 have go:∃ e a' w',Q e a' w'∧Arrives P (lone (b.at a (.code c :: .inLoop c::k)) cs w) b k cs e a' w':=by
  cases e with
  | normal =>
    obtain ⟨e2,a2,w2,hq2,harr2⟩:=hq b k cs
    exact ⟨e2,a2,w2,hq2,.of_steps harr harr2⟩
  | _=>exact LW_pass hq (by simp) harr
 obtain ⟨e,a',w',hq,harr⟩:=go
 exact ⟨e,a',w',hq,.of_steps (.one (LW_step b k cs a w)) harr⟩
def TriW (P:Program) (b0:Bool) (c:Code) (Q:Exit→Nat→St→Prop) (s:St):Prop :=
 ∀ X φ a w,Rel X φ s a w→LW P b0 c (fun e a' w'=>∃ nx s' φ',Q e nx s'∧Rel X φ' s' a' w'∧Stp X φ s.m w φ' s'.m w') a w
theorem TriW_true (h:TriW P true c Q s):Tri P (.loop c) Q s:=fun X φ a w R=>LW_true (h X φ a w R)
def onceQ (P:Program) (c:Code) (Q:Exit→Nat→St→Prop):Exit→Nat→St→Prop
 | .normal,_,s=>TriW P false c Q s
 | e,nx,s=>Q e nx s
theorem TriW_once {b0:Bool} (h:Tri P c (onceQ P c Q) s):TriW P b0 c Q s:=fun X φ a w R=>by
 refine LW_once (wp_mono (h X φ a w R) ?_)
 rintro e a1 w1 ⟨nx,s1,φ1,q,r1,st1⟩
 cases e with
 | normal =>
   refine LW_mono (q X φ1 a1 w1 r1) ?_
   rintro e a2 w2 ⟨nx,s2,φ2,q2,r2,st2⟩
   exact ⟨nx,s2,φ2,q2,r2,st1.trans st2⟩
 | _=>exact ⟨nx,s1,φ1,q,r1,st1⟩
def goX (P:Program) (c:Code) (s:St) [Q:Bx (Exit→Nat→St→Prop)]:Prop:=TriW P false c Q.v s
theorem q_once_normal:qX .normal nx s (Q:=⟨onceQ P c Q⟩)=goX P c s (Q:=⟨Q⟩):=rfl
theorem q_once_exit (i):qX (.exit i) nx s (Q:=⟨onceQ P c Q⟩)=qX (.exit i) nx s (Q:=⟨Q⟩):=rfl
theorem q_once_ret:qX .ret nx s (Q:=⟨onceQ P c Q⟩)=qX .ret nx s (Q:=⟨Q⟩):=rfl
theorem trX_once (HE:EnvOk P E) (hmix:P.follows .mixedOrders=true) (N:Nat) (nx0:Nat) (hN:regsOk N c=true) (h:vcX (Tri P) (ICall P) E N c nx0 s (Q:=⟨onceQ P c Q⟩)):trX (Tri P) (.loop c) s (Q:=⟨Q⟩) :=
 TriW_true (TriW_once (vc_sound HE hmix N c _ nx0 _ hN h))
theorem goX_once (HE:EnvOk P E) (hmix:P.follows .mixedOrders=true) (N:Nat) (nx0:Nat) (hN:regsOk N c=true) (h:vcX (Tri P) (ICall P) E N c nx0 s (Q:=⟨onceQ P c Q⟩)):goX P c s (Q:=⟨Q⟩) :=
 TriW_once (vc_sound HE hmix N c _ nx0 _ hN h)
end
attribute [go_sem] q_once_normal q_once_exit q_once_ret
end Go.Proofs.Ytapddfjimhohcaa.AM
/- Package vec: number by number. -/
namespace Go.Proofs.Ytapddfjimhohcaa.AM
set_option linter.all false
set_option autoImplicit true
set_option relaxedAutoImplicit true
open Go Go.Proofs
set_option maxRecDepth 100000
set_option maxHeartbeats 8000000
set_option linter.unusedSimpArgs false
variable {P:Program}
def cells3:List AV→Option V3
 | [.opq (.frac (x)),.pad,.pad,.pad,.pad,.opq (.frac (y)),.pad,.pad,.pad,.pad,.opq (.frac (z)),.pad,.pad,.pad,.pad]=>some (x,y,z)
 | _=>none
theorem cells3_eq (x y z):cells3 [.opq (.frac (x)),.pad,.pad,.pad,.pad,.opq (.frac (y)),.pad,.pad,.pad,.pad,.opq (.frac (z)),.pad,.pad,.pad,.pad]=some (x,y,z):=rfl
theorem cells3_inv {A:List AV} {a:V3} (h:cells3 A=some a):A=[.opq (.frac (a.1)),.pad,.pad,.pad,.pad,.opq (.frac (a.2.1)),.pad,.pad,.pad,.pad,.opq (.frac (a.2.2)),.pad,.pad,.pad,.pad]:=by
 unfold cells3 at h
 split at h
 · simp only [Option.some.injEq] at h; subst h; rfl
 · simp at h
def rawV:AV→Option V3
 | .agg A=>cells3 A
 | _=>none
theorem rawV_eq (A):rawV (.agg A)=cells3 A:=rfl
theorem rawV_inv {v:AV} {a:V3} (h:rawV v=some a):v=(.agg [.opq (.frac (a.1)),.pad,.pad,.pad,.pad,.opq (.frac (a.2.1)),.pad,.pad,.pad,.pad,.opq (.frac (a.2.2)),.pad,.pad,.pad,.pad]):=by
 unfold rawV at h
 split at h
 · rw [cells3_inv h]
 · simp at h
def fV (a:V3) (n:Nat):Prop:=fl a.1≤n∧fl a.2.1≤n∧fl a.2.2≤n
theorem fV_eq (x y z n):fV (x,y,z) n=(fl x≤n∧fl y≤n∧fl z≤n):=rfl
noncomputable def onV1 (f:V3→Prop × AV):List AV→Option (Prop × AV)
 | [x]=>(rawV x).map f
 | _=>none
noncomputable def onV2 (f:V3→V3→Prop × AV):List AV→Option (Prop × AV)
 | [x,y]=>(rawV x).bind fun a=>(rawV y).map fun b=>f a b
 | _=>none
theorem onV1_eq (f x):onV1 f [x]=(rawV x).map f:=rfl
theorem onV2_eq (f x y):onV2 f [x,y]=(rawV x).bind fun a=>(rawV y).map fun b=>f a b:=rfl
theorem onV1_ok {fi:Nat} {f:V3→Prop × AV} (h:∀ a,(f a).1→CSpec P fi [(.agg [.opq (.frac (a.1)),.pad,.pad,.pad,.pad,.opq (.frac (a.2.1)),.pad,.pad,.pad,.pad,.opq (.frac (a.2.2)),.pad,.pad,.pad,.pad])] (f a).2) (args p r) (he:onV1 f args=some (p,r)) (hp:p):CSpec P fi args r:=by
 unfold onV1 at he
 split at he
 · simp only [Option.map_eq_some_iff] at he
   obtain ⟨a,h1,h2⟩:=he
   have:=h a (by rw [h2]; exact hp)
   rw [h2] at this; rw [rawV_inv h1]; exact this
 · simp at he
theorem onV2_ok {fi:Nat} {f:V3→V3→Prop × AV} (h:∀ a b,(f a b).1→CSpec P fi [(.agg [.opq (.frac (a.1)),.pad,.pad,.pad,.pad,.opq (.frac (a.2.1)),.pad,.pad,.pad,.pad,.opq (.frac (a.2.2)),.pad,.pad,.pad,.pad]),(.agg [.opq (.frac (b.1)),.pad,.pad,.pad,.pad,.opq (.frac (b.2.1)),.pad,.pad,.pad,.pad,.opq (.frac (b.2.2)),.pad,.pad,.pad,.pad])] (f a b).2) (args p r) (he:onV2 f args=some (p,r)) (hp:p):CSpec P fi args r:=by
 unfold onV2 at he
 split at he
 · simp only [Option.bind_eq_some_iff,Option.map_eq_some_iff] at he
   obtain ⟨a,h1,b,h3,h2⟩:=he
   have:=h a b (by rw [h2]; exact hp)
   rw [h2] at this; rw [rawV_inv h1,rawV_inv h3]; exact this
 · simp at he
noncomputable def cl2 (f:Rat→Rat→Prop × AV):List AV→Option (Prop × AV)
 | [.int .i64 i,.fref A,.fref B]=>(cells3 A).bind fun a=>(cells3 B).bind fun b=>if i=0 then some (f a.1 b.1) else if i=1 then some (f a.2.1 b.2.1) else if i=2 then some (f a.2.2 b.2.2) else none
 | _=>none
theorem cl2_0 (f A B):cl2 f [.int .i64 0,.fref A,.fref B]=(cells3 A).bind fun a=>(cells3 B).bind fun b=>some (f a.1 b.1):=rfl
theorem cl2_1 (f A B):cl2 f [.int .i64 1,.fref A,.fref B]=(cells3 A).bind fun a=>(cells3 B).bind fun b=>some (f a.2.1 b.2.1):=rfl
theorem cl2_2 (f A B):cl2 f [.int .i64 2,.fref A,.fref B]=(cells3 A).bind fun a=>(cells3 B).bind fun b=>some (f a.2.2 b.2.2):=rfl
theorem cl2_ok {fi:Nat} {f:Rat→Rat→Prop × AV}
 (h0:∀ a b:V3,(f a.1 b.1).1→CSpec P fi [.int .i64 0,.fref [.opq (.frac (a.1)),.pad,.pad,.pad,.pad,.opq (.frac (a.2.1)),.pad,.pad,.pad,.pad,.opq (.frac (a.2.2)),.pad,.pad,.pad,.pad],.fref [.opq (.frac (b.1)),.pad,.pad,.pad,.pad,.opq (.frac (b.2.1)),.pad,.pad,.pad,.pad,.opq (.frac (b.2.2)),.pad,.pad,.pad,.pad]] (f a.1 b.1).2)
 (h1:∀ a b:V3,(f a.2.1 b.2.1).1→CSpec P fi [.int .i64 1,.fref [.opq (.frac (a.1)),.pad,.pad,.pad,.pad,.opq (.frac (a.2.1)),.pad,.pad,.pad,.pad,.opq (.frac (a.2.2)),.pad,.pad,.pad,.pad],.fref [.opq (.frac (b.1)),.pad,.pad,.pad,.pad,.opq (.frac (b.2.1)),.pad,.pad,.pad,.pad,.opq (.frac (b.2.2)),.pad,.pad,.pad,.pad]] (f a.2.1 b.2.1).2)
 (h2:∀ a b:V3,(f a.2.2 b.2.2).1→CSpec P fi [.int .i64 2,.fref [.opq (.frac (a.1)),.pad,.pad,.pad,.pad,.opq (.frac (a.2.1)),.pad,.pad,.pad,.pad,.opq (.frac (a.2.2)),.pad,.pad,.pad,.pad],.fref [.opq (.frac (b.1)),.pad,.pad,.pad,.pad,.opq (.frac (b.2.1)),.pad,.pad,.pad,.pad,.opq (.frac (b.2.2)),.pad,.pad,.pad,.pad]] (f a.2.2 b.2.2).2)
 (args p r) (he:cl2 f args=some (p,r)) (hp:p):CSpec P fi args r:=by
 unfold cl2 at he
 split at he
 · rename_i i A B
   simp only [Option.bind_eq_some_iff] at he
   obtain ⟨a,ha,b,hb,he⟩:=he
   rw [cells3_inv ha,cells3_inv hb]
   split at he
   · rename_i e; subst e
     have e:=Option.some.inj he
     have:=h0 a b (by rw [e]; exact hp)
     rw [e] at this; exact this
   · split at he
     · rename_i e; subst e
       have e:=Option.some.inj he
       have:=h1 a b (by rw [e]; exact hp)
       rw [e] at this; exact this
     · split at he
       · rename_i e; subst e
         have e:=Option.some.inj he
         have:=h2 a b (by rw [e]; exact hp)
         rw [e] at this; exact this
       · simp at he
 · simp at he
attribute [go_sem] cells3_eq rawV_eq fV_eq onV1_eq onV2_eq cl2_0 cl2_1 cl2_2
theorem vSubC_ok (hP:PrgOk P) (args p r):cl2 (fun x y=>(fl x≤FB∧fl y≤FB,(.agg [.opq (.frac (qsub x y)),.pad,.pad,.pad,.pad]))) args=some (p,r)→p→CSpec P 34 args r:=by
 have HE:=Jt0_all hP TF hP.tF
 refine cl2_ok (fun a b h=>?_) (fun a b h=>?_) (fun a b h=>?_) args p r
 all_goals
  have i1:=h.1
  have i2:=h.2
  have n1:(1:Int).toNat=1:=rfl
  have n2:(2:Int).toNat=2:=rfl
  refine CSpec_go (E:=⟨TF,Jt0⟩) (fn34 hP) HE hP.mix ?_
  simp only [go_sem,i1,i2,n1,n2]
  exact fin_z
noncomputable def vSubC:List AV→Option (Prop × AV):=cl2 (fun x y=>(fl x≤FB∧fl y≤FB,(.agg [.opq (.frac (qsub x y)),.pad,.pad,.pad,.pad])))
attribute [go_sem] vSubC
noncomputable def Vt0:Nat→List AV→Option (Prop × AV):=addS Jt0 34 vSubC
theorem Vt0_all (hP:PrgOk P) (T) (hT:TyOk P T):EnvOk P ⟨T,Vt0⟩:=((Jt0_all hP T hT).add (vSubC_ok hP))
theorem Vt0_at (f a):Vt0 f a=(addS Jt0 34 vSubC) f a:=rfl
attribute [go_sem] Vt0_at
theorem vSub_spec (hP:PrgOk P) (a b:V3) (ha:fV a FB) (hb:fV b FB):CSpec P 18 [(.agg [.opq (.frac (a.1)),.pad,.pad,.pad,.pad,.opq (.frac (a.2.1)),.pad,.pad,.pad,.pad,.opq (.frac (a.2.2)),.pad,.pad,.pad,.pad]),(.agg [.opq (.frac (b.1)),.pad,.pad,.pad,.pad,.opq (.frac (b.2.1)),.pad,.pad,.pad,.pad,.opq (.frac (b.2.2)),.pad,.pad,.pad,.pad])] (.agg [.opq (.frac (qsub a.1 b.1)),.pad,.pad,.pad,.pad,.opq (.frac (qsub a.2.1 b.2.1)),.pad,.pad,.pad,.pad,.opq (.frac (qsub a.2.2 b.2.2)),.pad,.pad,.pad,.pad]):=by
 have HE:=Vt0_all hP TF hP.tF
 obtain ⟨a1,a2,a3⟩:=ha
 obtain ⟨b1,b2,b3⟩:=hb
 refine CSpec_go (E:=⟨TF,Vt0⟩) (fn18 hP) HE hP.mix ?_
 simp only [go_sem]
 refine icX_vc (E:=⟨TF,Vt0⟩) (fn20 hP) HE hP.mix rfl rfl (Nat.le_of_ble_eq_true rfl) 100 ?_
 have w1:IntKind.i64.wrap (0+1)=1:=rfl
 have w2:IntKind.i64.wrap (1+1)=2:=rfl
 have w3:IntKind.i64.wrap (2+1)=3:=rfl
 have n1:(1:Int).toNat=1:=rfl
 have n2:(2:Int).toNat=2:=rfl
 simp only [go_sem]
 refine trX_once HE hP.mix 15 150 (by kernel_rfl) ?_
 simp only [go_sem,w1,a1,a2,a3,b1,b2,b3]
 refine goX_once HE hP.mix 15 200 (by kernel_rfl) ?_
 simp only [go_sem,w2,n1,a1,a2,a3,b1,b2,b3]
 refine ⟨by decide,?_⟩
 refine goX_once HE hP.mix 15 250 (by kernel_rfl) ?_
 simp only [go_sem,w3,n2,a1,a2,a3,b1,b2,b3]
 refine ⟨by decide,?_⟩
 refine goX_once HE hP.mix 15 300 (by kernel_rfl) ?_
 simp only [go_sem]
 unfold finX
 simp only [go_sem]
 exact .refl _
noncomputable def vSubS:List AV→Option (Prop × AV):=onV2 fun a b=>(fV a FB∧fV b FB,(.agg [.opq (.frac (qsub a.1 b.1)),.pad,.pad,.pad,.pad,.opq (.frac (qsub a.2.1 b.2.1)),.pad,.pad,.pad,.pad,.opq (.frac (qsub a.2.2 b.2.2)),.pad,.pad,.pad,.pad]))
theorem vSubS_ok (hP:PrgOk P) (args p r):vSubS args=some (p,r)→p→CSpec P 18 args r:=onV2_ok (fun a b h=>by exact vSub_spec hP a b h.1 h.2) args p r
attribute [go_sem] vSubS
theorem q0add (a:Rat):qadd 0 a=a:=by rw [qadd_eq]; grind
noncomputable def cl1 (f:Rat→Prop × AV):List AV→Option (Prop × AV)
 | [.int .i64 i,.fref A]=>(cells3 A).bind fun a=>if i=0 then some (f a.1) else if i=1 then some (f a.2.1) else if i=2 then some (f a.2.2) else none
 | _=>none
theorem cl1_0 (f A):cl1 f [.int .i64 0,.fref A]=(cells3 A).bind fun a=>some (f a.1):=rfl
theorem cl1_1 (f A):cl1 f [.int .i64 1,.fref A]=(cells3 A).bind fun a=>some (f a.2.1):=rfl
theorem cl1_2 (f A):cl1 f [.int .i64 2,.fref A]=(cells3 A).bind fun a=>some (f a.2.2):=rfl
noncomputable def clk (f:Rat→Rat→Prop × AV):List AV→Option (Prop × AV)
 | [.int .i64 i,.fref [.opq (.frac k),.pad,.pad,.pad,.pad],.fref A]=>(cells3 A).bind fun a=>if i=0 then some (f k a.1) else if i=1 then some (f k a.2.1) else if i=2 then some (f k a.2.2) else none
 | _=>none
theorem clk_0 (f k A):clk f [.int .i64 0,.fref [.opq (.frac k),.pad,.pad,.pad,.pad],.fref A]=(cells3 A).bind fun a=>some (f k a.1):=rfl
theorem clk_1 (f k A):clk f [.int .i64 1,.fref [.opq (.frac k),.pad,.pad,.pad,.pad],.fref A]=(cells3 A).bind fun a=>some (f k a.2.1):=rfl
theorem clk_2 (f k A):clk f [.int .i64 2,.fref [.opq (.frac k),.pad,.pad,.pad,.pad],.fref A]=(cells3 A).bind fun a=>some (f k a.2.2):=rfl
noncomputable def clx (f g h:V3→V3→Prop × AV):List AV→Option (Prop × AV)
 | [.int .i64 i,.fref A,.fref B]=>(cells3 A).bind fun a=>(cells3 B).bind fun b=>if i=0 then some (f a b) else if i=1 then some (g a b) else if i=2 then some (h a b) else none
 | _=>none
theorem clx_0 (f g h A B):clx f g h [.int .i64 0,.fref A,.fref B]=(cells3 A).bind fun a=>(cells3 B).bind fun b=>some (f a b):=rfl
theorem clx_1 (f g h A B):clx f g h [.int .i64 1,.fref A,.fref B]=(cells3 A).bind fun a=>(cells3 B).bind fun b=>some (g a b):=rfl
theorem clx_2 (f g h A B):clx f g h [.int .i64 2,.fref A,.fref B]=(cells3 A).bind fun a=>(cells3 B).bind fun b=>some (h a b):=rfl
theorem cl1_ok {fi:Nat} {f:Rat→Prop × AV}
 (h0:∀ a:V3,(f a.1).1→CSpec P fi [.int .i64 0,.fref [.opq (.frac (a.1)),.pad,.pad,.pad,.pad,.opq (.frac (a.2.1)),.pad,.pad,.pad,.pad,.opq (.frac (a.2.2)),.pad,.pad,.pad,.pad]] (f a.1).2)
 (h1:∀ a:V3,(f a.2.1).1→CSpec P fi [.int .i64 1,.fref [.opq (.frac (a.1)),.pad,.pad,.pad,.pad,.opq (.frac (a.2.1)),.pad,.pad,.pad,.pad,.opq (.frac (a.2.2)),.pad,.pad,.pad,.pad]] (f a.2.1).2)
 (h2:∀ a:V3,(f a.2.2).1→CSpec P fi [.int .i64 2,.fref [.opq (.frac (a.1)),.pad,.pad,.pad,.pad,.opq (.frac (a.2.1)),.pad,.pad,.pad,.pad,.opq (.frac (a.2.2)),.pad,.pad,.pad,.pad]] (f a.2.2).2)
 (args p r) (he:cl1 f args=some (p,r)) (hp:p):CSpec P fi args r:=by
 unfold cl1 at he
 split at he
 · rename_i i A
   simp only [Option.bind_eq_some_iff] at he
   obtain ⟨a,ha,he⟩:=he
   rw [cells3_inv ha]
   split at he
   · rename_i e; subst e
     have e:=Option.some.inj he
     have:=h0 a (by rw [e]; exact hp)
     rw [e] at this; exact this
   · split at he
     · rename_i e; subst e
       have e:=Option.some.inj he
       have:=h1 a (by rw [e]; exact hp)
       rw [e] at this; exact this
     · split at he
       · rename_i e; subst e
         have e:=Option.some.inj he
         have:=h2 a (by rw [e]; exact hp)
         rw [e] at this; exact this
       · simp at he
 · simp at he
theorem clk_ok {fi:Nat} {f:Rat→Rat→Prop × AV}
 (h0:∀ (k:Rat) (a:V3),(f k a.1).1→CSpec P fi [.int .i64 0,.fref [.opq (.frac k),.pad,.pad,.pad,.pad],.fref [.opq (.frac (a.1)),.pad,.pad,.pad,.pad,.opq (.frac (a.2.1)),.pad,.pad,.pad,.pad,.opq (.frac (a.2.2)),.pad,.pad,.pad,.pad]] (f k a.1).2)
 (h1:∀ (k:Rat) (a:V3),(f k a.2.1).1→CSpec P fi [.int .i64 1,.fref [.opq (.frac k),.pad,.pad,.pad,.pad],.fref [.opq (.frac (a.1)),.pad,.pad,.pad,.pad,.opq (.frac (a.2.1)),.pad,.pad,.pad,.pad,.opq (.frac (a.2.2)),.pad,.pad,.pad,.pad]] (f k a.2.1).2)
 (h2:∀ (k:Rat) (a:V3),(f k a.2.2).1→CSpec P fi [.int .i64 2,.fref [.opq (.frac k),.pad,.pad,.pad,.pad],.fref [.opq (.frac (a.1)),.pad,.pad,.pad,.pad,.opq (.frac (a.2.1)),.pad,.pad,.pad,.pad,.opq (.frac (a.2.2)),.pad,.pad,.pad,.pad]] (f k a.2.2).2)
 (args p r) (he:clk f args=some (p,r)) (hp:p):CSpec P fi args r:=by
 unfold clk at he
 split at he
 · rename_i i k A
   simp only [Option.bind_eq_some_iff] at he
   obtain ⟨a,ha,he⟩:=he
   rw [cells3_inv ha]
   split at he
   · rename_i e; subst e
     have e:=Option.some.inj he
     have:=h0 k a (by rw [e]; exact hp)
     rw [e] at this; exact this
   · split at he
     · rename_i e; subst e
       have e:=Option.some.inj he
       have:=h1 k a (by rw [e]; exact hp)
       rw [e] at this; exact this
     · split at he
       · rename_i e; subst e
         have e:=Option.some.inj he
         have:=h2 k a (by rw [e]; exact hp)
         rw [e] at this; exact this
       · simp at he
 · simp at he
theorem clx_ok {fi:Nat} {f g h:V3→V3→Prop × AV}
 (h0:∀ a b:V3,(f a b).1→CSpec P fi [.int .i64 0,.fref [.opq (.frac (a.1)),.pad,.pad,.pad,.pad,.opq (.frac (a.2.1)),.pad,.pad,.pad,.pad,.opq (.frac (a.2.2)),.pad,.pad,.pad,.pad],.fref [.opq (.frac (b.1)),.pad,.pad,.pad,.pad,.opq (.frac (b.2.1)),.pad,.pad,.pad,.pad,.opq (.frac (b.2.2)),.pad,.pad,.pad,.pad]] (f a b).2)
 (h1:∀ a b:V3,(g a b).1→CSpec P fi [.int .i64 1,.fref [.opq (.frac (a.1)),.pad,.pad,.pad,.pad,.opq (.frac (a.2.1)),.pad,.pad,.pad,.pad,.opq (.frac (a.2.2)),.pad,.pad,.pad,.pad],.fref [.opq (.frac (b.1)),.pad,.pad,.pad,.pad,.opq (.frac (b.2.1)),.pad,.pad,.pad,.pad,.opq (.frac (b.2.2)),.pad,.pad,.pad,.pad]] (g a b).2)
 (h2:∀ a b:V3,(h a b).1→CSpec P fi [.int .i64 2,.fref [.opq (.frac (a.1)),.pad,.pad,.pad,.pad,.opq (.frac (a.2.1)),.pad,.pad,.pad,.pad,.opq (.frac (a.2.2)),.pad,.pad,.pad,.pad],.fref [.opq (.frac (b.1)),.pad,.pad,.pad,.pad,.opq (.frac (b.2.1)),.pad,.pad,.pad,.pad,.opq (.frac (b.2.2)),.pad,.pad,.pad,.pad]] (h a b).2)
 (args p r) (he:clx f g h args=some (p,r)) (hp:p):CSpec P fi args r:=by
 unfold clx at he
 split at he
 · rename_i i A B
   simp only [Option.bind_eq_some_iff] at he
   obtain ⟨a,ha,b,hb,he⟩:=he
   rw [cells3_inv ha,cells3_inv hb]
   split at he
   · rename_i e; subst e
     have e:=Option.some.inj he
     have:=h0 a b (by rw [e]; exact hp)
     rw [e] at this; exact this
   · split at he
     · rename_i e; subst e
       have e:=Option.some.inj he
       have:=h1 a b (by rw [e]; exact hp)
       rw [e] at this; exact this
     · split at he
       · rename_i e; subst e
         have e:=Option.some.inj he
         have:=h2 a b (by rw [e]; exact hp)
         rw [e] at this; exact this
       · simp at he
 · simp at he
attribute [go_sem] cl1_0 cl1_1 cl1_2 clk_0 clk_1 clk_2 clx_0 clx_1 clx_2
noncomputable def vNegC:List AV→Option (Prop × AV):=cl1 fun x=>(fl x≤FB,(.agg [.opq (.frac (qneg x)),.pad,.pad,.pad,.pad]))
theorem vNegC_ok (hP:PrgOk P) (args p r):vNegC args=some (p,r)→p→CSpec P 21 args r:=by
 have HE:=Jt0_all hP TF hP.tF
 refine cl1_ok (fun a h=>?_) (fun a h=>?_) (fun a h=>?_) args p r
 all_goals
  have h:fl _≤FB:=h
  have i1:=Nat.le_trans (fl_num h) (show FB≤68719476736 by decide)
  have n1:(1:Int).toNat=1:=rfl
  have n2:(2:Int).toNat=2:=rfl
  refine CSpec_go (E:=⟨TF,Jt0⟩) (fn21 hP) HE hP.mix ?_
  simp only [go_sem,i1,n1,n2]
  exact fin_z
noncomputable def vScaleC:List AV→Option (Prop × AV):=clk fun k x=>(fl k≤FB∧fl x≤FB,(.agg [.opq (.frac (qmul k x)),.pad,.pad,.pad,.pad]))
theorem vScaleC_ok (hP:PrgOk P) (args p r):vScaleC args=some (p,r)→p→CSpec P 48 args r:=by
 have HE:=Jt0_all hP TF hP.tF
 refine clk_ok (fun k a h=>?_) (fun k a h=>?_) (fun k a h=>?_) args p r
 all_goals
  have i1:=h.1
  have i2:=h.2
  have n1:(1:Int).toNat=1:=rfl
  have n2:(2:Int).toNat=2:=rfl
  refine CSpec_go (E:=⟨TF,Jt0⟩) (fn48 hP) HE hP.mix ?_
  simp only [go_sem,i1,i2,n1,n2]
  exact fin_z
noncomputable def mnr (a b c d:Rat):Prop × AV:=(fl a≤268435456∧fl b≤268435456∧fl c≤268435456∧fl d≤268435456,(.agg [.opq (.frac (qsub (qmul a b) (qmul c d))),.pad,.pad,.pad,.pad]))
noncomputable def vCrossC:List AV→Option (Prop × AV):=clx (fun a b=>mnr a.2.1 b.2.2 a.2.2 b.2.1) (fun a b=>mnr a.2.2 b.1 a.1 b.2.2) (fun a b=>mnr a.1 b.2.1 a.2.1 b.1)
theorem vCrossC_ok (hP:PrgOk P) (args p r):vCrossC args=some (p,r)→p→CSpec P 41 args r:=by
 have HE:=Jt0_all hP TF hP.tF
 refine clx_ok (fun a b h=>?_) (fun a b h=>?_) (fun a b h=>?_) args p r
 all_goals
  obtain ⟨h1,h2,h3,h4⟩:=h
  have i1:=Nat.le_trans h1 (show _≤FB by decide)
  have i2:=Nat.le_trans h2 (show _≤FB by decide)
  have i3:=Nat.le_trans h3 (show _≤FB by decide)
  have i4:=Nat.le_trans h4 (show _≤FB by decide)
  have i5:=Nat.le_trans (fl_qmul h1 h2) (show _≤FB by decide)
  have i6:=Nat.le_trans (fl_qmul h3 h4) (show _≤FB by decide)
  have n1:(1:Int).toNat=1:=rfl
  have n2:(2:Int).toNat=2:=rfl
  have w1:IntKind.i64.wrap (0+1)=1:=rfl
  have w2:IntKind.i64.wrap (0+2)=2:=rfl
  have w3:IntKind.i64.wrap (1+1)=2:=rfl
  have w4:IntKind.i64.wrap (1+2)=3:=rfl
  have w5:IntKind.i64.wrap (2+1)=3:=rfl
  have w6:IntKind.i64.wrap (2+2)=4:=rfl
  have m1:(1:Int).tmod 3=1:=rfl
  have m2:(2:Int).tmod 3=2:=rfl
  have m3:(3:Int).tmod 3=0:=rfl
  have m4:(4:Int).tmod 3=1:=rfl
  refine CSpec_go (E:=⟨TF,Jt0⟩) (fn41 hP) HE hP.mix ?_
  simp only [go_sem,i1,i2,i3,i4,i5,i6,n1,n2,w1,w2,w3,w4,w5,w6,m1,m2,m3,m4]
  exact fin_z
attribute [go_sem] vNegC vScaleC vCrossC mnr
noncomputable def Vt1:Nat→List AV→Option (Prop × AV):=addS (addS (addS (addS Vt0 21 vNegC) 48 vScaleC) 41 vCrossC) 18 vSubS
theorem Vt1_all (hP:PrgOk P) (T) (hT:TyOk P T):EnvOk P ⟨T,Vt1⟩:=(((((Vt0_all hP T hT).add (vNegC_ok hP)).add (vScaleC_ok hP)).add (vCrossC_ok hP)).add (vSubS_ok hP))
theorem Vt1_at (f a):Vt1 f a=(addS (addS (addS (addS Vt0 21 vNegC) 48 vScaleC) 41 vCrossC) 18 vSubS) f a:=rfl
attribute [go_sem] Vt1_at
theorem vNeg_spec (hP:PrgOk P) (a:V3) (ha:fV a FB):CSpec P 6 [(.agg [.opq (.frac (a.1)),.pad,.pad,.pad,.pad,.opq (.frac (a.2.1)),.pad,.pad,.pad,.pad,.opq (.frac (a.2.2)),.pad,.pad,.pad,.pad])] (.agg [.opq (.frac (qneg a.1)),.pad,.pad,.pad,.pad,.opq (.frac (qneg a.2.1)),.pad,.pad,.pad,.pad,.opq (.frac (qneg a.2.2)),.pad,.pad,.pad,.pad]):=by
 have HE:=Vt1_all hP TF hP.tF
 obtain ⟨a1,a2,a3⟩:=ha
 refine CSpec_go (E:=⟨TF,Vt1⟩) (fn6 hP) HE hP.mix ?_
 simp only [go_sem]
 refine icX_vc (E:=⟨TF,Vt1⟩) (fn20 hP) HE hP.mix rfl rfl (Nat.le_of_ble_eq_true rfl) 100 ?_
 have w1:IntKind.i64.wrap (0+1)=1:=rfl
 have w2:IntKind.i64.wrap (1+1)=2:=rfl
 have w3:IntKind.i64.wrap (2+1)=3:=rfl
 have n1:(1:Int).toNat=1:=rfl
 have n2:(2:Int).toNat=2:=rfl
 simp only [go_sem]
 refine trX_once HE hP.mix 15 150 (by kernel_rfl) ?_
 simp only [go_sem,w1,a1,a2,a3]
 refine goX_once HE hP.mix 15 200 (by kernel_rfl) ?_
 simp only [go_sem,w2,n1,a1,a2,a3]
 refine ⟨by decide,?_⟩
 refine goX_once HE hP.mix 15 250 (by kernel_rfl) ?_
 simp only [go_sem,w3,n2,a1,a2,a3]
 refine ⟨by decide,?_⟩
 refine goX_once HE hP.mix 15 300 (by kernel_rfl) ?_
 simp only [go_sem]
 unfold finX
 simp only [go_sem]
 exact .refl _
noncomputable def vNegS:List AV→Option (Prop × AV):=onV1 fun a=>(fV a FB,(.agg [.opq (.frac (qneg a.1)),.pad,.pad,.pad,.pad,.opq (.frac (qneg a.2.1)),.pad,.pad,.pad,.pad,.opq (.frac (qneg a.2.2)),.pad,.pad,.pad,.pad]))
theorem vNegS_ok (hP:PrgOk P) (args p r):vNegS args=some (p,r)→p→CSpec P 6 args r:=onV1_ok (fun a h=>by exact vNeg_spec hP a h) args p r
theorem vScale_spec (hP:PrgOk P) (k:Rat) (a:V3) (hk:fl k≤FB) (ha:fV a FB):CSpec P 31 [(.agg [.opq (.frac (k)),.pad,.pad,.pad,.pad]),(.agg [.opq (.frac (a.1)),.pad,.pad,.pad,.pad,.opq (.frac (a.2.1)),.pad,.pad,.pad,.pad,.opq (.frac (a.2.2)),.pad,.pad,.pad,.pad])] (.agg [.opq (.frac (qmul k a.1)),.pad,.pad,.pad,.pad,.opq (.frac (qmul k a.2.1)),.pad,.pad,.pad,.pad,.opq (.frac (qmul k a.2.2)),.pad,.pad,.pad,.pad]):=by
 have HE:=Vt1_all hP TF hP.tF
 obtain ⟨a1,a2,a3⟩:=ha
 refine CSpec_go (E:=⟨TF,Vt1⟩) (fn31 hP) HE hP.mix ?_
 simp only [go_sem]
 refine icX_vc (E:=⟨TF,Vt1⟩) (fn20 hP) HE hP.mix rfl rfl (Nat.le_of_ble_eq_true rfl) 100 ?_
 have w1:IntKind.i64.wrap (0+1)=1:=rfl
 have w2:IntKind.i64.wrap (1+1)=2:=rfl
 have w3:IntKind.i64.wrap (2+1)=3:=rfl
 have n1:(1:Int).toNat=1:=rfl
 have n2:(2:Int).toNat=2:=rfl
 simp only [go_sem]
 refine trX_once HE hP.mix 15 150 (by kernel_rfl) ?_
 simp only [go_sem,w1,hk,a1,a2,a3]
 refine goX_once HE hP.mix 15 200 (by kernel_rfl) ?_
 simp only [go_sem,w2,n1,hk,a1,a2,a3]
 refine ⟨by decide,?_⟩
 refine goX_once HE hP.mix 15 250 (by kernel_rfl) ?_
 simp only [go_sem,w3,n2,hk,a1,a2,a3]
 refine ⟨by decide,?_⟩
 refine goX_once HE hP.mix 15 300 (by kernel_rfl) ?_
 simp only [go_sem]
 unfold finX
 simp only [go_sem]
 exact .refl _
noncomputable def vScaleS:List AV→Option (Prop × AV)
 | [k,x]=>(rawF k).bind fun k=>(rawV x).map fun a=>(k.1∧fl k.2≤FB∧fV a FB,(.agg [.opq (.frac (qmul k.2 a.1)),.pad,.pad,.pad,.pad,.opq (.frac (qmul k.2 a.2.1)),.pad,.pad,.pad,.pad,.opq (.frac (qmul k.2 a.2.2)),.pad,.pad,.pad,.pad]))
 | _=>none
theorem vScaleS_eq (k x):vScaleS [k,x]=(rawF k).bind fun k=>(rawV x).map fun a=>(k.1∧fl k.2≤FB∧fV a FB,(.agg [.opq (.frac (qmul k.2 a.1)),.pad,.pad,.pad,.pad,.opq (.frac (qmul k.2 a.2.1)),.pad,.pad,.pad,.pad,.opq (.frac (qmul k.2 a.2.2)),.pad,.pad,.pad,.pad])):=rfl
theorem vScaleS_ok (hP:PrgOk P) (args p r) (he:vScaleS args=some (p,r)) (hp:p):CSpec P 31 args r:=by
 unfold vScaleS at he
 split at he
 · simp only [Option.bind_eq_some_iff,Option.map_eq_some_iff,Prod.exists,Prod.mk.injEq] at he
   obtain ⟨q,k,h1,x,y,z,h2,rfl,rfl⟩:=he
   rw [rawV_inv h2]
   exact (vScale_spec hP k (x,y,z) hp.2.1 hp.2.2).cv (rawF_cv h1 hp.1 (.refl _))
 · simp at he
theorem vCross_spec (hP:PrgOk P) (a b:V3) (ha:fV a 268435456) (hb:fV b 268435456):CSpec P 25 [(.agg [.opq (.frac (a.1)),.pad,.pad,.pad,.pad,.opq (.frac (a.2.1)),.pad,.pad,.pad,.pad,.opq (.frac (a.2.2)),.pad,.pad,.pad,.pad]),(.agg [.opq (.frac (b.1)),.pad,.pad,.pad,.pad,.opq (.frac (b.2.1)),.pad,.pad,.pad,.pad,.opq (.frac (b.2.2)),.pad,.pad,.pad,.pad])] (.agg [.opq (.frac (qsub (qmul a.2.1 b.2.2) (qmul a.2.2 b.2.1))),.pad,.pad,.pad,.pad,.opq (.frac (qsub (qmul a.2.2 b.1) (qmul a.1 b.2.2))),.pad,.pad,.pad,.pad,.opq (.frac (qsub (qmul a.1 b.2.1) (qmul a.2.1 b.1))),.pad,.pad,.pad,.pad]):=by
 have HE:=Vt1_all hP TF hP.tF
 obtain ⟨a1,a2,a3⟩:=ha
 obtain ⟨b1,b2,b3⟩:=hb
 refine CSpec_go (E:=⟨TF,Vt1⟩) (fn25 hP) HE hP.mix ?_
 simp only [go_sem]
 refine icX_vc (E:=⟨TF,Vt1⟩) (fn20 hP) HE hP.mix rfl rfl (Nat.le_of_ble_eq_true rfl) 100 ?_
 have w1:IntKind.i64.wrap (0+1)=1:=rfl
 have w2:IntKind.i64.wrap (1+1)=2:=rfl
 have w3:IntKind.i64.wrap (2+1)=3:=rfl
 have n1:(1:Int).toNat=1:=rfl
 have n2:(2:Int).toNat=2:=rfl
 simp only [go_sem]
 refine trX_once HE hP.mix 15 150 (by kernel_rfl) ?_
 simp only [go_sem,w1,a1,a2,a3,b1,b2,b3]
 refine goX_once HE hP.mix 15 200 (by kernel_rfl) ?_
 simp only [go_sem,w2,n1,a1,a2,a3,b1,b2,b3]
 refine ⟨by decide,?_⟩
 refine goX_once HE hP.mix 15 250 (by kernel_rfl) ?_
 simp only [go_sem,w3,n2,a1,a2,a3,b1,b2,b3]
 refine ⟨by decide,?_⟩
 refine goX_once HE hP.mix 15 300 (by kernel_rfl) ?_
 simp only [go_sem]
 unfold finX
 simp only [go_sem]
 exact .refl _
noncomputable def vCrossS:List AV→Option (Prop × AV):=onV2 fun a b=>(fV a 268435456∧fV b 268435456,(.agg [.opq (.frac (qsub (qmul a.2.1 b.2.2) (qmul a.2.2 b.2.1))),.pad,.pad,.pad,.pad,.opq (.frac (qsub (qmul a.2.2 b.1) (qmul a.1 b.2.2))),.pad,.pad,.pad,.pad,.opq (.frac (qsub (qmul a.1 b.2.1) (qmul a.2.1 b.1))),.pad,.pad,.pad,.pad]))
theorem vCrossS_ok (hP:PrgOk P) (args p r):vCrossS args=some (p,r)→p→CSpec P 25 args r:=onV2_ok (fun a b h=>by exact vCross_spec hP a b h.1 h.2) args p r
attribute [go_sem] vNegS vScaleS_eq vCrossS
end Go.Proofs.Ytapddfjimhohcaa.AM
/- Fractions in their order. -/
namespace Go.Proofs.Ytapddfjimhohcaa.AM
set_option linter.all false
set_option autoImplicit true
set_option relaxedAutoImplicit true
open Go Go.Proofs
set_option maxRecDepth 100000
theorem cmpQ_z (a b:Rat):(cmpQ a b == 0)=decide (a=b):=by
 unfold cmpQ
 by_cases h1:a<b
 · rw [if_pos h1,decide_eq_false (by grind)]; rfl
 · rw [if_neg h1]
   by_cases h2:b<a
   · rw [if_pos h2,decide_eq_false (by grind)]; rfl
   · rw [if_neg h2,decide_eq_true (by grind)]; rfl
theorem cmpQ_cases (a b:Rat):(a<b∧cmpQ a b = -1)∨(a=b∧cmpQ a b=0)∨(b<a∧cmpQ a b=1):=by
 unfold cmpQ
 by_cases h1:a<b
 · exact .inl ⟨h1,if_pos h1⟩
 · rw [if_neg h1]
   by_cases h2:b<a
   · exact .inr (.inr ⟨h2,if_pos h2⟩)
   · exact .inr (.inl ⟨by grind,if_neg h2⟩)
theorem cmpQ_self (a:Rat):cmpQ a a=0:=by unfold cmpQ; rw [if_neg (by grind),if_neg (by grind)]
end Go.Proofs.Ytapddfjimhohcaa.AM
/- Package vec: products,order,texts. -/
namespace Go.Proofs.Ytapddfjimhohcaa.AM
set_option linter.all false
set_option autoImplicit true
set_option relaxedAutoImplicit true
open Go Go.Proofs
set_option maxRecDepth 100000
set_option maxHeartbeats 8000000
set_option linter.unusedSimpArgs false
variable {P:Program}
noncomputable def Vt2:Nat→List AV→Option (Prop × AV):=addS (addS (addS Vt1 6 vNegS) 31 vScaleS) 25 vCrossS
theorem Vt2_all (hP:PrgOk P) (T) (hT:TyOk P T):EnvOk P ⟨T,Vt2⟩:=((((Vt1_all hP T hT).add (vNegS_ok hP)).add (vScaleS_ok hP)).add (vCrossS_ok hP))
theorem Vt2_at (f a):Vt2 f a=(addS (addS (addS Vt1 6 vNegS) 31 vScaleS) 25 vCrossS) f a:=rfl
attribute [go_sem] Vt2_at
noncomputable def qdt (a b:V3):Rat:=qadd (qadd (qmul a.1 b.1) (qmul a.2.1 b.2.1)) (qmul a.2.2 b.2.2)
theorem vDot_spec (hP:PrgOk P) (a b:V3) (ha:fV a 67108864) (hb:fV b 67108864):CSpec P 27 [(.agg [.opq (.frac (a.1)),.pad,.pad,.pad,.pad,.opq (.frac (a.2.1)),.pad,.pad,.pad,.pad,.opq (.frac (a.2.2)),.pad,.pad,.pad,.pad]),(.agg [.opq (.frac (b.1)),.pad,.pad,.pad,.pad,.opq (.frac (b.2.1)),.pad,.pad,.pad,.pad,.opq (.frac (b.2.2)),.pad,.pad,.pad,.pad])] (.agg [.opq (.frac (qdt a b)),.pad,.pad,.pad,.pad]):=by
 have HE:=Vt2_all hP TF hP.tF
 obtain ⟨a1,a2,a3⟩:=ha
 obtain ⟨b1,b2,b3⟩:=hb
 have i1:=Nat.le_trans a1 (show _≤FB by decide)
 have i2:=Nat.le_trans a2 (show _≤FB by decide)
 have i3:=Nat.le_trans a3 (show _≤FB by decide)
 have j1:=Nat.le_trans b1 (show _≤FB by decide)
 have j2:=Nat.le_trans b2 (show _≤FB by decide)
 have j3:=Nat.le_trans b3 (show _≤FB by decide)
 have p1:=Nat.le_trans (fl_qmul a1 b1) (show _≤FB by decide)
 have p2:=Nat.le_trans (fl_qmul a2 b2) (show _≤FB by decide)
 have p3:=Nat.le_trans (fl_qmul a3 b3) (show _≤FB by decide)
 have s1:=Nat.le_trans (fl_qadd (fl_qmul a1 b1) (fl_qmul a2 b2)) (show _≤FB by decide)
 have f0:fl 0≤FB:=fl_zero _
 unfold qdt
 refine CSpec_go (E:=⟨TF,Vt2⟩) (fn27 hP) HE hP.mix ?_
 simp only [go_sem]
 have w1:IntKind.i64.wrap (0+1)=1:=rfl
 have w2:IntKind.i64.wrap (1+1)=2:=rfl
 have w3:IntKind.i64.wrap (2+1)=3:=rfl
 have n1:(1:Int).toNat=1:=rfl
 have n2:(2:Int).toNat=2:=rfl
 have le1:((0:Int)≤1)=True:=eq_true (by decide)
 have le2:((0:Int)≤2)=True:=eq_true (by decide)
 refine trX_once HE hP.mix 23 150 (by kernel_rfl) ?_
 simp only [go_sem,w1,i1,j1,p1,f0,q0add]
 refine goX_once HE hP.mix 23 200 (by kernel_rfl) ?_
 simp only [go_sem,w2,n1,le1,i2,j2,p1,p2]
 refine goX_once HE hP.mix 23 250 (by kernel_rfl) ?_
 simp only [go_sem,w3,n2,le2,i3,j3,s1,p3]
 refine goX_once HE hP.mix 23 300 (by kernel_rfl) ?_
 simp only [go_sem]
 exact .refl _
noncomputable def vDotS:List AV→Option (Prop × AV):=onV2 fun a b=>(fV a 67108864∧fV b 67108864,(.agg [.opq (.frac (qdt a b)),.pad,.pad,.pad,.pad]))
theorem vDotS_ok (hP:PrgOk P) (args p r):vDotS args=some (p,r)→p→CSpec P 27 args r:=onV2_ok (fun a b h=>by exact vDot_spec hP a b h.1 h.2) args p r
noncomputable def cmpV (a b:V3):Int:=if cmpQ a.1 b.1=0 then (if cmpQ a.2.1 b.2.1=0 then cmpQ a.2.2 b.2.2 else cmpQ a.2.1 b.2.1) else cmpQ a.1 b.1
noncomputable def zrV (a:V3):Bool:=decide (a.1=0) && (decide (a.2.1=0) && decide (a.2.2=0))
theorem zrV_eq (a:V3):zrV a=decide (a=v0):=by
 unfold zrV; rw [Bool.eq_iff_iff]; simp [v0_iff]
theorem vZero_spec (hP:PrgOk P) (a:V3) (ha:fV a FB):CSpec P 26 [(.agg [.opq (.frac (a.1)),.pad,.pad,.pad,.pad,.opq (.frac (a.2.1)),.pad,.pad,.pad,.pad,.opq (.frac (a.2.2)),.pad,.pad,.pad,.pad])] (.bool (decide (a=v0))):=by
 have HE:=Vt2_all hP TF hP.tF
 obtain ⟨a1,a2,a3⟩:=ha
 have i1:=Nat.le_trans (fl_num a1) (show FB≤68719476736 by decide)
 have i2:=Nat.le_trans (fl_num a2) (show FB≤68719476736 by decide)
 have i3:=Nat.le_trans (fl_num a3) (show FB≤68719476736 by decide)
 rw [← zrV_eq]
 unfold zrV
 refine CSpec_go (E:=⟨TF,Vt2⟩) (fn26 hP) HE hP.mix ?_
 by_cases c1:a.1=0
 · have c1':=decide_eq_true c1
   by_cases c2:a.2.1=0
   · have c2':=decide_eq_true c2
     simp only [go_sem,i1,i2,i3,cmpQ_z,c1',c2']
     exact fin_z
   · have c2':=decide_eq_false c2
     simp only [go_sem,i1,i2,i3,cmpQ_z,c1',c2']
     exact fin_z
 · have c1':=decide_eq_false c1
   simp only [go_sem,i1,i2,i3,cmpQ_z,c1']
   exact fin_z
noncomputable def vZeroS:List AV→Option (Prop × AV):=onV1 fun a=>(fV a FB,.bool (decide (a=v0)))
theorem vZeroS_ok (hP:PrgOk P) (args p r):vZeroS args=some (p,r)→p→CSpec P 26 args r:=onV1_ok (fun a h=>by exact vZero_spec hP a h) args p r
theorem vOf_spec (hP:PrgOk P) (x y z:Rat):CSpec P 15 [(.agg [.opq (.frac (x)),.pad,.pad,.pad,.pad]),(.agg [.opq (.frac (y)),.pad,.pad,.pad,.pad]),(.agg [.opq (.frac (z)),.pad,.pad,.pad,.pad])] (.agg [.opq (.frac (x)),.pad,.pad,.pad,.pad,.opq (.frac (y)),.pad,.pad,.pad,.pad,.opq (.frac (z)),.pad,.pad,.pad,.pad]):=by
 have HE:=Vt2_all hP TF hP.tF
 refine CSpec_go (E:=⟨TF,Vt2⟩) (fn15 hP) HE hP.mix ?_
 simp only [go_sem]
 exact fin_z
noncomputable def vOfS:List AV→Option (Prop × AV)
 | [x,y,z]=>(rawF x).bind fun x=>(rawF y).bind fun y=>(rawF z).map fun z=>(x.1∧y.1∧z.1,(.agg [.opq (.frac (x.2)),.pad,.pad,.pad,.pad,.opq (.frac (y.2)),.pad,.pad,.pad,.pad,.opq (.frac (z.2)),.pad,.pad,.pad,.pad]))
 | _=>none
theorem vOfS_eq (x y z):vOfS [x,y,z]=(rawF x).bind fun x=>(rawF y).bind fun y=>(rawF z).map fun z=>(x.1∧y.1∧z.1,(.agg [.opq (.frac (x.2)),.pad,.pad,.pad,.pad,.opq (.frac (y.2)),.pad,.pad,.pad,.pad,.opq (.frac (z.2)),.pad,.pad,.pad,.pad])):=rfl
theorem vOfS_ok (hP:PrgOk P) (args p r) (he:vOfS args=some (p,r)) (hp:p):CSpec P 15 args r:=by
 unfold vOfS at he
 split at he
 · simp only [Option.bind_eq_some_iff,Option.map_eq_some_iff,Prod.exists,Prod.mk.injEq] at he
   obtain ⟨q,x,h1,q',y,h2,q'',z,h3,rfl,rfl⟩:=he
   exact (vOf_spec hP x y z).cv (rawF_cv h1 hp.1 (rawF_cv h2 hp.2.1 (rawF_cv h3 hp.2.2 .nil)))
 · simp at he
attribute [go_sem] vDotS vZeroS vOfS_eq
noncomputable def Vt3:Nat→List AV→Option (Prop × AV):=addS (addS (addS Vt2 27 vDotS) 26 vZeroS) 15 vOfS
theorem Vt3_all (hP:PrgOk P) (T) (hT:TyOk P T):EnvOk P ⟨T,Vt3⟩:=((((Vt2_all hP T hT).add (vDotS_ok hP)).add (vZeroS_ok hP)).add (vOfS_ok hP))
theorem Vt3_at (f a):Vt3 f a=(addS (addS (addS Vt2 27 vDotS) 26 vZeroS) 15 vOfS) f a:=rfl
attribute [go_sem] Vt3_at
theorem fl_i64 {n:Int} (h1 : -9223372036854775808≤n) (h2:n≤9223372036854775807):fl ((n:Int):Rat)≤64:=fl_int ((blen_le_iff _ _).2 (by omega)) (by decide)
theorem vInts_spec (hP:PrgOk P) (x y z:Int) (hx : -9223372036854775808≤x∧x≤9223372036854775807) (hy : -9223372036854775808≤y∧y≤9223372036854775807) (hz : -9223372036854775808≤z∧z≤9223372036854775807):CSpec P 4 [.int .i64 x,.int .i64 y,.int .i64 z] (.agg [.opq (.frac ((x:Rat))),.pad,.pad,.pad,.pad,.opq (.frac ((y:Rat))),.pad,.pad,.pad,.pad,.opq (.frac ((z:Rat))),.pad,.pad,.pad,.pad]):=by
 have HE:=Vt3_all hP TF hP.tF
 obtain ⟨x1,x2⟩:=hx
 obtain ⟨y1,y2⟩:=hy
 obtain ⟨z1,z2⟩:=hz
 refine CSpec_go (E:=⟨TF,Vt3⟩) (fn4 hP) HE hP.mix ?_
 simp only [go_sem,x1,x2,y1,y2,z1,z2]
 exact fin_z
def vIntsS:List AV→Option (Prop × AV)
 | [.int .i64 x,.int .i64 y,.int .i64 z]=>some ((-9223372036854775808≤x∧x≤9223372036854775807)∧(-9223372036854775808≤y∧y≤9223372036854775807)∧(-9223372036854775808≤z∧z≤9223372036854775807),(.agg [.opq (.frac ((x:Rat))),.pad,.pad,.pad,.pad,.opq (.frac ((y:Rat))),.pad,.pad,.pad,.pad,.opq (.frac ((z:Rat))),.pad,.pad,.pad,.pad]))
 | _=>none
theorem vIntsS_ok (hP:PrgOk P) (args p r) (h:vIntsS args=some (p,r)) (hp:p):CSpec P 4 args r:=by
 unfold vIntsS at h
 split at h
 · simp only [Option.some.injEq,Prod.mk.injEq] at h
   obtain ⟨rfl,rfl⟩:=h
   exact vInts_spec hP _ _ _ hp.1 hp.2.1 hp.2.2
 · simp at h
noncomputable def vcq (a b:V3):V3:=(qsub (qmul a.2.1 b.2.2) (qmul a.2.2 b.2.1),qsub (qmul a.2.2 b.1) (qmul a.1 b.2.2),qsub (qmul a.1 b.2.1) (qmul a.2.1 b.1))
theorem vcq_fl {a b:V3} {n m:Nat} (ha:fV a n) (hb:fV b m):fV (vcq a b) (n+m+(n+m)+1):=by
 obtain ⟨a1,a2,a3⟩:=ha
 obtain ⟨b1,b2,b3⟩:=hb
 exact ⟨fl_qsub (fl_qmul a2 b3) (fl_qmul a3 b2),fl_qsub (fl_qmul a3 b1) (fl_qmul a1 b3),fl_qsub (fl_qmul a1 b2) (fl_qmul a2 b1)⟩
theorem fV_le {a:V3} {n m:Nat} (h:fV a n) (hm:n≤m):fV a m:=⟨Nat.le_trans h.1 hm,Nat.le_trans h.2.1 hm,Nat.le_trans h.2.2 hm⟩
theorem vDet_spec (hP:PrgOk P) (a b c:V3) (ha:fV a 8388608) (hb:fV b 8388608) (hc:fV c 8388608):CSpec P 17 [(.agg [.opq (.frac (a.1)),.pad,.pad,.pad,.pad,.opq (.frac (a.2.1)),.pad,.pad,.pad,.pad,.opq (.frac (a.2.2)),.pad,.pad,.pad,.pad]),(.agg [.opq (.frac (b.1)),.pad,.pad,.pad,.pad,.opq (.frac (b.2.1)),.pad,.pad,.pad,.pad,.opq (.frac (b.2.2)),.pad,.pad,.pad,.pad]),(.agg [.opq (.frac (c.1)),.pad,.pad,.pad,.pad,.opq (.frac (c.2.1)),.pad,.pad,.pad,.pad,.opq (.frac (c.2.2)),.pad,.pad,.pad,.pad])] (.agg [.opq (.frac (qdt a (vcq b c))),.pad,.pad,.pad,.pad]):=by
 have HE:=Vt3_all hP TF hP.tF
 obtain ⟨a1,a2,a3⟩:=fV_le ha (show _≤67108864 by decide)
 obtain ⟨b1,b2,b3⟩:=fV_le hb (show _≤268435456 by decide)
 obtain ⟨c1,c2,c3⟩:=fV_le hc (show _≤268435456 by decide)
 obtain ⟨d1,d2,d3⟩:=fV_le (vcq_fl hb hc) (show _≤67108864 by decide)
 unfold vcq at d1 d2 d3 ⊢
 refine CSpec_go (E:=⟨TF,Vt3⟩) (fn17 hP) HE hP.mix ?_
 simp only [go_sem,a1,a2,a3,b1,b2,b3,c1,c2,c3,d1,d2,d3]
 exact fin_z
noncomputable def vDetS:List AV→Option (Prop × AV)
 | [x,y,z]=>(rawV x).bind fun a=>(rawV y).bind fun b=>(rawV z).map fun c=>(fV a 8388608∧fV b 8388608∧fV c 8388608,(.agg [.opq (.frac (qdt a (vcq b c))),.pad,.pad,.pad,.pad]))
 | _=>none
theorem vDetS_eq (x y z):vDetS [x,y,z]=(rawV x).bind fun a=>(rawV y).bind fun b=>(rawV z).map fun c=>(fV a 8388608∧fV b 8388608∧fV c 8388608,(.agg [.opq (.frac (qdt a (vcq b c))),.pad,.pad,.pad,.pad])):=rfl
theorem vDetS_ok (hP:PrgOk P) (args p r) (he:vDetS args=some (p,r)) (hp:p):CSpec P 17 args r:=by
 unfold vDetS at he
 split at he
 · simp only [Option.bind_eq_some_iff,Option.map_eq_some_iff,Prod.mk.injEq] at he
   obtain ⟨a,h1,b,h2,c,h3,rfl,rfl⟩:=he
   rw [rawV_inv h1,rawV_inv h2,rawV_inv h3]
   exact vDet_spec hP a b c hp.1 hp.2.1 hp.2.2
 · simp at he
noncomputable def Vt4:Nat→List AV→Option (Prop × AV):=addS (addS Vt3 4 vIntsS) 17 vDetS
theorem Vt4_all (hP:PrgOk P) (T) (hT:TyOk P T):EnvOk P ⟨T,Vt4⟩:=(((Vt3_all hP T hT).add (vIntsS_ok hP)).add (vDetS_ok hP))
attribute [go_sem] vIntsS vDetS_eq
theorem Vt4_at (f a):Vt4 f a=(addS (addS Vt3 4 vIntsS) 17 vDetS) f a:=rfl
attribute [go_sem] Vt4_at
noncomputable def Vt5:Nat→List AV→Option (Prop × AV):=Vt4
theorem Vt5_all (hP:PrgOk P) (T) (hT:TyOk P T):EnvOk P ⟨T,Vt5⟩:=(Vt4_all hP T hT)
attribute [go_sem] Vt5
end Go.Proofs.Ytapddfjimhohcaa.AM
/- Lines: plain facts. -/
namespace Go.Proofs.Ytapddfjimhohcaa.AM
set_option linter.all false
set_option autoImplicit true
set_option relaxedAutoImplicit true
open Go Go.Proofs
set_option maxRecDepth 100000
noncomputable def ngV (a:V3):V3:=(qneg a.1,qneg a.2.1,qneg a.2.2)
noncomputable def nrm (d:V3):V3:=if cmpV (dirA d) v0<0 then ngV (dirA d) else dirA d
abbrev V4:=Rat × Rat × Rat × Rat
def m4 (h:V4):Nat:=lcmD (lcmD (lcmD (lcmD 1 h.1.den) h.2.1.den) h.2.2.1.den) h.2.2.2.den
def n4 (h:V4) (x:Rat):Int:=x.num*((m4 h / x.den:Nat):Int)
def l4 (h:V4):List Int:=[n4 h h.1,n4 h h.2.1,n4 h h.2.2.1,n4 h h.2.2.2]
def g4 (h:V4):Nat:=gcdL (l4 h)
def p4 (h:V4) (x:Rat):Int:=primZ (g4 h) (n4 h x)
def s4 (h:V4):Bool:=if h.1=0 then (if h.2.1=0 then decide (h.2.2.1<0) else decide (h.2.1<0)) else decide (h.1<0)
def q4 (h:V4) (x:Rat):Int:=if s4 h then -p4 h x else p4 h x
end Go.Proofs.Ytapddfjimhohcaa.AM
/- Angles: plain facts. -/
namespace Go.Proofs.Ytapddfjimhohcaa.AM
set_option linter.all false
set_option autoImplicit true
set_option relaxedAutoImplicit true
open Go Go.Proofs
set_option maxRecDepth 100000
set_option maxHeartbeats 4000000
theorem cmpQ_iff_pos {a:Rat}:cmpQ a 0=1 ↔ 0<a:=by
 rcases cmpQ_cases a 0 with ⟨h,e⟩|⟨h,e⟩|⟨h,e⟩<;>rw [e]<;>constructor<;>intro h'<;>first|(exfalso; revert h'; decide)|rfl|grind
theorem cmpQ_iff_0 {a:Rat}:cmpQ a 0=0 ↔ a=0:=by
 rcases cmpQ_cases a 0 with ⟨h,e⟩|⟨h,e⟩|⟨h,e⟩<;>rw [e]<;>constructor<;>intro h'<;>first|(exfalso; revert h'; decide)|rfl|grind
theorem cmpQ_3 (a:Rat):cmpQ a 0 = -1∨cmpQ a 0=0∨cmpQ a 0=1:=by
 rcases cmpQ_cases a 0 with ⟨h,e⟩|⟨h,e⟩|⟨h,e⟩<;>rw [e]<;>simp
def flE (n a:V3):V3:=vsb (vsc (vdt n n) a) (vsc (vdt n a) n)
def hfE (n f a:V3):Int:=if 0<vdet n f a∨(vdet n f a=0∧0<vdt f a) then 0 else 1
def anF (n f u v:V3):Int:=if hfE n f u ≠ hfE n f v then hfE n f u-hfE n f v else -cmpQ (vdet n u v) 0
def anE (n f u v:V3):Int:=if n=v0∨flE n f=v0∨flE n u=v0∨flE n v=v0 then 0 else anF n (flE n f) (flE n u) (flE n v)
theorem vcr_v0r (a:V3):vcr a v0=v0:=by rw [v0_iff]; unfold vcr v0; simp only []; exact ⟨by grind,by grind,by grind⟩
theorem vcr_v0l (a:V3):vcr v0 a=v0:=by rw [v0_iff]; unfold vcr v0; simp only []; exact ⟨by grind,by grind,by grind⟩
def A1 (l:List V3):Prop:=∀ x ∈ l,∀ y ∈ l,∀ z ∈ l,vcr (vsb y x) (vsb z x)=v0
def A2 (l:List V3):Prop:=∀ x ∈ l,∀ y ∈ l,∀ z ∈ l,∀ w ∈ l,vdet (vsb y x) (vsb z x) (vsb w x)=0
def same (l m:List V3):Prop:=∀ x,x ∈ l ↔ x ∈ m
def lessH:List V3→List V3
 | []=>[]
 | a::t=>t.map fun q=>vsb q a
noncomputable def dm (l:List V3):Nat:=rkN (lessH l)
theorem rk_le {l:List V3} {n:Nat} (h:Rk l n):n≤3:=by
 rcases h with ⟨e,_⟩|⟨e,_⟩|⟨e,_⟩|⟨e,_⟩<;>omega
theorem dm_le (l:List V3):dm l≤3:=rk_le (rkN_ok _)
theorem vsb_self (a:V3):vsb a a=v0:=by rw [v0_iff]; unfold vsb; simp only []; exact ⟨by grind,by grind,by grind⟩
end Go.Proofs.Ytapddfjimhohcaa.AM
/- The document's vectors. -/
namespace Go.Proofs.Ytapddfjimhohcaa.AM
set_option linter.all false
set_option autoImplicit true
set_option relaxedAutoImplicit true
open Go Go.Proofs
set_option maxRecDepth 100000
set_option maxHeartbeats 8000000
set_option linter.unusedSimpArgs false
variable {P:Program}
noncomputable def Xt0:Nat→List AV→Option (Prop × AV):=Vt5
theorem Xt0_all (hP:PrgOk P) (T) (hT:TyOk P T):EnvOk P ⟨T,Xt0⟩:=(Vt5_all hP T hT)
attribute [go_sem] Xt0
noncomputable def Xt1:Nat→List AV→Option (Prop × AV):=Xt0
theorem Xt1_all (hP:PrgOk P) (T) (hT:TyOk P T):EnvOk P ⟨T,Xt1⟩:=(Xt0_all hP T hT)
attribute [go_sem] Xt1
theorem wPrim_spec (hP:PrgOk P) (l:List Int) (hl:l.length≤1099511627776) (hb:∀ z ∈ l,wl z≤34359738368):CSpec P 66 [.imm l.length (cl wG l)] (.imm l.length (cl wG (primL l))):=by
 have HE:=Wt4_all hP T1 hP.t1
 refine CSpec.cv ?_ (.imm (.cl .GC l) .nil)
 have hgo:groundL [.imm l.length (cl wC l)]=true:=by simp only [groundL,onlyL,AV.only,cl_only,Bool.and_true]
 refine CSpec_vc (E:=⟨T1,Wt4⟩) (fn66 hP) HE hP.mix rfl hgo rfl (Nat.le_of_ble_eq_true rfl) ?_
 have hg:=gcdL_blen l hb
 have ho1:∀ L,objOnly L (.live [.imm l.length (cl wC l)])=true:=fun L=>by simp only [objOnly,onlyL,AV.only,cl_only,Bool.and_true]
 have hoX:∀ L,∀ o:List (Bool × Int),objOnly L (.live (cl wX o))=true:=fun L o=>by simp only [objOnly,cl_only]
 simp only [go_sem]
 refine icX_any 8 (each_ic hP (M:=fun i=>upd (upd (fun _=>.unused) 0 (.live [.imm l.length (cl wC l)])) 2 (.live [.opq (.nat (gcdL (l.take i))),.pad])) (L:=[2,0]) hl (fun _=>rfl) (fun i=>((GenM.nil.upd rfl (ho1 _)).upd rfl rfl)) rfl rfl (fun i hi K' k'=>?_) fun nx=>?_)
 · refine prim2_ic hP hi rfl (hb _ (List.getElem_mem hi)) (gcdL_blen _ fun z hz=>hb z (List.mem_of_mem_take hz)) fun nx m' hm=>k' nx m' ?_
   have e:gcdL (l.take (i+1))=Nat.gcd (gcdL (l.take i)) l[i].natAbs:=by
    rw [List.take_add_one,List.getElem?_eq_getElem hi]; exact gcdL_snoc _ _
   simp only [e]; exact hm
 have hta:l.take l.length=l:=List.take_length
 have hz:(List.replicate l.length [AV.bool false,.opq (.nat 0),.pad]).flatten=cl wX (List.replicate l.length (false,0)):=cl_repl (f:=wX) l.length (false,0)
 have hck:(cl wX (List.replicate l.length (false,(0:Int)))).all AV.ck=true:=cl_ck
 simp only [go_sem,hta,hl,hz,hck,upd_upd]
 have key:∀ i,i≤l.length→((l.take i).map (stP (gcdL l))++List.replicate (l.length-i) (false,0)).length=l.length:=fun i hi=>by
  rw [List.length_append,List.length_map,List.length_take,List.length_replicate]; omega
 refine icX_any 100 (each_ic hP (M:=fun i=>M3 l (gcdL l) ((l.take i).map (stP (gcdL l))++List.replicate (l.length-i) (false,0))) (L:=[11,10,2,0]) hl (fun _=>rfl) (fun i=>((((GenM.nil.upd rfl (ho1 _)).upd rfl rfl).upd rfl (hoX _ _)).upd rfl rfl)) rfl rfl (fun i hi K' k'=>?_) fun nx=>?_)
 · refine prim3_ic hP hi (key i (by omega)) rfl (hb _ (List.getElem_mem hi)) hg fun nx m' hm=>k' nx m' ?_
   have e:((l.take i).map (stP (gcdL l))++List.replicate (l.length-i) (false,0)).set i (stP (gcdL l) l[i])=(l.take (i+1)).map (stP (gcdL l))++List.replicate (l.length-(i+1)) (false,0):=by
    have h1:((l.take i).map (stP (gcdL l))).length=i:=by rw [List.length_map,List.length_take]; omega
    rw [List.set_append_right _ _ (by omega),h1,Nat.sub_self,List.take_add_one,List.getElem?_eq_getElem hi,Option.toList_some,List.map_append,List.append_assoc,show l.length-i=(l.length-(i+1))+1 by omega,List.replicate_succ]
    rfl
   rw [← e]; exact hm
 simp only [hta,Nat.sub_self,List.replicate_zero,List.append_nil]
 have hlx:(cl wX (l.map (stP (gcdL l)))).length=l.length*3:=by rw [cl_len,List.length_map]
 have htk:(cl wX (l.map (stP (gcdL l)))).take (l.length*3)=cl wX (l.map (stP (gcdL l))):=cl_all (by rw [List.length_map])
 have hhd:AV.head (cl wX (l.map (stP (gcdL l))))=true:=cl_head
 have hdd:(cl wX (l.map (stP (gcdL l)))).drop (l.length*3)=[]:=List.drop_of_length_le (by omega)
 have hon:onlyL (fun _=>false) (cl wX (l.map (stP (gcdL l))))=true:=cl_only _
 simp only [go_sem,hlx,htk,hhd,hdd,cl_fc,cl_fv,hon,Nat.le_refl]
 have e:primL l=(l.map (stP (gcdL l))).map Prod.snd:=by
  unfold primL; rw [List.map_map]; exact List.map_congr_left fun z _=>(stP_snd _ _).symm
 rw [e]; exact CvL.conv (.imm (CvL.clm .XG _) .nil)
def wPrim3S:List AV→Option (Prop × AV)
 | [.imm 3 [.opq (.whole x),.pad,.pad,.opq (.whole y),.pad,.pad,.opq (.whole z),.pad,.pad]]=>some (wl x≤34359738368∧wl y≤34359738368∧wl z≤34359738368,.imm 3 [.opq (.whole (primZ (gcdL [x,y,z]) x)),.pad,.pad,.opq (.whole (primZ (gcdL [x,y,z]) y)),.pad,.pad,.opq (.whole (primZ (gcdL [x,y,z]) z)),.pad,.pad])
 | _=>none
theorem wPrim3S_ok (hP:PrgOk P) (args p r) (h:wPrim3S args=some (p,r)) (hp:p):CSpec P 66 args r:=by
 unfold wPrim3S at h
 split at h
 · rename_i x y z
   simp only [Option.some.injEq,Prod.mk.injEq] at h
   obtain ⟨rfl,rfl⟩:=h
   exact wPrim_spec hP [x,y,z] (show 3≤_ by decide) (fun w hw=>by
    rcases List.mem_cons.1 hw with rfl|hw
    · exact hp.1
    · rcases List.mem_cons.1 hw with rfl|hw
      · exact hp.2.1
      · rw [List.mem_singleton.1 hw]; exact hp.2.2)
 · simp at h
def dirC:List AV→Option (Prop × AV)
 | [.int .i64 i,.fref [.imm 3 [.opq (.whole x),.pad,.pad,.opq (.whole y),.pad,.pad,.opq (.whole z),.pad,.pad]]]=>if i=0 then some (True,(.agg [.opq (.frac ((x:Rat))),.pad,.pad,.pad,.pad])) else if i=1 then some (True,(.agg [.opq (.frac ((y:Rat))),.pad,.pad,.pad,.pad])) else if i=2 then some (True,(.agg [.opq (.frac ((z:Rat))),.pad,.pad,.pad,.pad])) else none
 | _=>none
theorem dirC_0 (x y z):dirC [.int .i64 0,.fref [.imm 3 [.opq (.whole x),.pad,.pad,.opq (.whole y),.pad,.pad,.opq (.whole z),.pad,.pad]]]=some (True,(.agg [.opq (.frac ((x:Rat))),.pad,.pad,.pad,.pad])):=rfl
theorem dirC_1 (x y z):dirC [.int .i64 1,.fref [.imm 3 [.opq (.whole x),.pad,.pad,.opq (.whole y),.pad,.pad,.opq (.whole z),.pad,.pad]]]=some (True,(.agg [.opq (.frac ((y:Rat))),.pad,.pad,.pad,.pad])):=rfl
theorem dirC_2 (x y z):dirC [.int .i64 2,.fref [.imm 3 [.opq (.whole x),.pad,.pad,.opq (.whole y),.pad,.pad,.opq (.whole z),.pad,.pad]]]=some (True,(.agg [.opq (.frac ((z:Rat))),.pad,.pad,.pad,.pad])):=rfl
theorem dirC_ok (hP:PrgOk P) (args p r) (h:dirC args=some (p,r)) (hp:p):CSpec P 67 args r:=by
 have HE:=Xt1_all hP TF hP.tF
 have n1:(1:Int).toNat=1:=rfl
 have n2:(2:Int).toNat=2:=rfl
 unfold dirC at h
 split at h
 · rename_i i x y z
   split at h
   · rename_i e; subst e
     simp only [Option.some.injEq,Prod.mk.injEq] at h
     obtain ⟨_,rfl⟩:=h
     refine CSpec_go (E:=⟨TF,Xt1⟩) (fn67 hP) HE hP.mix ?_
     simp only [go_sem,n1,n2]
     exact fin_z
   · split at h
     · rename_i e; subst e
       simp only [Option.some.injEq,Prod.mk.injEq] at h
       obtain ⟨_,rfl⟩:=h
       refine CSpec_go (E:=⟨TF,Xt1⟩) (fn67 hP) HE hP.mix ?_
       simp only [go_sem,n1,n2]
       exact fin_z
     · split at h
       · rename_i e; subst e
         simp only [Option.some.injEq,Prod.mk.injEq] at h
         obtain ⟨_,rfl⟩:=h
         refine CSpec_go (E:=⟨TF,Xt1⟩) (fn67 hP) HE hP.mix ?_
         simp only [go_sem,n1,n2]
         exact fin_z
       · simp at h
 · simp at h
attribute [go_sem] wPrim3S dirC_0 dirC_1 dirC_2
noncomputable def Yt0:Nat→List AV→Option (Prop × AV):=addS (addS Xt1 66 wPrim3S) 67 dirC
theorem Yt0_all (hP:PrgOk P) (T) (hT:TyOk P T):EnvOk P ⟨T,Yt0⟩:=(((Xt1_all hP T hT).add (wPrim3S_ok hP)).add (dirC_ok hP))
theorem Yt0_at (f a):Yt0 f a=(addS (addS Xt1 66 wPrim3S) 67 dirC) f a:=rfl
attribute [go_sem] Yt0_at
theorem rr_app (s:St) (x y ts):readsR s (.call { callee:=.builtin .append,args:=#[x,y],argTypes:=ts })=ids (aev s x)++ids (aev s y):=by simp [readsR,reads,looks,Op.operands,Call.operands]
attribute [go_sem] rr_app
theorem gcd_ne {m d:Nat} (h:0<d):(Nat.gcd m d=0)=False:=eq_false (by have:=Nat.gcd_pos_of_pos_right m h; omega)
theorem vDir_spec (hP:PrgOk P) (a:V3) (ha:fV a 268435456):CSpec P 54 [(.agg [.opq (.frac (a.1)),.pad,.pad,.pad,.pad,.opq (.frac (a.2.1)),.pad,.pad,.pad,.pad,.opq (.frac (a.2.2)),.pad,.pad,.pad,.pad])] (.agg [.opq (.frac (((dV a a.1:Int):Rat))),.pad,.pad,.pad,.pad,.opq (.frac (((dV a a.2.1:Int):Rat))),.pad,.pad,.pad,.pad,.opq (.frac (((dV a a.2.2:Int):Rat))),.pad,.pad,.pad,.pad]):=by
 have HE:=Yt0_all hP TF hP.tF
 obtain ⟨x,y,z⟩:=a
 obtain ⟨h1,h2,h3⟩:=ha
 simp only [] at h1 h2 h3 ⊢
 have w1:IntKind.i64.wrap (0+1)=1:=rfl
 have w2:IntKind.i64.wrap (1+1)=2:=rfl
 have w3:IntKind.i64.wrap (2+1)=3:=rfl
 have n1:(1:Int).toNat=1:=rfl
 have n2:(2:Int).toNat=2:=rfl
 have le1:((0:Int)≤1)=True:=eq_true (by decide)
 have le2:((0:Int)≤2)=True:=eq_true (by decide)
 have b1:blen 1≤68719476736:=by decide
 obtain ⟨m1,hm1⟩:∃ m,1*(x.den / Nat.gcd 1 x.den)=m:=⟨_,rfl⟩
 obtain ⟨m2,hm2⟩:∃ m,m1*(y.den / Nat.gcd m1 y.den)=m:=⟨_,rfl⟩
 obtain ⟨m3,hm3⟩:∃ m,m2*(z.den / Nat.gcd m2 z.den)=m:=⟨_,rfl⟩
 have hmV:mV (x,y,z)=m3:=by rw [← hm3,← hm2,← hm1]; rfl
 have d1:=fl_den h1
 have d2:=fl_den h2
 have d3:=fl_den h3
 have c1:blen m1≤1+268435456:=by rw [← hm1]; exact lcmD_blen (show blen 1≤1 by decide) d1
 have c2:blen m2≤1+268435456+268435456:=by rw [← hm2]; exact lcmD_blen c1 d2
 have c3:blen m3≤1+268435456+268435456+268435456:=by rw [← hm3]; exact lcmD_blen c2 d3
 have lt:(1+268435456+268435456+268435456:Nat)≤34359738368:=by decide
 have e1:blen x.den≤34359738368:=by omega
 have e2:blen y.den≤34359738368:=by omega
 have e3:blen z.den≤34359738368:=by omega
 have f1:blen x.den≤68719476736:=by omega
 have f2:blen y.den≤68719476736:=by omega
 have f3:blen z.den≤68719476736:=by omega
 have k1:blen m1≤68719476736:=by omega
 have k2:blen m2≤68719476736:=by omega
 have k3:blen m3≤68719476736:=by omega
 have g1:blen (Nat.gcd 1 x.den)≤68719476736:=gcd_blen b1 f1
 have g2:blen (Nat.gcd m1 y.den)≤68719476736:=gcd_blen k1 f2
 have g3:blen (Nat.gcd m2 z.den)≤68719476736:=gcd_blen k2 f3
 have z1:=gcd_ne (m:=1) x.den_pos
 have z2:=gcd_ne (m:=m1) y.den_pos
 have z3:=gcd_ne (m:=m2) z.den_pos
 have q1:blen (x.den / Nat.gcd 1 x.den)≤68719476736:=blen_le_of (Nat.div_le_self _ _) f1
 have q2:blen (y.den / Nat.gcd m1 y.den)≤68719476736:=blen_le_of (Nat.div_le_self _ _) f2
 have q3:blen (z.den / Nat.gcd m2 z.den)≤68719476736:=blen_le_of (Nat.div_le_self _ _) f3
 have o1:(x.den=0)=False:=eq_false x.den_nz
 have o2:(y.den=0)=False:=eq_false y.den_nz
 have o3:(z.den=0)=False:=eq_false z.den_nz
 have r1:blen (m3 / x.den)≤34359738368:=blen_le_of (Nat.div_le_self _ _) (by omega)
 have r2:blen (m3 / y.den)≤34359738368:=blen_le_of (Nat.div_le_self _ _) (by omega)
 have r3:blen (m3 / z.den)≤34359738368:=blen_le_of (Nat.div_le_self _ _) (by omega)
 have s1:wl x.num≤34359738368:=Nat.le_trans (fl_num h1) (by decide)
 have s2:wl y.num≤34359738368:=Nat.le_trans (fl_num h2) (by decide)
 have s3:wl z.num≤34359738368:=Nat.le_trans (fl_num h3) (by decide)
 have t1:wl ((m3 / x.den:Nat):Int)≤34359738368:=r1
 have t2:wl ((m3 / y.den:Nat):Int)≤34359738368:=r2
 have t3:wl ((m3 / z.den:Nat):Int)≤34359738368:=r3
 have u0:∀ d:Nat,wl ((m3 / d:Nat):Int)≤1+268435456+268435456+268435456:=fun d=>blen_le_of (Nat.div_le_self _ _) c3
 have u1:wl (x.num*((m3 / x.den:Nat):Int))≤34359738368:=Nat.le_trans (wl_mul (fl_num h1) (u0 _)) (by decide)
 have u2:wl (y.num*((m3 / y.den:Nat):Int))≤34359738368:=Nat.le_trans (wl_mul (fl_num h2) (u0 _)) (by decide)
 have u3:wl (z.num*((m3 / z.den:Nat):Int))≤34359738368:=Nat.le_trans (wl_mul (fl_num h3) (u0 _)) (by decide)
 unfold dV gV nV
 rw [hmV]
 simp only []
 refine CSpec_go (E:=⟨TF,Yt0⟩) (fn54 hP) HE hP.mix ?_
 simp only [go_sem,le1]
 refine trX_once HE hP.mix 62 150 (by kernel_rfl) ?_
 simp only [go_sem,w1,n1,le1,b1,e1,f1,g1,z1,q1,hm1]
 refine goX_once HE hP.mix 62 200 (by kernel_rfl) ?_
 simp only [go_sem,w2,n1,le1,e2,f2,k1,g2,z2,q2,hm2]
 refine goX_once HE hP.mix 62 250 (by kernel_rfl) ?_
 simp only [go_sem,w3,n2,le2,e3,f3,k2,g3,z3,q3,hm3]
 refine goX_once HE hP.mix 62 300 (by kernel_rfl) ?_
 simp only [go_sem]
 refine trX_once HE hP.mix 62 400 (by kernel_rfl) ?_
 have v1:blen (m3 / x.den)≤68719476736:=Nat.le_trans r1 (by decide)
 have v2:blen (m3 / y.den)≤68719476736:=Nat.le_trans r2 (by decide)
 have v3:blen (m3 / z.den)≤68719476736:=Nat.le_trans r3 (by decide)
 simp only [go_sem,v1,w1,e1,f1,k3,o1,r1,s1,t1,sg_f,ne_eq,not_false_eq_true,imp_self]
 refine goX_once HE hP.mix 62 500 (by kernel_rfl) ?_
 simp only [go_sem,v2,w2,n1,le1,e2,f2,k3,o2,r2,s2,t2,sg_f,ne_eq,not_false_eq_true,imp_self]
 refine ⟨by simp,?_⟩
 refine goX_once HE hP.mix 62 600 (by kernel_rfl) ?_
 simp only [go_sem,v3,w3,n2,le2,e3,f3,k3,o3,r3,s3,t3,sg_f,ne_eq,not_false_eq_true,imp_self]
 refine ⟨by simp,?_⟩
 refine goX_once HE hP.mix 62 700 (by kernel_rfl) ?_
 simp only [go_sem,u1,u2,u3]
 refine icX_vc (E:=⟨TF,Yt0⟩) (fn20 hP) HE hP.mix rfl rfl (Nat.le_of_ble_eq_true rfl) 100 ?_
 have w1:IntKind.i64.wrap (0+1)=1:=rfl
 have w2:IntKind.i64.wrap (1+1)=2:=rfl
 have w3:IntKind.i64.wrap (2+1)=3:=rfl
 have n1:(1:Int).toNat=1:=rfl
 have n2:(2:Int).toNat=2:=rfl
 simp only [go_sem]
 refine trX_once HE hP.mix 15 150 (by kernel_rfl) ?_
 simp only [go_sem,w1,le1]
 refine goX_once HE hP.mix 15 200 (by kernel_rfl) ?_
 simp only [go_sem,w2,n1,le1]
 try refine ⟨by decide,?_⟩
 refine goX_once HE hP.mix 15 250 (by kernel_rfl) ?_
 simp only [go_sem,w3,n2,le1]
 try refine ⟨by decide,?_⟩
 refine goX_once HE hP.mix 15 300 (by kernel_rfl) ?_
 simp only [go_sem]
 unfold finX
 simp only [go_sem]
 exact .refl _
noncomputable def vDirS:List AV→Option (Prop × AV):=onV1 fun a=>(fV a 268435456,(.agg [.opq (.frac ((dirA a).1)),.pad,.pad,.pad,.pad,.opq (.frac ((dirA a).2.1)),.pad,.pad,.pad,.pad,.opq (.frac ((dirA a).2.2)),.pad,.pad,.pad,.pad]))
theorem vDirS_ok (hP:PrgOk P) (args p r):vDirS args=some (p,r)→p→CSpec P 54 args r:=onV1_ok (fun a h=>by exact vDir_spec hP a h) args p r
end Go.Proofs.Ytapddfjimhohcaa.AM
