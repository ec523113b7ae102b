/- Package vec: number by number. -/
import Derived.Test.YtapddfjimhohcaaGreatDoorB7
import Derived.Test.YtapddfjimhohcaaGreatDoorB6
namespace Go.Proofs.YtapddfjimhohcaaGreatDoor.AM
set_option linter.all false
set_option autoImplicit true
set_option relaxedAutoImplicit true
open Go Go.Proofs
set_option maxRecDepth 100000
set_option maxHeartbeats 8000000
set_option linter.unusedSimpArgs false
variable {P:Program}
def cells3:List AV→Option V3
 | [.opq (.frac (x)),.pad,.pad,.pad,.pad,.opq (.frac (y)),.pad,.pad,.pad,.pad,.opq (.frac (z)),.pad,.pad,.pad,.pad]=>some (x,y,z)
 | _=>none
theorem cells3_eq (x y z):cells3 [.opq (.frac (x)),.pad,.pad,.pad,.pad,.opq (.frac (y)),.pad,.pad,.pad,.pad,.opq (.frac (z)),.pad,.pad,.pad,.pad]=some (x,y,z):=rfl
theorem cells3_inv {A:List AV} {a:V3} (h:cells3 A=some a):A=[.opq (.frac (a.1)),.pad,.pad,.pad,.pad,.opq (.frac (a.2.1)),.pad,.pad,.pad,.pad,.opq (.frac (a.2.2)),.pad,.pad,.pad,.pad]:=by
 unfold cells3 at h
 split at h
 · simp only [Option.some.injEq] at h; subst h; rfl
 · simp at h
def rawV:AV→Option V3
 | .agg A=>cells3 A
 | _=>none
theorem rawV_eq (A):rawV (.agg A)=cells3 A:=rfl
theorem rawV_inv {v:AV} {a:V3} (h:rawV v=some a):v=(.agg [.opq (.frac (a.1)),.pad,.pad,.pad,.pad,.opq (.frac (a.2.1)),.pad,.pad,.pad,.pad,.opq (.frac (a.2.2)),.pad,.pad,.pad,.pad]):=by
 unfold rawV at h
 split at h
 · rw [cells3_inv h]
 · simp at h
def fV (a:V3) (n:Nat):Prop:=fl a.1≤n∧fl a.2.1≤n∧fl a.2.2≤n
theorem fV_eq (x y z n):fV (x,y,z) n=(fl x≤n∧fl y≤n∧fl z≤n):=rfl
noncomputable def onV1 (f:V3→Prop × AV):List AV→Option (Prop × AV)
 | [x]=>(rawV x).map f
 | _=>none
noncomputable def onV2 (f:V3→V3→Prop × AV):List AV→Option (Prop × AV)
 | [x,y]=>(rawV x).bind fun a=>(rawV y).map fun b=>f a b
 | _=>none
theorem onV1_eq (f x):onV1 f [x]=(rawV x).map f:=rfl
theorem onV2_eq (f x y):onV2 f [x,y]=(rawV x).bind fun a=>(rawV y).map fun b=>f a b:=rfl
theorem onV1_ok {fi:Nat} {f:V3→Prop × AV} (h:∀ a,(f a).1→CSpec P fi [(.agg [.opq (.frac (a.1)),.pad,.pad,.pad,.pad,.opq (.frac (a.2.1)),.pad,.pad,.pad,.pad,.opq (.frac (a.2.2)),.pad,.pad,.pad,.pad])] (f a).2) (args p r) (he:onV1 f args=some (p,r)) (hp:p):CSpec P fi args r:=by
 unfold onV1 at he
 split at he
 · simp only [Option.map_eq_some_iff] at he
   obtain ⟨a,h1,h2⟩:=he
   have:=h a (by rw [h2]; exact hp)
   rw [h2] at this; rw [rawV_inv h1]; exact this
 · simp at he
theorem onV2_ok {fi:Nat} {f:V3→V3→Prop × AV} (h:∀ a b,(f a b).1→CSpec P fi [(.agg [.opq (.frac (a.1)),.pad,.pad,.pad,.pad,.opq (.frac (a.2.1)),.pad,.pad,.pad,.pad,.opq (.frac (a.2.2)),.pad,.pad,.pad,.pad]),(.agg [.opq (.frac (b.1)),.pad,.pad,.pad,.pad,.opq (.frac (b.2.1)),.pad,.pad,.pad,.pad,.opq (.frac (b.2.2)),.pad,.pad,.pad,.pad])] (f a b).2) (args p r) (he:onV2 f args=some (p,r)) (hp:p):CSpec P fi args r:=by
 unfold onV2 at he
 split at he
 · simp only [Option.bind_eq_some_iff,Option.map_eq_some_iff] at he
   obtain ⟨a,h1,b,h3,h2⟩:=he
   have:=h a b (by rw [h2]; exact hp)
   rw [h2] at this; rw [rawV_inv h1,rawV_inv h3]; exact this
 · simp at he
noncomputable def cl2 (f:Rat→Rat→Prop × AV):List AV→Option (Prop × AV)
 | [.int .i64 i,.fref A,.fref B]=>(cells3 A).bind fun a=>(cells3 B).bind fun b=>if i=0 then some (f a.1 b.1) else if i=1 then some (f a.2.1 b.2.1) else if i=2 then some (f a.2.2 b.2.2) else none
 | _=>none
theorem cl2_0 (f A B):cl2 f [.int .i64 0,.fref A,.fref B]=(cells3 A).bind fun a=>(cells3 B).bind fun b=>some (f a.1 b.1):=rfl
theorem cl2_1 (f A B):cl2 f [.int .i64 1,.fref A,.fref B]=(cells3 A).bind fun a=>(cells3 B).bind fun b=>some (f a.2.1 b.2.1):=rfl
theorem cl2_2 (f A B):cl2 f [.int .i64 2,.fref A,.fref B]=(cells3 A).bind fun a=>(cells3 B).bind fun b=>some (f a.2.2 b.2.2):=rfl
theorem cl2_ok {fi:Nat} {f:Rat→Rat→Prop × AV}
 (h0:∀ a b:V3,(f a.1 b.1).1→CSpec P fi [.int .i64 0,.fref [.opq (.frac (a.1)),.pad,.pad,.pad,.pad,.opq (.frac (a.2.1)),.pad,.pad,.pad,.pad,.opq (.frac (a.2.2)),.pad,.pad,.pad,.pad],.fref [.opq (.frac (b.1)),.pad,.pad,.pad,.pad,.opq (.frac (b.2.1)),.pad,.pad,.pad,.pad,.opq (.frac (b.2.2)),.pad,.pad,.pad,.pad]] (f a.1 b.1).2)
 (h1:∀ a b:V3,(f a.2.1 b.2.1).1→CSpec P fi [.int .i64 1,.fref [.opq (.frac (a.1)),.pad,.pad,.pad,.pad,.opq (.frac (a.2.1)),.pad,.pad,.pad,.pad,.opq (.frac (a.2.2)),.pad,.pad,.pad,.pad],.fref [.opq (.frac (b.1)),.pad,.pad,.pad,.pad,.opq (.frac (b.2.1)),.pad,.pad,.pad,.pad,.opq (.frac (b.2.2)),.pad,.pad,.pad,.pad]] (f a.2.1 b.2.1).2)
 (h2:∀ a b:V3,(f a.2.2 b.2.2).1→CSpec P fi [.int .i64 2,.fref [.opq (.frac (a.1)),.pad,.pad,.pad,.pad,.opq (.frac (a.2.1)),.pad,.pad,.pad,.pad,.opq (.frac (a.2.2)),.pad,.pad,.pad,.pad],.fref [.opq (.frac (b.1)),.pad,.pad,.pad,.pad,.opq (.frac (b.2.1)),.pad,.pad,.pad,.pad,.opq (.frac (b.2.2)),.pad,.pad,.pad,.pad]] (f a.2.2 b.2.2).2)
 (args p r) (he:cl2 f args=some (p,r)) (hp:p):CSpec P fi args r:=by
 unfold cl2 at he
 split at he
 · rename_i i A B
   simp only [Option.bind_eq_some_iff] at he
   obtain ⟨a,ha,b,hb,he⟩:=he
   rw [cells3_inv ha,cells3_inv hb]
   split at he
   · rename_i e; subst e
     have e:=Option.some.inj he
     have:=h0 a b (by rw [e]; exact hp)
     rw [e] at this; exact this
   · split at he
     · rename_i e; subst e
       have e:=Option.some.inj he
       have:=h1 a b (by rw [e]; exact hp)
       rw [e] at this; exact this
     · split at he
       · rename_i e; subst e
         have e:=Option.some.inj he
         have:=h2 a b (by rw [e]; exact hp)
         rw [e] at this; exact this
       · simp at he
 · simp at he
attribute [go_sem] cells3_eq rawV_eq fV_eq onV1_eq onV2_eq cl2_0 cl2_1 cl2_2
theorem vAddC_ok (hP:PrgOk P) (args p r):cl2 (fun x y=>(fl x≤FB∧fl y≤FB,(.agg [.opq (.frac (qadd x y)),.pad,.pad,.pad,.pad]))) args=some (p,r)→p→CSpec P 52 args r:=by
 have HE:=Jt0_all hP TF hP.tF
 refine cl2_ok (fun a b h=>?_) (fun a b h=>?_) (fun a b h=>?_) args p r
 all_goals
  have i1:=h.1
  have i2:=h.2
  have n1:(1:Int).toNat=1:=rfl
  have n2:(2:Int).toNat=2:=rfl
  refine CSpec_go (E:=⟨TF,Jt0⟩) (fn52 hP) HE hP.mix ?_
  simp only [go_sem,i1,i2,n1,n2]
  exact fin_z
noncomputable def vAddC:List AV→Option (Prop × AV):=cl2 (fun x y=>(fl x≤FB∧fl y≤FB,(.agg [.opq (.frac (qadd x y)),.pad,.pad,.pad,.pad])))
attribute [go_sem] vAddC
theorem vSubC_ok (hP:PrgOk P) (args p r):cl2 (fun x y=>(fl x≤FB∧fl y≤FB,(.agg [.opq (.frac (qsub x y)),.pad,.pad,.pad,.pad]))) args=some (p,r)→p→CSpec P 90 args r:=by
 have HE:=Jt0_all hP TF hP.tF
 refine cl2_ok (fun a b h=>?_) (fun a b h=>?_) (fun a b h=>?_) args p r
 all_goals
  have i1:=h.1
  have i2:=h.2
  have n1:(1:Int).toNat=1:=rfl
  have n2:(2:Int).toNat=2:=rfl
  refine CSpec_go (E:=⟨TF,Jt0⟩) (fn90 hP) HE hP.mix ?_
  simp only [go_sem,i1,i2,n1,n2]
  exact fin_z
noncomputable def vSubC:List AV→Option (Prop × AV):=cl2 (fun x y=>(fl x≤FB∧fl y≤FB,(.agg [.opq (.frac (qsub x y)),.pad,.pad,.pad,.pad])))
attribute [go_sem] vSubC
noncomputable def Vt0:Nat→List AV→Option (Prop × AV):=addS (addS Jt0 52 vAddC) 90 vSubC
theorem Vt0_all (hP:PrgOk P) (T) (hT:TyOk P T):EnvOk P ⟨T,Vt0⟩:=(((Jt0_all hP T hT).add (vAddC_ok hP)).add (vSubC_ok hP))
theorem Vt0_at (f a):Vt0 f a=(addS (addS Jt0 52 vAddC) 90 vSubC) f a:=rfl
attribute [go_sem] Vt0_at
theorem vAdd_spec (hP:PrgOk P) (a b:V3) (ha:fV a FB) (hb:fV b FB):CSpec P 23 [(.agg [.opq (.frac (a.1)),.pad,.pad,.pad,.pad,.opq (.frac (a.2.1)),.pad,.pad,.pad,.pad,.opq (.frac (a.2.2)),.pad,.pad,.pad,.pad]),(.agg [.opq (.frac (b.1)),.pad,.pad,.pad,.pad,.opq (.frac (b.2.1)),.pad,.pad,.pad,.pad,.opq (.frac (b.2.2)),.pad,.pad,.pad,.pad])] (.agg [.opq (.frac (qadd a.1 b.1)),.pad,.pad,.pad,.pad,.opq (.frac (qadd a.2.1 b.2.1)),.pad,.pad,.pad,.pad,.opq (.frac (qadd a.2.2 b.2.2)),.pad,.pad,.pad,.pad]):=by
 have HE:=Vt0_all hP TF hP.tF
 obtain ⟨a1,a2,a3⟩:=ha
 obtain ⟨b1,b2,b3⟩:=hb
 refine CSpec_go (E:=⟨TF,Vt0⟩) (fn23 hP) HE hP.mix ?_
 simp only [go_sem]
 refine icX_vc (E:=⟨TF,Vt0⟩) (fn51 hP) HE hP.mix rfl rfl (Nat.le_of_ble_eq_true rfl) 100 ?_
 have w1:IntKind.i64.wrap (0+1)=1:=rfl
 have w2:IntKind.i64.wrap (1+1)=2:=rfl
 have w3:IntKind.i64.wrap (2+1)=3:=rfl
 have n1:(1:Int).toNat=1:=rfl
 have n2:(2:Int).toNat=2:=rfl
 simp only [go_sem]
 refine trX_once HE hP.mix 15 150 (by kernel_rfl) ?_
 simp only [go_sem,w1,a1,a2,a3,b1,b2,b3]
 refine goX_once HE hP.mix 15 200 (by kernel_rfl) ?_
 simp only [go_sem,w2,n1,a1,a2,a3,b1,b2,b3]
 refine ⟨by decide,?_⟩
 refine goX_once HE hP.mix 15 250 (by kernel_rfl) ?_
 simp only [go_sem,w3,n2,a1,a2,a3,b1,b2,b3]
 refine ⟨by decide,?_⟩
 refine goX_once HE hP.mix 15 300 (by kernel_rfl) ?_
 simp only [go_sem]
 unfold finX
 simp only [go_sem]
 exact .refl _
noncomputable def vAddS:List AV→Option (Prop × AV):=onV2 fun a b=>(fV a FB∧fV b FB,(.agg [.opq (.frac (qadd a.1 b.1)),.pad,.pad,.pad,.pad,.opq (.frac (qadd a.2.1 b.2.1)),.pad,.pad,.pad,.pad,.opq (.frac (qadd a.2.2 b.2.2)),.pad,.pad,.pad,.pad]))
theorem vAddS_ok (hP:PrgOk P) (args p r):vAddS args=some (p,r)→p→CSpec P 23 args r:=onV2_ok (fun a b h=>by exact vAdd_spec hP a b h.1 h.2) args p r
attribute [go_sem] vAddS
theorem vSub_spec (hP:PrgOk P) (a b:V3) (ha:fV a FB) (hb:fV b FB):CSpec P 46 [(.agg [.opq (.frac (a.1)),.pad,.pad,.pad,.pad,.opq (.frac (a.2.1)),.pad,.pad,.pad,.pad,.opq (.frac (a.2.2)),.pad,.pad,.pad,.pad]),(.agg [.opq (.frac (b.1)),.pad,.pad,.pad,.pad,.opq (.frac (b.2.1)),.pad,.pad,.pad,.pad,.opq (.frac (b.2.2)),.pad,.pad,.pad,.pad])] (.agg [.opq (.frac (qsub a.1 b.1)),.pad,.pad,.pad,.pad,.opq (.frac (qsub a.2.1 b.2.1)),.pad,.pad,.pad,.pad,.opq (.frac (qsub a.2.2 b.2.2)),.pad,.pad,.pad,.pad]):=by
 have HE:=Vt0_all hP TF hP.tF
 obtain ⟨a1,a2,a3⟩:=ha
 obtain ⟨b1,b2,b3⟩:=hb
 refine CSpec_go (E:=⟨TF,Vt0⟩) (fn46 hP) HE hP.mix ?_
 simp only [go_sem]
 refine icX_vc (E:=⟨TF,Vt0⟩) (fn51 hP) HE hP.mix rfl rfl (Nat.le_of_ble_eq_true rfl) 100 ?_
 have w1:IntKind.i64.wrap (0+1)=1:=rfl
 have w2:IntKind.i64.wrap (1+1)=2:=rfl
 have w3:IntKind.i64.wrap (2+1)=3:=rfl
 have n1:(1:Int).toNat=1:=rfl
 have n2:(2:Int).toNat=2:=rfl
 simp only [go_sem]
 refine trX_once HE hP.mix 15 150 (by kernel_rfl) ?_
 simp only [go_sem,w1,a1,a2,a3,b1,b2,b3]
 refine goX_once HE hP.mix 15 200 (by kernel_rfl) ?_
 simp only [go_sem,w2,n1,a1,a2,a3,b1,b2,b3]
 refine ⟨by decide,?_⟩
 refine goX_once HE hP.mix 15 250 (by kernel_rfl) ?_
 simp only [go_sem,w3,n2,a1,a2,a3,b1,b2,b3]
 refine ⟨by decide,?_⟩
 refine goX_once HE hP.mix 15 300 (by kernel_rfl) ?_
 simp only [go_sem]
 unfold finX
 simp only [go_sem]
 exact .refl _
noncomputable def vSubS:List AV→Option (Prop × AV):=onV2 fun a b=>(fV a FB∧fV b FB,(.agg [.opq (.frac (qsub a.1 b.1)),.pad,.pad,.pad,.pad,.opq (.frac (qsub a.2.1 b.2.1)),.pad,.pad,.pad,.pad,.opq (.frac (qsub a.2.2 b.2.2)),.pad,.pad,.pad,.pad]))
theorem vSubS_ok (hP:PrgOk P) (args p r):vSubS args=some (p,r)→p→CSpec P 46 args r:=onV2_ok (fun a b h=>by exact vSub_spec hP a b h.1 h.2) args p r
attribute [go_sem] vSubS
theorem q0add (a:Rat):qadd 0 a=a:=by rw [qadd_eq]; grind
noncomputable def cl1 (f:Rat→Prop × AV):List AV→Option (Prop × AV)
 | [.int .i64 i,.fref A]=>(cells3 A).bind fun a=>if i=0 then some (f a.1) else if i=1 then some (f a.2.1) else if i=2 then some (f a.2.2) else none
 | _=>none
theorem cl1_0 (f A):cl1 f [.int .i64 0,.fref A]=(cells3 A).bind fun a=>some (f a.1):=rfl
theorem cl1_1 (f A):cl1 f [.int .i64 1,.fref A]=(cells3 A).bind fun a=>some (f a.2.1):=rfl
theorem cl1_2 (f A):cl1 f [.int .i64 2,.fref A]=(cells3 A).bind fun a=>some (f a.2.2):=rfl
noncomputable def clk (f:Rat→Rat→Prop × AV):List AV→Option (Prop × AV)
 | [.int .i64 i,.fref [.opq (.frac k),.pad,.pad,.pad,.pad],.fref A]=>(cells3 A).bind fun a=>if i=0 then some (f k a.1) else if i=1 then some (f k a.2.1) else if i=2 then some (f k a.2.2) else none
 | _=>none
theorem clk_0 (f k A):clk f [.int .i64 0,.fref [.opq (.frac k),.pad,.pad,.pad,.pad],.fref A]=(cells3 A).bind fun a=>some (f k a.1):=rfl
theorem clk_1 (f k A):clk f [.int .i64 1,.fref [.opq (.frac k),.pad,.pad,.pad,.pad],.fref A]=(cells3 A).bind fun a=>some (f k a.2.1):=rfl
theorem clk_2 (f k A):clk f [.int .i64 2,.fref [.opq (.frac k),.pad,.pad,.pad,.pad],.fref A]=(cells3 A).bind fun a=>some (f k a.2.2):=rfl
noncomputable def clx (f g h:V3→V3→Prop × AV):List AV→Option (Prop × AV)
 | [.int .i64 i,.fref A,.fref B]=>(cells3 A).bind fun a=>(cells3 B).bind fun b=>if i=0 then some (f a b) else if i=1 then some (g a b) else if i=2 then some (h a b) else none
 | _=>none
theorem clx_0 (f g h A B):clx f g h [.int .i64 0,.fref A,.fref B]=(cells3 A).bind fun a=>(cells3 B).bind fun b=>some (f a b):=rfl
theorem clx_1 (f g h A B):clx f g h [.int .i64 1,.fref A,.fref B]=(cells3 A).bind fun a=>(cells3 B).bind fun b=>some (g a b):=rfl
theorem clx_2 (f g h A B):clx f g h [.int .i64 2,.fref A,.fref B]=(cells3 A).bind fun a=>(cells3 B).bind fun b=>some (h a b):=rfl
theorem cl1_ok {fi:Nat} {f:Rat→Prop × AV}
 (h0:∀ a:V3,(f a.1).1→CSpec P fi [.int .i64 0,.fref [.opq (.frac (a.1)),.pad,.pad,.pad,.pad,.opq (.frac (a.2.1)),.pad,.pad,.pad,.pad,.opq (.frac (a.2.2)),.pad,.pad,.pad,.pad]] (f a.1).2)
 (h1:∀ a:V3,(f a.2.1).1→CSpec P fi [.int .i64 1,.fref [.opq (.frac (a.1)),.pad,.pad,.pad,.pad,.opq (.frac (a.2.1)),.pad,.pad,.pad,.pad,.opq (.frac (a.2.2)),.pad,.pad,.pad,.pad]] (f a.2.1).2)
 (h2:∀ a:V3,(f a.2.2).1→CSpec P fi [.int .i64 2,.fref [.opq (.frac (a.1)),.pad,.pad,.pad,.pad,.opq (.frac (a.2.1)),.pad,.pad,.pad,.pad,.opq (.frac (a.2.2)),.pad,.pad,.pad,.pad]] (f a.2.2).2)
 (args p r) (he:cl1 f args=some (p,r)) (hp:p):CSpec P fi args r:=by
 unfold cl1 at he
 split at he
 · rename_i i A
   simp only [Option.bind_eq_some_iff] at he
   obtain ⟨a,ha,he⟩:=he
   rw [cells3_inv ha]
   split at he
   · rename_i e; subst e
     have e:=Option.some.inj he
     have:=h0 a (by rw [e]; exact hp)
     rw [e] at this; exact this
   · split at he
     · rename_i e; subst e
       have e:=Option.some.inj he
       have:=h1 a (by rw [e]; exact hp)
       rw [e] at this; exact this
     · split at he
       · rename_i e; subst e
         have e:=Option.some.inj he
         have:=h2 a (by rw [e]; exact hp)
         rw [e] at this; exact this
       · simp at he
 · simp at he
theorem clk_ok {fi:Nat} {f:Rat→Rat→Prop × AV}
 (h0:∀ (k:Rat) (a:V3),(f k a.1).1→CSpec P fi [.int .i64 0,.fref [.opq (.frac k),.pad,.pad,.pad,.pad],.fref [.opq (.frac (a.1)),.pad,.pad,.pad,.pad,.opq (.frac (a.2.1)),.pad,.pad,.pad,.pad,.opq (.frac (a.2.2)),.pad,.pad,.pad,.pad]] (f k a.1).2)
 (h1:∀ (k:Rat) (a:V3),(f k a.2.1).1→CSpec P fi [.int .i64 1,.fref [.opq (.frac k),.pad,.pad,.pad,.pad],.fref [.opq (.frac (a.1)),.pad,.pad,.pad,.pad,.opq (.frac (a.2.1)),.pad,.pad,.pad,.pad,.opq (.frac (a.2.2)),.pad,.pad,.pad,.pad]] (f k a.2.1).2)
 (h2:∀ (k:Rat) (a:V3),(f k a.2.2).1→CSpec P fi [.int .i64 2,.fref [.opq (.frac k),.pad,.pad,.pad,.pad],.fref [.opq (.frac (a.1)),.pad,.pad,.pad,.pad,.opq (.frac (a.2.1)),.pad,.pad,.pad,.pad,.opq (.frac (a.2.2)),.pad,.pad,.pad,.pad]] (f k a.2.2).2)
 (args p r) (he:clk f args=some (p,r)) (hp:p):CSpec P fi args r:=by
 unfold clk at he
 split at he
 · rename_i i k A
   simp only [Option.bind_eq_some_iff] at he
   obtain ⟨a,ha,he⟩:=he
   rw [cells3_inv ha]
   split at he
   · rename_i e; subst e
     have e:=Option.some.inj he
     have:=h0 k a (by rw [e]; exact hp)
     rw [e] at this; exact this
   · split at he
     · rename_i e; subst e
       have e:=Option.some.inj he
       have:=h1 k a (by rw [e]; exact hp)
       rw [e] at this; exact this
     · split at he
       · rename_i e; subst e
         have e:=Option.some.inj he
         have:=h2 k a (by rw [e]; exact hp)
         rw [e] at this; exact this
       · simp at he
 · simp at he
theorem clx_ok {fi:Nat} {f g h:V3→V3→Prop × AV}
 (h0:∀ a b:V3,(f a b).1→CSpec P fi [.int .i64 0,.fref [.opq (.frac (a.1)),.pad,.pad,.pad,.pad,.opq (.frac (a.2.1)),.pad,.pad,.pad,.pad,.opq (.frac (a.2.2)),.pad,.pad,.pad,.pad],.fref [.opq (.frac (b.1)),.pad,.pad,.pad,.pad,.opq (.frac (b.2.1)),.pad,.pad,.pad,.pad,.opq (.frac (b.2.2)),.pad,.pad,.pad,.pad]] (f a b).2)
 (h1:∀ a b:V3,(g a b).1→CSpec P fi [.int .i64 1,.fref [.opq (.frac (a.1)),.pad,.pad,.pad,.pad,.opq (.frac (a.2.1)),.pad,.pad,.pad,.pad,.opq (.frac (a.2.2)),.pad,.pad,.pad,.pad],.fref [.opq (.frac (b.1)),.pad,.pad,.pad,.pad,.opq (.frac (b.2.1)),.pad,.pad,.pad,.pad,.opq (.frac (b.2.2)),.pad,.pad,.pad,.pad]] (g a b).2)
 (h2:∀ a b:V3,(h a b).1→CSpec P fi [.int .i64 2,.fref [.opq (.frac (a.1)),.pad,.pad,.pad,.pad,.opq (.frac (a.2.1)),.pad,.pad,.pad,.pad,.opq (.frac (a.2.2)),.pad,.pad,.pad,.pad],.fref [.opq (.frac (b.1)),.pad,.pad,.pad,.pad,.opq (.frac (b.2.1)),.pad,.pad,.pad,.pad,.opq (.frac (b.2.2)),.pad,.pad,.pad,.pad]] (h a b).2)
 (args p r) (he:clx f g h args=some (p,r)) (hp:p):CSpec P fi args r:=by
 unfold clx at he
 split at he
 · rename_i i A B
   simp only [Option.bind_eq_some_iff] at he
   obtain ⟨a,ha,b,hb,he⟩:=he
   rw [cells3_inv ha,cells3_inv hb]
   split at he
   · rename_i e; subst e
     have e:=Option.some.inj he
     have:=h0 a b (by rw [e]; exact hp)
     rw [e] at this; exact this
   · split at he
     · rename_i e; subst e
       have e:=Option.some.inj he
       have:=h1 a b (by rw [e]; exact hp)
       rw [e] at this; exact this
     · split at he
       · rename_i e; subst e
         have e:=Option.some.inj he
         have:=h2 a b (by rw [e]; exact hp)
         rw [e] at this; exact this
       · simp at he
 · simp at he
attribute [go_sem] cl1_0 cl1_1 cl1_2 clk_0 clk_1 clk_2 clx_0 clx_1 clx_2
noncomputable def vNegC:List AV→Option (Prop × AV):=cl1 fun x=>(fl x≤FB,(.agg [.opq (.frac (qneg x)),.pad,.pad,.pad,.pad]))
theorem vNegC_ok (hP:PrgOk P) (args p r):vNegC args=some (p,r)→p→CSpec P 70 args r:=by
 have HE:=Jt0_all hP TF hP.tF
 refine cl1_ok (fun a h=>?_) (fun a h=>?_) (fun a h=>?_) args p r
 all_goals
  have h:fl _≤FB:=h
  have i1:=Nat.le_trans (fl_num h) (show FB≤68719476736 by decide)
  have n1:(1:Int).toNat=1:=rfl
  have n2:(2:Int).toNat=2:=rfl
  refine CSpec_go (E:=⟨TF,Jt0⟩) (fn70 hP) HE hP.mix ?_
  simp only [go_sem,i1,n1,n2]
  exact fin_z
noncomputable def vScaleC:List AV→Option (Prop × AV):=clk fun k x=>(fl k≤FB∧fl x≤FB,(.agg [.opq (.frac (qmul k x)),.pad,.pad,.pad,.pad]))
theorem vScaleC_ok (hP:PrgOk P) (args p r):vScaleC args=some (p,r)→p→CSpec P 54 args r:=by
 have HE:=Jt0_all hP TF hP.tF
 refine clk_ok (fun k a h=>?_) (fun k a h=>?_) (fun k a h=>?_) args p r
 all_goals
  have i1:=h.1
  have i2:=h.2
  have n1:(1:Int).toNat=1:=rfl
  have n2:(2:Int).toNat=2:=rfl
  refine CSpec_go (E:=⟨TF,Jt0⟩) (fn54 hP) HE hP.mix ?_
  simp only [go_sem,i1,i2,n1,n2]
  exact fin_z
noncomputable def mnr (a b c d:Rat):Prop × AV:=(fl a≤268435456∧fl b≤268435456∧fl c≤268435456∧fl d≤268435456,(.agg [.opq (.frac (qsub (qmul a b) (qmul c d))),.pad,.pad,.pad,.pad]))
noncomputable def vCrossC:List AV→Option (Prop × AV):=clx (fun a b=>mnr a.2.1 b.2.2 a.2.2 b.2.1) (fun a b=>mnr a.2.2 b.1 a.1 b.2.2) (fun a b=>mnr a.1 b.2.1 a.2.1 b.1)
theorem vCrossC_ok (hP:PrgOk P) (args p r):vCrossC args=some (p,r)→p→CSpec P 68 args r:=by
 have HE:=Jt0_all hP TF hP.tF
 refine clx_ok (fun a b h=>?_) (fun a b h=>?_) (fun a b h=>?_) args p r
 all_goals
  obtain ⟨h1,h2,h3,h4⟩:=h
  have i1:=Nat.le_trans h1 (show _≤FB by decide)
  have i2:=Nat.le_trans h2 (show _≤FB by decide)
  have i3:=Nat.le_trans h3 (show _≤FB by decide)
  have i4:=Nat.le_trans h4 (show _≤FB by decide)
  have i5:=Nat.le_trans (fl_qmul h1 h2) (show _≤FB by decide)
  have i6:=Nat.le_trans (fl_qmul h3 h4) (show _≤FB by decide)
  have n1:(1:Int).toNat=1:=rfl
  have n2:(2:Int).toNat=2:=rfl
  have w1:IntKind.i64.wrap (0+1)=1:=rfl
  have w2:IntKind.i64.wrap (0+2)=2:=rfl
  have w3:IntKind.i64.wrap (1+1)=2:=rfl
  have w4:IntKind.i64.wrap (1+2)=3:=rfl
  have w5:IntKind.i64.wrap (2+1)=3:=rfl
  have w6:IntKind.i64.wrap (2+2)=4:=rfl
  have m1:(1:Int).tmod 3=1:=rfl
  have m2:(2:Int).tmod 3=2:=rfl
  have m3:(3:Int).tmod 3=0:=rfl
  have m4:(4:Int).tmod 3=1:=rfl
  refine CSpec_go (E:=⟨TF,Jt0⟩) (fn68 hP) HE hP.mix ?_
  simp only [go_sem,i1,i2,i3,i4,i5,i6,n1,n2,w1,w2,w3,w4,w5,w6,m1,m2,m3,m4]
  exact fin_z
attribute [go_sem] vNegC vScaleC vCrossC mnr
noncomputable def Vt1:Nat→List AV→Option (Prop × AV):=addS (addS (addS (addS (addS Vt0 70 vNegC) 54 vScaleC) 68 vCrossC) 23 vAddS) 46 vSubS
theorem Vt1_all (hP:PrgOk P) (T) (hT:TyOk P T):EnvOk P ⟨T,Vt1⟩:=((((((Vt0_all hP T hT).add (vNegC_ok hP)).add (vScaleC_ok hP)).add (vCrossC_ok hP)).add (vAddS_ok hP)).add (vSubS_ok hP))
theorem Vt1_at (f a):Vt1 f a=(addS (addS (addS (addS (addS Vt0 70 vNegC) 54 vScaleC) 68 vCrossC) 23 vAddS) 46 vSubS) f a:=rfl
attribute [go_sem] Vt1_at
theorem vNeg_spec (hP:PrgOk P) (a:V3) (ha:fV a FB):CSpec P 31 [(.agg [.opq (.frac (a.1)),.pad,.pad,.pad,.pad,.opq (.frac (a.2.1)),.pad,.pad,.pad,.pad,.opq (.frac (a.2.2)),.pad,.pad,.pad,.pad])] (.agg [.opq (.frac (qneg a.1)),.pad,.pad,.pad,.pad,.opq (.frac (qneg a.2.1)),.pad,.pad,.pad,.pad,.opq (.frac (qneg a.2.2)),.pad,.pad,.pad,.pad]):=by
 have HE:=Vt1_all hP TF hP.tF
 obtain ⟨a1,a2,a3⟩:=ha
 refine CSpec_go (E:=⟨TF,Vt1⟩) (fn31 hP) HE hP.mix ?_
 simp only [go_sem]
 refine icX_vc (E:=⟨TF,Vt1⟩) (fn51 hP) HE hP.mix rfl rfl (Nat.le_of_ble_eq_true rfl) 100 ?_
 have w1:IntKind.i64.wrap (0+1)=1:=rfl
 have w2:IntKind.i64.wrap (1+1)=2:=rfl
 have w3:IntKind.i64.wrap (2+1)=3:=rfl
 have n1:(1:Int).toNat=1:=rfl
 have n2:(2:Int).toNat=2:=rfl
 simp only [go_sem]
 refine trX_once HE hP.mix 15 150 (by kernel_rfl) ?_
 simp only [go_sem,w1,a1,a2,a3]
 refine goX_once HE hP.mix 15 200 (by kernel_rfl) ?_
 simp only [go_sem,w2,n1,a1,a2,a3]
 refine ⟨by decide,?_⟩
 refine goX_once HE hP.mix 15 250 (by kernel_rfl) ?_
 simp only [go_sem,w3,n2,a1,a2,a3]
 refine ⟨by decide,?_⟩
 refine goX_once HE hP.mix 15 300 (by kernel_rfl) ?_
 simp only [go_sem]
 unfold finX
 simp only [go_sem]
 exact .refl _
noncomputable def vNegS:List AV→Option (Prop × AV):=onV1 fun a=>(fV a FB,(.agg [.opq (.frac (qneg a.1)),.pad,.pad,.pad,.pad,.opq (.frac (qneg a.2.1)),.pad,.pad,.pad,.pad,.opq (.frac (qneg a.2.2)),.pad,.pad,.pad,.pad]))
theorem vNegS_ok (hP:PrgOk P) (args p r):vNegS args=some (p,r)→p→CSpec P 31 args r:=onV1_ok (fun a h=>by exact vNeg_spec hP a h) args p r
theorem vScale_spec (hP:PrgOk P) (k:Rat) (a:V3) (hk:fl k≤FB) (ha:fV a FB):CSpec P 24 [(.agg [.opq (.frac (k)),.pad,.pad,.pad,.pad]),(.agg [.opq (.frac (a.1)),.pad,.pad,.pad,.pad,.opq (.frac (a.2.1)),.pad,.pad,.pad,.pad,.opq (.frac (a.2.2)),.pad,.pad,.pad,.pad])] (.agg [.opq (.frac (qmul k a.1)),.pad,.pad,.pad,.pad,.opq (.frac (qmul k a.2.1)),.pad,.pad,.pad,.pad,.opq (.frac (qmul k a.2.2)),.pad,.pad,.pad,.pad]):=by
 have HE:=Vt1_all hP TF hP.tF
 obtain ⟨a1,a2,a3⟩:=ha
 refine CSpec_go (E:=⟨TF,Vt1⟩) (fn24 hP) HE hP.mix ?_
 simp only [go_sem]
 refine icX_vc (E:=⟨TF,Vt1⟩) (fn51 hP) HE hP.mix rfl rfl (Nat.le_of_ble_eq_true rfl) 100 ?_
 have w1:IntKind.i64.wrap (0+1)=1:=rfl
 have w2:IntKind.i64.wrap (1+1)=2:=rfl
 have w3:IntKind.i64.wrap (2+1)=3:=rfl
 have n1:(1:Int).toNat=1:=rfl
 have n2:(2:Int).toNat=2:=rfl
 simp only [go_sem]
 refine trX_once HE hP.mix 15 150 (by kernel_rfl) ?_
 simp only [go_sem,w1,hk,a1,a2,a3]
 refine goX_once HE hP.mix 15 200 (by kernel_rfl) ?_
 simp only [go_sem,w2,n1,hk,a1,a2,a3]
 refine ⟨by decide,?_⟩
 refine goX_once HE hP.mix 15 250 (by kernel_rfl) ?_
 simp only [go_sem,w3,n2,hk,a1,a2,a3]
 refine ⟨by decide,?_⟩
 refine goX_once HE hP.mix 15 300 (by kernel_rfl) ?_
 simp only [go_sem]
 unfold finX
 simp only [go_sem]
 exact .refl _
noncomputable def vScaleS:List AV→Option (Prop × AV)
 | [k,x]=>(rawF k).bind fun k=>(rawV x).map fun a=>(k.1∧fl k.2≤FB∧fV a FB,(.agg [.opq (.frac (qmul k.2 a.1)),.pad,.pad,.pad,.pad,.opq (.frac (qmul k.2 a.2.1)),.pad,.pad,.pad,.pad,.opq (.frac (qmul k.2 a.2.2)),.pad,.pad,.pad,.pad]))
 | _=>none
theorem vScaleS_eq (k x):vScaleS [k,x]=(rawF k).bind fun k=>(rawV x).map fun a=>(k.1∧fl k.2≤FB∧fV a FB,(.agg [.opq (.frac (qmul k.2 a.1)),.pad,.pad,.pad,.pad,.opq (.frac (qmul k.2 a.2.1)),.pad,.pad,.pad,.pad,.opq (.frac (qmul k.2 a.2.2)),.pad,.pad,.pad,.pad])):=rfl
theorem vScaleS_ok (hP:PrgOk P) (args p r) (he:vScaleS args=some (p,r)) (hp:p):CSpec P 24 args r:=by
 unfold vScaleS at he
 split at he
 · simp only [Option.bind_eq_some_iff,Option.map_eq_some_iff,Prod.exists,Prod.mk.injEq] at he
   obtain ⟨q,k,h1,x,y,z,h2,rfl,rfl⟩:=he
   rw [rawV_inv h2]
   exact (vScale_spec hP k (x,y,z) hp.2.1 hp.2.2).cv (rawF_cv h1 hp.1 (.refl _))
 · simp at he
theorem vCross_spec (hP:PrgOk P) (a b:V3) (ha:fV a 268435456) (hb:fV b 268435456):CSpec P 29 [(.agg [.opq (.frac (a.1)),.pad,.pad,.pad,.pad,.opq (.frac (a.2.1)),.pad,.pad,.pad,.pad,.opq (.frac (a.2.2)),.pad,.pad,.pad,.pad]),(.agg [.opq (.frac (b.1)),.pad,.pad,.pad,.pad,.opq (.frac (b.2.1)),.pad,.pad,.pad,.pad,.opq (.frac (b.2.2)),.pad,.pad,.pad,.pad])] (.agg [.opq (.frac (qsub (qmul a.2.1 b.2.2) (qmul a.2.2 b.2.1))),.pad,.pad,.pad,.pad,.opq (.frac (qsub (qmul a.2.2 b.1) (qmul a.1 b.2.2))),.pad,.pad,.pad,.pad,.opq (.frac (qsub (qmul a.1 b.2.1) (qmul a.2.1 b.1))),.pad,.pad,.pad,.pad]):=by
 have HE:=Vt1_all hP TF hP.tF
 obtain ⟨a1,a2,a3⟩:=ha
 obtain ⟨b1,b2,b3⟩:=hb
 refine CSpec_go (E:=⟨TF,Vt1⟩) (fn29 hP) HE hP.mix ?_
 simp only [go_sem]
 refine icX_vc (E:=⟨TF,Vt1⟩) (fn51 hP) HE hP.mix rfl rfl (Nat.le_of_ble_eq_true rfl) 100 ?_
 have w1:IntKind.i64.wrap (0+1)=1:=rfl
 have w2:IntKind.i64.wrap (1+1)=2:=rfl
 have w3:IntKind.i64.wrap (2+1)=3:=rfl
 have n1:(1:Int).toNat=1:=rfl
 have n2:(2:Int).toNat=2:=rfl
 simp only [go_sem]
 refine trX_once HE hP.mix 15 150 (by kernel_rfl) ?_
 simp only [go_sem,w1,a1,a2,a3,b1,b2,b3]
 refine goX_once HE hP.mix 15 200 (by kernel_rfl) ?_
 simp only [go_sem,w2,n1,a1,a2,a3,b1,b2,b3]
 refine ⟨by decide,?_⟩
 refine goX_once HE hP.mix 15 250 (by kernel_rfl) ?_
 simp only [go_sem,w3,n2,a1,a2,a3,b1,b2,b3]
 refine ⟨by decide,?_⟩
 refine goX_once HE hP.mix 15 300 (by kernel_rfl) ?_
 simp only [go_sem]
 unfold finX
 simp only [go_sem]
 exact .refl _
noncomputable def vCrossS:List AV→Option (Prop × AV):=onV2 fun a b=>(fV a 268435456∧fV b 268435456,(.agg [.opq (.frac (qsub (qmul a.2.1 b.2.2) (qmul a.2.2 b.2.1))),.pad,.pad,.pad,.pad,.opq (.frac (qsub (qmul a.2.2 b.1) (qmul a.1 b.2.2))),.pad,.pad,.pad,.pad,.opq (.frac (qsub (qmul a.1 b.2.1) (qmul a.2.1 b.1))),.pad,.pad,.pad,.pad]))
theorem vCrossS_ok (hP:PrgOk P) (args p r):vCrossS args=some (p,r)→p→CSpec P 29 args r:=onV2_ok (fun a b h=>by exact vCross_spec hP a b h.1 h.2) args p r
attribute [go_sem] vNegS vScaleS_eq vCrossS
end Go.Proofs.YtapddfjimhohcaaGreatDoor.AM
/- Fractions in their order. -/
namespace Go.Proofs.YtapddfjimhohcaaGreatDoor.AM
set_option linter.all false
set_option autoImplicit true
set_option relaxedAutoImplicit true
open Go Go.Proofs
set_option maxRecDepth 100000
theorem cmpQ_z (a b:Rat):(cmpQ a b == 0)=decide (a=b):=by
 unfold cmpQ
 by_cases h1:a<b
 · rw [if_pos h1,decide_eq_false (by grind)]; rfl
 · rw [if_neg h1]
   by_cases h2:b<a
   · rw [if_pos h2,decide_eq_false (by grind)]; rfl
   · rw [if_neg h2,decide_eq_true (by grind)]; rfl
theorem cmpQ_cases (a b:Rat):(a<b∧cmpQ a b = -1)∨(a=b∧cmpQ a b=0)∨(b<a∧cmpQ a b=1):=by
 unfold cmpQ
 by_cases h1:a<b
 · exact .inl ⟨h1,if_pos h1⟩
 · rw [if_neg h1]
   by_cases h2:b<a
   · exact .inr (.inr ⟨h2,if_pos h2⟩)
   · exact .inr (.inl ⟨by grind,if_neg h2⟩)
theorem cmpQ_lt {a b:Rat} (h:a<b):cmpQ a b = -1:=if_pos h
theorem cmpQ_gt {a b:Rat} (h:b<a):cmpQ a b=1:=by unfold cmpQ; rw [if_neg (by grind),if_pos h]
theorem cmpQ_self (a:Rat):cmpQ a a=0:=by unfold cmpQ; rw [if_neg (by grind),if_neg (by grind)]
end Go.Proofs.YtapddfjimhohcaaGreatDoor.AM
/- Package vec: products,order,texts. -/
namespace Go.Proofs.YtapddfjimhohcaaGreatDoor.AM
set_option linter.all false
set_option autoImplicit true
set_option relaxedAutoImplicit true
open Go Go.Proofs
set_option maxRecDepth 100000
set_option maxHeartbeats 8000000
set_option linter.unusedSimpArgs false
variable {P:Program}
noncomputable def Vt2:Nat→List AV→Option (Prop × AV):=addS (addS (addS Vt1 31 vNegS) 24 vScaleS) 29 vCrossS
theorem Vt2_all (hP:PrgOk P) (T) (hT:TyOk P T):EnvOk P ⟨T,Vt2⟩:=((((Vt1_all hP T hT).add (vNegS_ok hP)).add (vScaleS_ok hP)).add (vCrossS_ok hP))
theorem Vt2_at (f a):Vt2 f a=(addS (addS (addS Vt1 31 vNegS) 24 vScaleS) 29 vCrossS) f a:=rfl
attribute [go_sem] Vt2_at
noncomputable def qdt (a b:V3):Rat:=qadd (qadd (qmul a.1 b.1) (qmul a.2.1 b.2.1)) (qmul a.2.2 b.2.2)
theorem vDot_spec (hP:PrgOk P) (a b:V3) (ha:fV a 67108864) (hb:fV b 67108864):CSpec P 64 [(.agg [.opq (.frac (a.1)),.pad,.pad,.pad,.pad,.opq (.frac (a.2.1)),.pad,.pad,.pad,.pad,.opq (.frac (a.2.2)),.pad,.pad,.pad,.pad]),(.agg [.opq (.frac (b.1)),.pad,.pad,.pad,.pad,.opq (.frac (b.2.1)),.pad,.pad,.pad,.pad,.opq (.frac (b.2.2)),.pad,.pad,.pad,.pad])] (.agg [.opq (.frac (qdt a b)),.pad,.pad,.pad,.pad]):=by
 have HE:=Vt2_all hP TF hP.tF
 obtain ⟨a1,a2,a3⟩:=ha
 obtain ⟨b1,b2,b3⟩:=hb
 have i1:=Nat.le_trans a1 (show _≤FB by decide)
 have i2:=Nat.le_trans a2 (show _≤FB by decide)
 have i3:=Nat.le_trans a3 (show _≤FB by decide)
 have j1:=Nat.le_trans b1 (show _≤FB by decide)
 have j2:=Nat.le_trans b2 (show _≤FB by decide)
 have j3:=Nat.le_trans b3 (show _≤FB by decide)
 have p1:=Nat.le_trans (fl_qmul a1 b1) (show _≤FB by decide)
 have p2:=Nat.le_trans (fl_qmul a2 b2) (show _≤FB by decide)
 have p3:=Nat.le_trans (fl_qmul a3 b3) (show _≤FB by decide)
 have s1:=Nat.le_trans (fl_qadd (fl_qmul a1 b1) (fl_qmul a2 b2)) (show _≤FB by decide)
 have f0:fl 0≤FB:=fl_zero _
 unfold qdt
 refine CSpec_go (E:=⟨TF,Vt2⟩) (fn64 hP) HE hP.mix ?_
 simp only [go_sem]
 have w1:IntKind.i64.wrap (0+1)=1:=rfl
 have w2:IntKind.i64.wrap (1+1)=2:=rfl
 have w3:IntKind.i64.wrap (2+1)=3:=rfl
 have n1:(1:Int).toNat=1:=rfl
 have n2:(2:Int).toNat=2:=rfl
 have le1:((0:Int)≤1)=True:=eq_true (by decide)
 have le2:((0:Int)≤2)=True:=eq_true (by decide)
 refine trX_once HE hP.mix 23 150 (by kernel_rfl) ?_
 simp only [go_sem,w1,i1,j1,p1,f0,q0add]
 refine goX_once HE hP.mix 23 200 (by kernel_rfl) ?_
 simp only [go_sem,w2,n1,le1,i2,j2,p1,p2]
 refine goX_once HE hP.mix 23 250 (by kernel_rfl) ?_
 simp only [go_sem,w3,n2,le2,i3,j3,s1,p3]
 refine goX_once HE hP.mix 23 300 (by kernel_rfl) ?_
 simp only [go_sem]
 exact .refl _
noncomputable def vDotS:List AV→Option (Prop × AV):=onV2 fun a b=>(fV a 67108864∧fV b 67108864,(.agg [.opq (.frac (qdt a b)),.pad,.pad,.pad,.pad]))
theorem vDotS_ok (hP:PrgOk P) (args p r):vDotS args=some (p,r)→p→CSpec P 64 args r:=onV2_ok (fun a b h=>by exact vDot_spec hP a b h.1 h.2) args p r
noncomputable def cmpV (a b:V3):Int:=if cmpQ a.1 b.1=0 then (if cmpQ a.2.1 b.2.1=0 then cmpQ a.2.2 b.2.2 else cmpQ a.2.1 b.2.1) else cmpQ a.1 b.1
noncomputable def zrV (a:V3):Bool:=decide (a.1=0) && (decide (a.2.1=0) && decide (a.2.2=0))
theorem zrV_eq (a:V3):zrV a=decide (a=v0):=by
 unfold zrV; rw [Bool.eq_iff_iff]; simp [v0_iff]
theorem vZero_spec (hP:PrgOk P) (a:V3) (ha:fV a FB):CSpec P 30 [(.agg [.opq (.frac (a.1)),.pad,.pad,.pad,.pad,.opq (.frac (a.2.1)),.pad,.pad,.pad,.pad,.opq (.frac (a.2.2)),.pad,.pad,.pad,.pad])] (.bool (decide (a=v0))):=by
 have HE:=Vt2_all hP TF hP.tF
 obtain ⟨a1,a2,a3⟩:=ha
 have i1:=Nat.le_trans (fl_num a1) (show FB≤68719476736 by decide)
 have i2:=Nat.le_trans (fl_num a2) (show FB≤68719476736 by decide)
 have i3:=Nat.le_trans (fl_num a3) (show FB≤68719476736 by decide)
 rw [← zrV_eq]
 unfold zrV
 refine CSpec_go (E:=⟨TF,Vt2⟩) (fn30 hP) HE hP.mix ?_
 by_cases c1:a.1=0
 · have c1':=decide_eq_true c1
   by_cases c2:a.2.1=0
   · have c2':=decide_eq_true c2
     simp only [go_sem,i1,i2,i3,cmpQ_z,c1',c2']
     exact fin_z
   · have c2':=decide_eq_false c2
     simp only [go_sem,i1,i2,i3,cmpQ_z,c1',c2']
     exact fin_z
 · have c1':=decide_eq_false c1
   simp only [go_sem,i1,i2,i3,cmpQ_z,c1']
   exact fin_z
noncomputable def vZeroS:List AV→Option (Prop × AV):=onV1 fun a=>(fV a FB,.bool (decide (a=v0)))
theorem vZeroS_ok (hP:PrgOk P) (args p r):vZeroS args=some (p,r)→p→CSpec P 30 args r:=onV1_ok (fun a h=>by exact vZero_spec hP a h) args p r
theorem vOf_spec (hP:PrgOk P) (x y z:Rat):CSpec P 82 [(.agg [.opq (.frac (x)),.pad,.pad,.pad,.pad]),(.agg [.opq (.frac (y)),.pad,.pad,.pad,.pad]),(.agg [.opq (.frac (z)),.pad,.pad,.pad,.pad])] (.agg [.opq (.frac (x)),.pad,.pad,.pad,.pad,.opq (.frac (y)),.pad,.pad,.pad,.pad,.opq (.frac (z)),.pad,.pad,.pad,.pad]):=by
 have HE:=Vt2_all hP TF hP.tF
 refine CSpec_go (E:=⟨TF,Vt2⟩) (fn82 hP) HE hP.mix ?_
 simp only [go_sem]
 exact fin_z
noncomputable def vOfS:List AV→Option (Prop × AV)
 | [x,y,z]=>(rawF x).bind fun x=>(rawF y).bind fun y=>(rawF z).map fun z=>(x.1∧y.1∧z.1,(.agg [.opq (.frac (x.2)),.pad,.pad,.pad,.pad,.opq (.frac (y.2)),.pad,.pad,.pad,.pad,.opq (.frac (z.2)),.pad,.pad,.pad,.pad]))
 | _=>none
theorem vOfS_eq (x y z):vOfS [x,y,z]=(rawF x).bind fun x=>(rawF y).bind fun y=>(rawF z).map fun z=>(x.1∧y.1∧z.1,(.agg [.opq (.frac (x.2)),.pad,.pad,.pad,.pad,.opq (.frac (y.2)),.pad,.pad,.pad,.pad,.opq (.frac (z.2)),.pad,.pad,.pad,.pad])):=rfl
theorem vOfS_ok (hP:PrgOk P) (args p r) (he:vOfS args=some (p,r)) (hp:p):CSpec P 82 args r:=by
 unfold vOfS at he
 split at he
 · simp only [Option.bind_eq_some_iff,Option.map_eq_some_iff,Prod.exists,Prod.mk.injEq] at he
   obtain ⟨q,x,h1,q',y,h2,q'',z,h3,rfl,rfl⟩:=he
   exact (vOf_spec hP x y z).cv (rawF_cv h1 hp.1 (rawF_cv h2 hp.2.1 (rawF_cv h3 hp.2.2 .nil)))
 · simp at he
attribute [go_sem] vDotS vZeroS vOfS_eq
noncomputable def Vt3:Nat→List AV→Option (Prop × AV):=addS (addS (addS Vt2 64 vDotS) 30 vZeroS) 82 vOfS
theorem Vt3_all (hP:PrgOk P) (T) (hT:TyOk P T):EnvOk P ⟨T,Vt3⟩:=((((Vt2_all hP T hT).add (vDotS_ok hP)).add (vZeroS_ok hP)).add (vOfS_ok hP))
theorem Vt3_at (f a):Vt3 f a=(addS (addS (addS Vt2 64 vDotS) 30 vZeroS) 82 vOfS) f a:=rfl
attribute [go_sem] Vt3_at
theorem fl_i64 {n:Int} (h1 : -9223372036854775808≤n) (h2:n≤9223372036854775807):fl ((n:Int):Rat)≤64:=fl_int ((blen_le_iff _ _).2 (by omega)) (by decide)
theorem vInts_spec (hP:PrgOk P) (x y z:Int) (hx : -9223372036854775808≤x∧x≤9223372036854775807) (hy : -9223372036854775808≤y∧y≤9223372036854775807) (hz : -9223372036854775808≤z∧z≤9223372036854775807):CSpec P 36 [.int .i64 x,.int .i64 y,.int .i64 z] (.agg [.opq (.frac ((x:Rat))),.pad,.pad,.pad,.pad,.opq (.frac ((y:Rat))),.pad,.pad,.pad,.pad,.opq (.frac ((z:Rat))),.pad,.pad,.pad,.pad]):=by
 have HE:=Vt3_all hP TF hP.tF
 obtain ⟨x1,x2⟩:=hx
 obtain ⟨y1,y2⟩:=hy
 obtain ⟨z1,z2⟩:=hz
 refine CSpec_go (E:=⟨TF,Vt3⟩) (fn36 hP) HE hP.mix ?_
 simp only [go_sem,x1,x2,y1,y2,z1,z2]
 exact fin_z
def vIntsS:List AV→Option (Prop × AV)
 | [.int .i64 x,.int .i64 y,.int .i64 z]=>some ((-9223372036854775808≤x∧x≤9223372036854775807)∧(-9223372036854775808≤y∧y≤9223372036854775807)∧(-9223372036854775808≤z∧z≤9223372036854775807),(.agg [.opq (.frac ((x:Rat))),.pad,.pad,.pad,.pad,.opq (.frac ((y:Rat))),.pad,.pad,.pad,.pad,.opq (.frac ((z:Rat))),.pad,.pad,.pad,.pad]))
 | _=>none
theorem vIntsS_ok (hP:PrgOk P) (args p r) (h:vIntsS args=some (p,r)) (hp:p):CSpec P 36 args r:=by
 unfold vIntsS at h
 split at h
 · simp only [Option.some.injEq,Prod.mk.injEq] at h
   obtain ⟨rfl,rfl⟩:=h
   exact vInts_spec hP _ _ _ hp.1 hp.2.1 hp.2.2
 · simp at h
noncomputable def vcq (a b:V3):V3:=(qsub (qmul a.2.1 b.2.2) (qmul a.2.2 b.2.1),qsub (qmul a.2.2 b.1) (qmul a.1 b.2.2),qsub (qmul a.1 b.2.1) (qmul a.2.1 b.1))
theorem vcq_fl {a b:V3} {n m:Nat} (ha:fV a n) (hb:fV b m):fV (vcq a b) (n+m+(n+m)+1):=by
 obtain ⟨a1,a2,a3⟩:=ha
 obtain ⟨b1,b2,b3⟩:=hb
 exact ⟨fl_qsub (fl_qmul a2 b3) (fl_qmul a3 b2),fl_qsub (fl_qmul a3 b1) (fl_qmul a1 b3),fl_qsub (fl_qmul a1 b2) (fl_qmul a2 b1)⟩
theorem fV_le {a:V3} {n m:Nat} (h:fV a n) (hm:n≤m):fV a m:=⟨Nat.le_trans h.1 hm,Nat.le_trans h.2.1 hm,Nat.le_trans h.2.2 hm⟩
theorem vDet_spec (hP:PrgOk P) (a b c:V3) (ha:fV a 8388608) (hb:fV b 8388608) (hc:fV c 8388608):CSpec P 45 [(.agg [.opq (.frac (a.1)),.pad,.pad,.pad,.pad,.opq (.frac (a.2.1)),.pad,.pad,.pad,.pad,.opq (.frac (a.2.2)),.pad,.pad,.pad,.pad]),(.agg [.opq (.frac (b.1)),.pad,.pad,.pad,.pad,.opq (.frac (b.2.1)),.pad,.pad,.pad,.pad,.opq (.frac (b.2.2)),.pad,.pad,.pad,.pad]),(.agg [.opq (.frac (c.1)),.pad,.pad,.pad,.pad,.opq (.frac (c.2.1)),.pad,.pad,.pad,.pad,.opq (.frac (c.2.2)),.pad,.pad,.pad,.pad])] (.agg [.opq (.frac (qdt a (vcq b c))),.pad,.pad,.pad,.pad]):=by
 have HE:=Vt3_all hP TF hP.tF
 obtain ⟨a1,a2,a3⟩:=fV_le ha (show _≤67108864 by decide)
 obtain ⟨b1,b2,b3⟩:=fV_le hb (show _≤268435456 by decide)
 obtain ⟨c1,c2,c3⟩:=fV_le hc (show _≤268435456 by decide)
 obtain ⟨d1,d2,d3⟩:=fV_le (vcq_fl hb hc) (show _≤67108864 by decide)
 unfold vcq at d1 d2 d3 ⊢
 refine CSpec_go (E:=⟨TF,Vt3⟩) (fn45 hP) HE hP.mix ?_
 simp only [go_sem,a1,a2,a3,b1,b2,b3,c1,c2,c3,d1,d2,d3]
 exact fin_z
noncomputable def vDetS:List AV→Option (Prop × AV)
 | [x,y,z]=>(rawV x).bind fun a=>(rawV y).bind fun b=>(rawV z).map fun c=>(fV a 8388608∧fV b 8388608∧fV c 8388608,(.agg [.opq (.frac (qdt a (vcq b c))),.pad,.pad,.pad,.pad]))
 | _=>none
theorem vDetS_eq (x y z):vDetS [x,y,z]=(rawV x).bind fun a=>(rawV y).bind fun b=>(rawV z).map fun c=>(fV a 8388608∧fV b 8388608∧fV c 8388608,(.agg [.opq (.frac (qdt a (vcq b c))),.pad,.pad,.pad,.pad])):=rfl
theorem vDetS_ok (hP:PrgOk P) (args p r) (he:vDetS args=some (p,r)) (hp:p):CSpec P 45 args r:=by
 unfold vDetS at he
 split at he
 · simp only [Option.bind_eq_some_iff,Option.map_eq_some_iff,Prod.mk.injEq] at he
   obtain ⟨a,h1,b,h2,c,h3,rfl,rfl⟩:=he
   rw [rawV_inv h1,rawV_inv h2,rawV_inv h3]
   exact vDet_spec hP a b c hp.1 hp.2.1 hp.2.2
 · simp at he
noncomputable def qhf:Rat:=qdiv ((1:Int):Rat) ((2:Int):Rat)
theorem qhf_eq:qdiv ((1:Int):Rat) ((2:Int):Rat)=qhf:=rfl
theorem qhf_fl:fl qhf≤2:=by unfold qhf; rw [qdiv_eq]; decide +kernel
noncomputable def Vt4:Nat→List AV→Option (Prop × AV):=addS (addS Vt3 36 vIntsS) 45 vDetS
theorem Vt4_all (hP:PrgOk P) (T) (hT:TyOk P T):EnvOk P ⟨T,Vt4⟩:=(((Vt3_all hP T hT).add (vIntsS_ok hP)).add (vDetS_ok hP))
attribute [go_sem] vIntsS vDetS_eq
theorem Vt4_at (f a):Vt4 f a=(addS (addS Vt3 36 vIntsS) 45 vDetS) f a:=rfl
attribute [go_sem] Vt4_at
theorem vMid_spec (hP:PrgOk P) (a b:V3) (ha:fV a 268435456) (hb:fV b 268435456):CSpec P 35 [(.agg [.opq (.frac (a.1)),.pad,.pad,.pad,.pad,.opq (.frac (a.2.1)),.pad,.pad,.pad,.pad,.opq (.frac (a.2.2)),.pad,.pad,.pad,.pad]),(.agg [.opq (.frac (b.1)),.pad,.pad,.pad,.pad,.opq (.frac (b.2.1)),.pad,.pad,.pad,.pad,.opq (.frac (b.2.2)),.pad,.pad,.pad,.pad])] (.agg [.opq (.frac (qmul qhf (qadd a.1 b.1))),.pad,.pad,.pad,.pad,.opq (.frac (qmul qhf (qadd a.2.1 b.2.1))),.pad,.pad,.pad,.pad,.opq (.frac (qmul qhf (qadd a.2.2 b.2.2))),.pad,.pad,.pad,.pad]):=by
 have HE:=Vt4_all hP TF hP.tF
 obtain ⟨a1,a2,a3⟩:=ha
 obtain ⟨b1,b2,b3⟩:=hb
 have s1:=Nat.le_trans (fl_qadd a1 b1) (show _≤FB by decide)
 have s2:=Nat.le_trans (fl_qadd a2 b2) (show _≤FB by decide)
 have s3:=Nat.le_trans (fl_qadd a3 b3) (show _≤FB by decide)
 have i1:=Nat.le_trans a1 (show _≤FB by decide)
 have i2:=Nat.le_trans a2 (show _≤FB by decide)
 have i3:=Nat.le_trans a3 (show _≤FB by decide)
 have j1:=Nat.le_trans b1 (show _≤FB by decide)
 have j2:=Nat.le_trans b2 (show _≤FB by decide)
 have j3:=Nat.le_trans b3 (show _≤FB by decide)
 have hh:=Nat.le_trans qhf_fl (show _≤FB by decide)
 have b0:((2:Int)=0)=False:=by decide
 have w1:wl 1≤FB:=by decide
 have w2:wl 2≤FB:=by decide
 refine CSpec_go (E:=⟨TF,Vt4⟩) (fn35 hP) HE hP.mix ?_
 simp only [go_sem,qhf_eq,s1,s2,s3,i1,i2,i3,j1,j2,j3,hh,b0,w1,w2]
 exact fin_z
noncomputable def vMidS:List AV→Option (Prop × AV):=onV2 fun a b=>(fV a 268435456∧fV b 268435456,(.agg [.opq (.frac (qmul qhf (qadd a.1 b.1))),.pad,.pad,.pad,.pad,.opq (.frac (qmul qhf (qadd a.2.1 b.2.1))),.pad,.pad,.pad,.pad,.opq (.frac (qmul qhf (qadd a.2.2 b.2.2))),.pad,.pad,.pad,.pad]))
theorem vMidS_ok (hP:PrgOk P) (args p r):vMidS args=some (p,r)→p→CSpec P 35 args r:=onV2_ok (fun a b h=>by exact vMid_spec hP a b h.1 h.2) args p r
noncomputable def parV (x y z:List Nat):V3 × Int :=
 if (parF x).2=0 then (if (parF y).2=0 then (if (parF z).2=0 then (((parF x).1,(parF y).1,(parF z).1),0) else (v0,(parF z).2)) else (v0,(parF y).2)) else (v0,(parF x).2)
theorem parV_fl (x y z):fV (parV x y z).1 1024:=by
 have h0:fV v0 1024:=⟨fl_zero _,fl_zero _,fl_zero _⟩
 unfold parV; split
 · split
   · split
     · exact ⟨parF_fl _,parF_fl _,parF_fl _⟩
     · exact h0
   · exact h0
 · exact h0
theorem vParse_spec (hP:PrgOk P) (x y z:ByteArray) (hx:(bl x).length≤140737488355328) (hy:(bl y).length≤140737488355328) (hz:(bl z).length≤140737488355328):CSpec P 78 [.agg [.str x,.str y,.str z]] (.tup [(.agg [.opq (.frac ((parV (bl x) (bl y) (bl z)).1.1)),.pad,.pad,.pad,.pad,.opq (.frac ((parV (bl x) (bl y) (bl z)).1.2.1)),.pad,.pad,.pad,.pad,.opq (.frac ((parV (bl x) (bl y) (bl z)).1.2.2)),.pad,.pad,.pad,.pad]),.int .i64 (parV (bl x) (bl y) (bl z)).2]):=by
 have HE:=Vt4_all hP TF hP.tF
 have hx':(bl x).length≤140737488355328:=by omega
 have hy':(bl y).length≤140737488355328:=by omega
 have hz':(bl z).length≤140737488355328:=by omega
 have w1:IntKind.i64.wrap (0+1)=1:=rfl
 have w2:IntKind.i64.wrap (1+1)=2:=rfl
 have w3:IntKind.i64.wrap (2+1)=3:=rfl
 have n1:(1:Int).toNat=1:=rfl
 have n2:(2:Int).toNat=2:=rfl
 have le1:((0:Int)≤1)=True:=eq_true (by decide)
 have le2:((0:Int)≤2)=True:=eq_true (by decide)
 unfold parV
 refine CSpec_go (E:=⟨TF,Vt4⟩) (fn78 hP) HE hP.mix ?_
 simp only [go_sem]
 refine trX_once HE hP.mix 35 150 (by kernel_rfl) ?_
 by_cases c1:(parF (bl x)).2=0
 · have c1':((parF (bl x)).2 != 0)=false:=by rw [c1]; rfl
   rw [if_pos c1]
   simp only [go_sem,w1,hx',c1']
   refine goX_once HE hP.mix 35 200 (by kernel_rfl) ?_
   by_cases c2:(parF (bl y)).2=0
   · have c2':((parF (bl y)).2 != 0)=false:=by rw [c2]; rfl
     rw [if_pos c2]
     simp only [go_sem,w2,n1,le1,hy',c2']
     refine goX_once HE hP.mix 35 250 (by kernel_rfl) ?_
     by_cases c3:(parF (bl z)).2=0
     · have c3':((parF (bl z)).2 != 0)=false:=by rw [c3]; rfl
       rw [if_pos c3]
       simp only [go_sem,w3,n2,le2,hz',c3']
       refine goX_once HE hP.mix 35 300 (by kernel_rfl) ?_
       simp only [go_sem]
       exact fin_z
     · have c3':((parF (bl z)).2 != 0)=true:=by simpa using c3
       rw [if_neg c3]
       simp only [go_sem,w3,n2,le2,hz',c3']
       exact fin_z
   · have c2':((parF (bl y)).2 != 0)=true:=by simpa using c2
     rw [if_neg c2]
     simp only [go_sem,w2,n1,le1,hy',c2']
     exact fin_z
 · have c1':((parF (bl x)).2 != 0)=true:=by simpa using c1
   rw [if_neg c1]
   simp only [go_sem,w1,hx',c1']
   exact fin_z
noncomputable def vParseS:List AV→Option (Prop × AV)
 | [.agg [.str x,.str y,.str z]]=>some ((bl x).length≤140737488355328∧(bl y).length≤140737488355328∧(bl z).length≤140737488355328,.tup [(.agg [.opq (.frac ((parV (bl x) (bl y) (bl z)).1.1)),.pad,.pad,.pad,.pad,.opq (.frac ((parV (bl x) (bl y) (bl z)).1.2.1)),.pad,.pad,.pad,.pad,.opq (.frac ((parV (bl x) (bl y) (bl z)).1.2.2)),.pad,.pad,.pad,.pad]),.int .i64 (parV (bl x) (bl y) (bl z)).2])
 | _=>none
theorem vParseS_ok (hP:PrgOk P) (args p r) (h:vParseS args=some (p,r)) (hp:p):CSpec P 78 args r:=by
 unfold vParseS at h
 split at h
 · simp only [Option.some.injEq,Prod.mk.injEq] at h
   obtain ⟨rfl,rfl⟩:=h
   exact vParse_spec hP _ _ _ hp.1 hp.2.1 hp.2.2
 · simp at h
attribute [go_sem] vMidS vParseS
noncomputable def Vt5:Nat→List AV→Option (Prop × AV):=addS (addS Vt4 35 vMidS) 78 vParseS
theorem Vt5_all (hP:PrgOk P) (T) (hT:TyOk P T):EnvOk P ⟨T,Vt5⟩:=(((Vt4_all hP T hT).add (vMidS_ok hP)).add (vParseS_ok hP))
theorem Vt5_at (f a):Vt5 f a=(addS (addS Vt4 35 vMidS) 78 vParseS) f a:=rfl
attribute [go_sem] Vt5_at
end Go.Proofs.YtapddfjimhohcaaGreatDoor.AM
/- Lines: plain facts. -/
namespace Go.Proofs.YtapddfjimhohcaaGreatDoor.AM
set_option linter.all false
set_option autoImplicit true
set_option relaxedAutoImplicit true
open Go Go.Proofs
set_option maxRecDepth 100000
noncomputable def ngV (a:V3):V3:=(qneg a.1,qneg a.2.1,qneg a.2.2)
noncomputable def nrm (d:V3):V3:=if cmpV (dirA d) v0<0 then ngV (dirA d) else dirA d
theorem cmpQ_neg (x:Rat):cmpQ (-1*x) 0 = -cmpQ x 0:=by
 rcases cmpQ_cases x 0 with ⟨h,e⟩|⟨h,e⟩|⟨h,e⟩
 · rw [e,cmpQ_gt (by grind)]; rfl
 · rw [e,h]; decide +kernel
 · rw [e,cmpQ_lt (by grind)]
theorem dt_self {d:V3} (h:d ≠ v0):vdt d d ≠ 0:=by
 have hsq:∀ x:Rat,0≤x*x:=fun x=>by
  rcases (Rat.le_total:0≤x∨x≤0) with h|h
  · exact Rat.mul_nonneg h h
  · have:=Rat.mul_nonneg (a:=-x) (b:=-x) (by grind) (by grind)
    grind
 have h1:=hsq d.1
 have h2:=hsq d.2.1
 have h3:=hsq d.2.2
 unfold vdt
 intro e
 have e1:d.1*d.1=0:=by grind
 have e2:d.2.1*d.2.1=0:=by grind
 have e3:d.2.2*d.2.2=0:=by grind
 exact h ((v0_iff d).2 ⟨(Rat.mul_eq_zero.1 e1).elim id id,(Rat.mul_eq_zero.1 e2).elim id id,(Rat.mul_eq_zero.1 e3).elim id id⟩)
abbrev V4:=Rat × Rat × Rat × Rat
def m4 (h:V4):Nat:=lcmD (lcmD (lcmD (lcmD 1 h.1.den) h.2.1.den) h.2.2.1.den) h.2.2.2.den
def n4 (h:V4) (x:Rat):Int:=x.num*((m4 h / x.den:Nat):Int)
def l4 (h:V4):List Int:=[n4 h h.1,n4 h h.2.1,n4 h h.2.2.1,n4 h h.2.2.2]
def g4 (h:V4):Nat:=gcdL (l4 h)
def p4 (h:V4) (x:Rat):Int:=primZ (g4 h) (n4 h x)
def s4 (h:V4):Bool:=if h.1=0 then (if h.2.1=0 then decide (h.2.2.1<0) else decide (h.2.1<0)) else decide (h.1<0)
def q4 (h:V4) (x:Rat):Int:=if s4 h then -p4 h x else p4 h x
theorem mul_cancel {a b q:Rat} (hq:q ≠ 0) (h:a*q=b*q):a=b:=by
 have:q*(a-b)=0:=by grind
 have:=zero_of_mul hq this
 grind
theorem cross_pt (d c v:V3):vsc (vdt (vcr d c) (vcr d c)) v=vad (vsb (vsc (vdt (vcr v c) (vcr d c)) d) (vsc (vdt (vcr v d) (vcr d c)) c)) (vsc (vdt v (vcr d c)) (vcr d c)):=by
 unfold vcr vdt vad vsb vsc; refine v3_ext ?_ ?_ ?_<;>(simp only []; grind)
end Go.Proofs.YtapddfjimhohcaaGreatDoor.AM
/- Angles: plain facts. -/
namespace Go.Proofs.YtapddfjimhohcaaGreatDoor.AM
set_option linter.all false
set_option autoImplicit true
set_option relaxedAutoImplicit true
open Go Go.Proofs
set_option maxRecDepth 100000
set_option maxHeartbeats 4000000
def hf2 (x y:Rat):Int:=if 0<y∨(y=0∧0<x) then 0 else 1
def an2 (x y x' y':Rat):Int:=if hf2 x y ≠ hf2 x' y' then hf2 x y-hf2 x' y' else -cmpQ (x*y'-y*x') 0
theorem hf2_cases (x y:Rat) (h:¬ (x=0∧y=0)):(hf2 x y=0∧(0<y∨(y=0∧0<x)))∨(hf2 x y=1∧(y<0∨(y=0∧x<0))):=by
 unfold hf2
 by_cases c:0<y∨(y=0∧0<x)
 · rw [if_pos c]; exact .inl ⟨rfl,c⟩
 · rw [if_neg c]
   refine .inr ⟨rfl,?_⟩
   by_cases hy:y=0
   · exact .inr ⟨hy,by grind⟩
   · exact .inl (by grind)
theorem cmpQ_n (a b:Rat) (h:a = -b):cmpQ a 0 = -cmpQ b 0:=by
 have:=cmpQ_neg b
 rw [h,show -b = -1*b by grind]; exact this
theorem cmpQ_pos {k a:Rat} (hk:0<k):cmpQ (k*a) 0=cmpQ a 0:=by
 rcases cmpQ_cases a 0 with ⟨h,e⟩|⟨h,e⟩|⟨h,e⟩
 · rw [e]; exact cmpQ_lt (by have:=Rat.mul_pos hk (show 0 < -a by grind); grind)
 · rw [h]; rw [show k*0=(0:Rat) by grind]
 · rw [e]; exact cmpQ_gt (Rat.mul_pos hk h)
theorem cmpQ_iff_pos {a:Rat}:cmpQ a 0=1 ↔ 0<a:=by
 rcases cmpQ_cases a 0 with ⟨h,e⟩|⟨h,e⟩|⟨h,e⟩<;>rw [e]<;>constructor<;>intro h'<;>first|(exfalso; revert h'; decide)|rfl|grind
theorem cmpQ_iff_neg {a:Rat}:cmpQ a 0 = -1 ↔ a<0:=by
 rcases cmpQ_cases a 0 with ⟨h,e⟩|⟨h,e⟩|⟨h,e⟩<;>rw [e]<;>constructor<;>intro h'<;>first|(exfalso; revert h'; decide)|rfl|grind
theorem cmpQ_iff_0 {a:Rat}:cmpQ a 0=0 ↔ a=0:=by
 rcases cmpQ_cases a 0 with ⟨h,e⟩|⟨h,e⟩|⟨h,e⟩<;>rw [e]<;>constructor<;>intro h'<;>first|(exfalso; revert h'; decide)|rfl|grind
theorem cmpQ_3 (a:Rat):cmpQ a 0 = -1∨cmpQ a 0=0∨cmpQ a 0=1:=by
 rcases cmpQ_cases a 0 with ⟨h,e⟩|⟨h,e⟩|⟨h,e⟩<;>rw [e]<;>simp
theorem an2_lt {x y x' y':Rat} (hu:¬ (x=0∧y=0)) (hv:¬ (x'=0∧y'=0)):an2 x y x' y'<0 ↔ (hf2 x y=0∧hf2 x' y'=1)∨(hf2 x y=hf2 x' y'∧0<x*y'-y*x'):=by
 unfold an2
 by_cases c:hf2 x y=hf2 x' y'
 · rw [if_neg (by simpa using c)]
   have h3:=cmpQ_3 (x*y'-y*x')
   have hp:=@cmpQ_iff_pos (x*y'-y*x')
   constructor
   · intro h; exact .inr ⟨c,hp.1 (by omega)⟩
   · rintro (h|h)
     · omega
     · have:=hp.2 h.2; omega
 · rw [if_pos c]
   rcases hf2_cases x y hu with h|h<;>rcases hf2_cases x' y' hv with h'|h'
   · omega
   · constructor
     · intro _; exact .inl ⟨h.1,h'.1⟩
     · intro _; omega
   · constructor
     · intro k; omega
     · rintro (k|k)
       · omega
       · exact absurd k.1 c
   · omega
theorem an2_0 {x y x' y':Rat} (hu:¬ (x=0∧y=0)) (hv:¬ (x'=0∧y'=0)):an2 x y x' y'=0 ↔ hf2 x y=hf2 x' y'∧x*y'-y*x'=0:=by
 unfold an2
 by_cases c:hf2 x y=hf2 x' y'
 · rw [if_neg (by simpa using c)]
   have hp:=@cmpQ_iff_0 (x*y'-y*x')
   constructor
   · intro h; exact ⟨c,hp.1 (by omega)⟩
   · intro h; have:=hp.2 h.2; omega
 · rw [if_pos c]
   constructor
   · intro h; exact absurd (by omega) c
   · intro h; exact absurd h.1 c
theorem an2_same {x y x' y':Rat} (c:hf2 x y=hf2 x' y'):an2 x y x' y' = -cmpQ (x*y'-y*x') 0:=by
 unfold an2; rw [if_neg (by simpa using c)]
theorem an2_diff {x y x' y':Rat} (c:hf2 x y ≠ hf2 x' y'):an2 x y x' y'=hf2 x y-hf2 x' y':=by
 unfold an2; rw [if_pos c]
theorem turn_trans {x y x' y' z w:Rat} (h1:0<y∨(y=0∧0<x)) (h2:0<y'∨(y'=0∧0<x')) (h3:0<w∨(w=0∧0<z)) (a:0<x*y'-y*x') (b:0<x'*w-y'*z):0<x*w-y*z:=by
 have key:y'*(x*w-y*z)=w*(x*y'-y*x')+y*(x'*w-y'*z):=by grind
 have hy:0≤y:=by grind
 have hy':0<y':=by
  rcases h2 with h|⟨h,k⟩
  · exact h
  · rw [h] at a; have:=Rat.mul_nonneg hy (show (0:Rat)≤x' by grind); grind
 have hw:0<w:=by
  rcases h3 with h|⟨h,k⟩
  · exact h
  · rw [h] at b; have:=Rat.mul_pos hy' k; grind
 have p1:=Rat.mul_pos hw a
 have p2:=Rat.mul_nonneg hy (show (0:Rat)≤x'*w-y'*z by grind)
 rcases (show x*w-y*z≤0∨0<x*w-y*z by grind) with h|h
 · have:=Rat.mul_nonneg (show (0:Rat)≤y' by grind) (show (0:Rat)≤-(x*w-y*z) by grind)
   grind
 · exact h
theorem an2_trans {x y x' y' z w:Rat} (hu:¬ (x=0∧y=0)) (hv:¬ (x'=0∧y'=0)) (hw:¬ (z=0∧w=0)) (h1:an2 x y x' y'<0) (h2:an2 x' y' z w<0):an2 x y z w<0:=by
 rw [an2_lt hu hv] at h1
 rw [an2_lt hv hw] at h2
 rw [an2_lt hu hw]
 rcases hf2_cases x y hu with ⟨e1,c1⟩|⟨e1,c1⟩<;>rcases hf2_cases x' y' hv with ⟨e2,c2⟩|⟨e2,c2⟩<;>rcases hf2_cases z w hw with ⟨e3,c3⟩|⟨e3,c3⟩<;>simp only [e1,e2,e3] at h1 h2 ⊢<;>simp at h1 h2 ⊢
 · exact turn_trans c1 c2 c3 h1 h2
 · have:=turn_trans (x:=-x) (y:=-y) (x':=-x') (y':=-y') (z:=-z) (w:=-w) (by grind) (by grind) (by grind) (by grind) (by grind)
   grind
theorem turn_eq {x y x' y' z w:Rat} (h1:0<y∨(y=0∧0<x)) (h2:0<y'∨(y'=0∧0<x')) (a:x*y'-y*x'=0):cmpQ (x'*w-y'*z) 0=cmpQ (x*w-y*z) 0:=by
 have key:y'*(x*w-y*z)=w*(x*y'-y*x')+y*(x'*w-y'*z):=by grind
 rw [a] at key
 rcases h1 with h|⟨h,k⟩
 · rcases h2 with h'|⟨h',k'⟩
   · rw [← cmpQ_pos h,← cmpQ_pos (k:=y') (a:=x*w-y*z) h',key]
     congr 1; grind
   · rw [h'] at a; have:=Rat.mul_pos h k'; grind
 · rw [h] at a
   have hy':y'=0:=by
    rcases Rat.mul_eq_zero.1 (show x*y'=0 by grind) with h|h
    · grind
    · exact h
   have k':0<x':=by grind
   rw [h,hy',show x'*w-0*z=x'*w by grind,show x*w-0*z=x*w by grind,cmpQ_pos k,cmpQ_pos k']
theorem an2_eq {x y x' y' z w:Rat} (hu:¬ (x=0∧y=0)) (hv:¬ (x'=0∧y'=0)) (h:an2 x y x' y'=0):an2 x' y' z w=an2 x y z w:=by
 rw [an2_0 hu hv] at h
 obtain ⟨e,a⟩:=h
 by_cases c:hf2 x y=hf2 z w
 · rw [an2_same c,an2_same (e ▸ c)]
   congr 1
   rcases hf2_cases x y hu with ⟨e1,c1⟩|⟨e1,c1⟩<;>rcases hf2_cases x' y' hv with ⟨e2,c2⟩|⟨e2,c2⟩
   · exact turn_eq c1 c2 a
   · omega
   · omega
   · have:=turn_eq (x:=-x) (y:=-y) (x':=-x') (y':=-y') (z:=-z) (w:=-w) (by grind) (by grind) (by grind)
     rw [show -x' * -w - -y' * -z=x'*w-y'*z by grind,show -x * -w - -y * -z=x*w-y*z by grind] at this
     exact this
 · rw [an2_diff c,an2_diff (e ▸ c),e]
theorem an2_f {x:Rat} (hx:0<x) {z w:Rat} (hw:¬ (z=0∧w=0)):an2 x 0 z w≤0∧(an2 x 0 z w=0 ↔ w=0∧0<z):=by
 have e:hf2 x 0=0:=if_pos (.inr ⟨rfl,hx⟩)
 rcases hf2_cases z w hw with ⟨e1,c1⟩|⟨e1,c1⟩
 · rw [an2_same (e.trans e1.symm),show x*w-0*z=x*w by grind,cmpQ_pos hx]
   rcases c1 with h|⟨h,k⟩
   · rw [cmpQ_iff_pos.2 h]; exact ⟨by decide,⟨fun h=>absurd h (by decide),fun k=>by grind⟩⟩
   · rw [h]; exact ⟨by rw [cmpQ_self]; decide,⟨fun _=>⟨rfl,k⟩,fun _=>by rw [cmpQ_self]; rfl⟩⟩
 · rw [an2_diff (by rw [e,e1]; decide),e,e1]
   exact ⟨by decide,⟨fun h=>absurd h (by decide),fun k=>by grind⟩⟩
theorem hf2_pos {k l x y:Rat} (hk:0<k) (hl:0<l):hf2 (k*x) (l*y)=hf2 x y:=by
 have e1:0<l*y ↔ 0<y:=by rw [← cmpQ_iff_pos,cmpQ_pos hl,cmpQ_iff_pos]
 have e2:l*y=0 ↔ y=0:=by rw [← cmpQ_iff_0,cmpQ_pos hl,cmpQ_iff_0]
 have e3:0<k*x ↔ 0<x:=by rw [← cmpQ_iff_pos,cmpQ_pos hk,cmpQ_iff_pos]
 unfold hf2; simp only [e1,e2,e3]
theorem an2_pos {k l x y x' y':Rat} (hk:0<k) (hl:0<l):an2 (k*x) (l*y) (k*x') (l*y')=an2 x y x' y':=by
 unfold an2
 rw [hf2_pos hk hl,hf2_pos hk hl,show k*x*(l*y')-l*y*(k*x')=(k*l)*(x*y'-y*x') by grind,cmpQ_pos (Rat.mul_pos hk hl)]
theorem an2_dup {k x y:Rat} (hk:0<k):an2 x y (k*x) (k*y)=0:=by
 rw [an2_same (hf2_pos hk hk).symm,show x*(k*y)-y*(k*x)=0 by grind,cmpQ_self]; rfl
theorem an2_mir {x y x' y':Rat} (hu:y ≠ 0∨x<0) (hv:y' ≠ 0∨x'<0):an2 x (-y) x' (-y') = -an2 x y x' y':=by
 have nu:¬ (x=0∧y=0):=by grind
 have nv:¬ (x'=0∧y'=0):=by grind
 have nu':¬ (x=0∧-y=0):=by grind
 have nv':¬ (x'=0∧-y'=0):=by grind
 have ec:x * -y' - -y*x' = -(x*y'-y*x'):=by grind
 rcases hf2_cases x y nu with ⟨e1,c1⟩|⟨e1,c1⟩<;>rcases hf2_cases x' y' nv with ⟨e2,c2⟩|⟨e2,c2⟩<;>rcases hf2_cases x (-y) nu' with ⟨e3,c3⟩|⟨e3,c3⟩<;>rcases hf2_cases x' (-y') nv' with ⟨e4,c4⟩|⟨e4,c4⟩
 · grind
 · grind
 · grind
 · rw [an2_same (e3.trans e4.symm),an2_same (e1.trans e2.symm),ec,cmpQ_n _ (x*y'-y*x') rfl]
 · grind
 · grind
 · rw [an2_diff (by rw [e3,e4]; decide),an2_diff (by rw [e1,e2]; decide),e1,e2,e3,e4]; rfl
 ·
   have hy:0<y:=by grind
   have hy':y'=0:=by grind
   have hx':x'<0:=by grind
   rw [an2_same (e3.trans e4.symm),an2_diff (by rw [e1,e2]; decide),e1,e2,hy',show x * -0 - -y*x' = -(y * -x') by grind,cmpQ_n _ (y * -x') rfl,cmpQ_iff_pos.2 (Rat.mul_pos hy (show 0 < -x' by grind))]; rfl
 · grind
 · rw [an2_diff (by rw [e3,e4]; decide),an2_diff (by rw [e1,e2]; decide),e1,e2,e3,e4]; rfl
 · grind
 · have hy:0<y':=by grind
   have hy':y=0:=by grind
   have hx':x<0:=by grind
   rw [an2_same (e3.trans e4.symm),an2_diff (by rw [e1,e2]; decide),e1,e2,hy',show x * -y' - -0*x'=y' * -x by grind,cmpQ_iff_pos.2 (Rat.mul_pos hy (show 0 < -x by grind))]; rfl
 · rw [an2_same (e3.trans e4.symm),an2_same (e1.trans e2.symm),ec,cmpQ_n _ (x*y'-y*x') rfl]
 · have hy:y<0:=by grind
   have hy':y'=0:=by grind
   have hx':x'<0:=by grind
   rw [an2_diff (by rw [e3,e4]; decide),an2_same (e1.trans e2.symm),e3,e4,hy',show x*0-y*x' = -(-y * -x') by grind,cmpQ_n _ (-y * -x') rfl,cmpQ_iff_pos.2 (Rat.mul_pos (show 0 < -y by grind) (show 0 < -x' by grind))]; rfl
 · have hy:y'<0:=by grind
   have hy':y=0:=by grind
   have hx':x<0:=by grind
   rw [an2_diff (by rw [e3,e4]; decide),an2_same (e1.trans e2.symm),e3,e4,hy',show x*y'-0*x' = -x * -y' by grind,cmpQ_iff_pos.2 (Rat.mul_pos (show 0 < -x by grind) (show 0 < -y' by grind))]; rfl
 · rw [an2_same (e3.trans e4.symm),an2_same (e1.trans e2.symm),ec,cmpQ_n _ (x*y'-y*x') rfl]
def flE (n a:V3):V3:=vsb (vsc (vdt n n) a) (vsc (vdt n a) n)
def hfE (n f a:V3):Int:=if 0<vdet n f a∨(vdet n f a=0∧0<vdt f a) then 0 else 1
def anF (n f u v:V3):Int:=if hfE n f u ≠ hfE n f v then hfE n f u-hfE n f v else -cmpQ (vdet n u v) 0
def anE (n f u v:V3):Int:=if n=v0∨flE n f=v0∨flE n u=v0∨flE n v=v0 then 0 else anF n (flE n f) (flE n u) (flE n v)
theorem fl_dot (n a:V3):vdt n (flE n a)=0:=by unfold flE vdt vsb vsc; simp only []; grind
theorem fl_crs (n a:V3):vcr n (flE n a)=vsc (vdt n n) (vcr n a):=by
 unfold flE vcr vdt vsb vsc; refine v3_ext ?_ ?_ ?_<;>(simp only []; grind)
theorem vcr_v0r (a:V3):vcr a v0=v0:=by rw [v0_iff]; unfold vcr v0; simp only []; exact ⟨by grind,by grind,by grind⟩
theorem vcr_v0l (a:V3):vcr v0 a=v0:=by rw [v0_iff]; unfold vcr v0; simp only []; exact ⟨by grind,by grind,by grind⟩
theorem fl_nz {n a:V3} (h:vcr n a ≠ v0):n ≠ v0∧flE n a ≠ v0:=by
 have hn:n ≠ v0:=fun e=>h (by rw [e]; exact vcr_v0l a)
 refine ⟨hn,fun e=>?_⟩
 have:=fl_crs n a
 rw [e,vcr_v0r] at this
 exact vsc_nz (dt_self hn) h this.symm
theorem dt_pos {d:V3} (h:d ≠ v0):0<vdt d d:=by
 have hsq:∀ x:Rat,0≤x*x:=fun x=>by
  rcases (Rat.le_total:0≤x∨x≤0) with h|h
  · exact Rat.mul_nonneg h h
  · have:=Rat.mul_nonneg (a:=-x) (b:=-x) (by grind) (by grind)
    grind
 have h1:=hsq d.1
 have h2:=hsq d.2.1
 have h3:=hsq d.2.2
 have:=dt_self h
 unfold vdt at this ⊢
 grind
theorem det_xy {n f u v:V3} (h1:vdt n f=0) (h2:vdt n u=0) (h3:vdt n v=0):vdt f f*vdet n u v=vdt f u*vdet n f v-vdet n f u*vdt f v:=by
 obtain ⟨n1,n2,n3⟩:=n
 obtain ⟨f1,f2,f3⟩:=f
 obtain ⟨u1,u2,u3⟩:=u
 obtain ⟨v1,v2,v3⟩:=v
 unfold vdt at h1 h2 h3
 unfold vdet vdt vcr
 simp only [] at h1 h2 h3 ⊢
 grind
theorem len_xy {n f u:V3} (h1:vdt n f=0) (h2:vdt n u=0):vdt n n*vdt f f*vdt u u=vdt n n*(vdt f u*vdt f u)+vdet n f u*vdet n f u:=by
 obtain ⟨n1,n2,n3⟩:=n
 obtain ⟨f1,f2,f3⟩:=f
 obtain ⟨u1,u2,u3⟩:=u
 unfold vdt at h1 h2
 unfold vdet vdt vcr
 simp only [] at h1 h2 ⊢
 grind
theorem xy_nz {n f u:V3} (hn:n ≠ v0) (hf:f ≠ v0) (hu:u ≠ v0) (h1:vdt n f=0) (h2:vdt n u=0):¬ (vdt f u=0∧vdet n f u=0):=by
 rintro ⟨a,b⟩
 have:=len_xy h1 h2
 rw [a,b] at this
 have p:=Rat.mul_pos (Rat.mul_pos (dt_pos hn) (dt_pos hf)) (dt_pos hu)
 grind
theorem anF_2 {n f u v:V3} (hf:f ≠ v0) (h1:vdt n f=0) (h2:vdt n u=0) (h3:vdt n v=0):anF n f u v=an2 (vdt f u) (vdet n f u) (vdt f v) (vdet n f v):=by
 unfold anF an2
 rw [← det_xy h1 h2 h3,cmpQ_pos (dt_pos hf)]
 rfl
theorem anE_2 {n f u v:V3} (hf:vcr n f ≠ v0) (hu:vcr n u ≠ v0) (hv:vcr n v ≠ v0):anE n f u v=an2 (vdt (flE n f) (flE n u)) (vdet n (flE n f) (flE n u)) (vdt (flE n f) (flE n v)) (vdet n (flE n f) (flE n v)):=by
 unfold anE
 rw [if_neg,anF_2 (fl_nz hf).2 (fl_dot n f) (fl_dot n u) (fl_dot n v)]
 rintro (h|h|h|h)
 · exact (fl_nz hf).1 h
 · exact (fl_nz hf).2 h
 · exact (fl_nz hu).2 h
 · exact (fl_nz hv).2 h
theorem vdet_swap (n u v:V3):vdet n v u = -vdet n u v:=by unfold vdet vdt vcr; simp only []; grind
theorem anE_sym (n f u v:V3):anE n f v u = -anE n f u v:=by
 unfold anE
 by_cases c:n=v0∨flE n f=v0∨flE n u=v0∨flE n v=v0
 · rw [if_pos c,if_pos (by rcases c with h|h|h|h<;>simp [h])]; rfl
 · rw [if_neg c,if_neg (by rintro (h|h|h|h)<;>exact c (by simp [h]))]
   unfold anF
   by_cases e:hfE n (flE n f) (flE n u)=hfE n (flE n f) (flE n v)
   · rw [if_neg (by simpa using e.symm),if_neg (by simpa using e),cmpQ_n _ _ (vdet_swap n (flE n u) (flE n v))]
   · rw [if_pos (fun h=>e h.symm),if_pos e]; omega
theorem xy_of {n f u:V3} (hf:vcr n f ≠ v0) (hu:vcr n u ≠ v0):¬ (vdt (flE n f) (flE n u)=0∧vdet n (flE n f) (flE n u)=0):=xy_nz (fl_nz hf).1 (fl_nz hf).2 (fl_nz hu).2 (fl_dot n f) (fl_dot n u)
theorem anE_trans {n f u v w:V3} (hf:vcr n f ≠ v0) (hu:vcr n u ≠ v0) (hv:vcr n v ≠ v0) (hw:vcr n w ≠ v0) (h1:anE n f u v<0) (h2:anE n f v w<0):anE n f u w<0:=by
 rw [anE_2 hf hu hv] at h1
 rw [anE_2 hf hv hw] at h2
 rw [anE_2 hf hu hw]
 exact an2_trans (xy_of hf hu) (xy_of hf hv) (xy_of hf hw) h1 h2
theorem anE_eq {n f u v w:V3} (hf:vcr n f ≠ v0) (hu:vcr n u ≠ v0) (hv:vcr n v ≠ v0) (hw:vcr n w ≠ v0) (h:anE n f u v=0):anE n f v w=anE n f u w:=by
 rw [anE_2 hf hu hv] at h
 rw [anE_2 hf hv hw,anE_2 hf hu hw]
 exact an2_eq (xy_of hf hu) (xy_of hf hv) h
theorem vdet_same (n f:V3):vdet n f f=0:=by unfold vdet vdt vcr; simp only []; grind
theorem anE_f {n f u:V3} (hf:vcr n f ≠ v0) (hu:vcr n u ≠ v0):anE n f f u≤0∧(anE n f f u=0 ↔ vdet n (flE n f) (flE n u)=0∧0<vdt (flE n f) (flE n u)):=by
 rw [anE_2 hf hf hu,vdet_same]
 exact an2_f (dt_pos (fl_nz hf).2) (xy_of hf hu)
theorem fl_2 (n a:V3):flE n (vad (vsc 2 a) n)=vsc 2 (flE n a):=by
 unfold flE vdt vsb vsc vad; refine v3_ext ?_ ?_ ?_<;>(simp only []; grind)
theorem vdt_sc2 (k:Rat) (a b:V3):vdt a (vsc k b)=k*vdt a b:=by unfold vdt vsc; simp only []; grind
theorem vdet_sc3 (k:Rat) (a b c:V3):vdet a b (vsc k c)=k*vdet a b c:=by unfold vdet vdt vcr vsc; simp only []; grind
theorem vcr_2 (n a:V3):vcr n (vad (vsc 2 a) n)=vsc 2 (vcr n a):=by unfold vcr vsc vad; refine v3_ext ?_ ?_ ?_<;>(simp only []; grind)
theorem anE_dup {n f u:V3} (hf:vcr n f ≠ v0) (hu:vcr n u ≠ v0):anE n f u (vad (vsc 2 u) n)=0:=by
 have h2:vcr n (vad (vsc 2 u) n) ≠ v0:=by rw [vcr_2]; exact vsc_nz (by decide +kernel) hu
 rw [anE_2 hf hu h2,fl_2,vdt_sc2,vdet_sc3]
 exact an2_dup (by decide +kernel)
theorem vcr_sc1 (k:Rat) (a b:V3):vcr (vsc k a) b=vsc k (vcr a b):=by unfold vcr vsc; refine v3_ext ?_ ?_ ?_<;>(simp only []; grind)
theorem fl_k (k:Rat) (n a:V3):flE (vsc k n) a=vsc (k*k) (flE n a):=by
 unfold flE vdt vsb vsc; refine v3_ext ?_ ?_ ?_<;>(simp only []; grind)
theorem anE_k {k:Rat} (hk:0<k) {n f u v:V3} (hf:vcr n f ≠ v0) (hu:vcr n u ≠ v0) (hv:vcr n v ≠ v0):anE (vsc k n) f u v=anE n f u v:=by
 have hk':k ≠ 0:=by grind
 have c:∀ a,vcr n a ≠ v0→vcr (vsc k n) a ≠ v0:=fun a h=>by rw [vcr_sc1]; exact vsc_nz hk' h
 have p1:0<k*k*(k*k):=Rat.mul_pos (Rat.mul_pos hk hk) (Rat.mul_pos hk hk)
 have p2:0<k*(k*k*(k*k)):=Rat.mul_pos hk p1
 have e1:∀ a b:V3,vdt (vsc (k*k) a) (vsc (k*k) b)=k*k*(k*k)*vdt a b:=fun a b=>by unfold vdt vsc; simp only []; grind
 have e2:∀ a b c:V3,vdet (vsc k a) (vsc (k*k) b) (vsc (k*k) c)=k*(k*k*(k*k))*vdet a b c:=fun a b c=>by unfold vdet vdt vcr vsc; simp only []; grind
 rw [anE_2 (c f hf) (c u hu) (c v hv),anE_2 hf hu hv,fl_k,fl_k,fl_k,e1,e1,e2,e2]
 exact an2_pos p1 p2
theorem anE_mir {n f u v:V3} (hf:vcr n f ≠ v0) (hu:vcr n u ≠ v0) (hv:vcr n v ≠ v0) (h1:anE n f f u ≠ 0) (h2:anE n f f v ≠ 0):anE (vsc (-1) n) f u v = -anE n f u v:=by
 have c:∀ a,vcr n a ≠ v0→vcr (vsc (-1) n) a ≠ v0:=fun a h=>by rw [vcr_sc1]; exact vsc_nz (by decide +kernel) h
 have e1:∀ a:V3,vsc ((-1:Rat) * -1) a=a:=fun a=>by rw [show (-1:Rat) * -1=1 by decide +kernel,vsc_one]
 have e2:∀ a b:V3,vdet (vsc (-1) n) a b = -vdet n a b:=fun a b=>by unfold vdet vdt vcr vsc; simp only []; grind
 rw [anE_2 (c f hf) (c u hu) (c v hv),anE_2 hf hu hv,fl_k,fl_k,fl_k,e1,e1,e1,e2,e2]
 have k1:=mt (anE_f hf hu).2.2 h1
 have k2:=mt (anE_f hf hv).2.2 h2
 have n1:=xy_of hf hu
 have n2:=xy_of hf hv
 exact an2_mir (by grind) (by grind)
def A0 (l:List V3):Prop:=∀ x ∈ l,∀ y ∈ l,x=y
def A1 (l:List V3):Prop:=∀ x ∈ l,∀ y ∈ l,∀ z ∈ l,vcr (vsb y x) (vsb z x)=v0
def A2 (l:List V3):Prop:=∀ x ∈ l,∀ y ∈ l,∀ z ∈ l,∀ w ∈ l,vdet (vsb y x) (vsb z x) (vsb w x)=0
def same (l m:List V3):Prop:=∀ x,x ∈ l ↔ x ∈ m
def lessH:List V3→List V3
 | []=>[]
 | a::t=>t.map fun q=>vsb q a
noncomputable def dm (l:List V3):Nat:=rkN (lessH l)
theorem rk_1 {l:List V3} {n:Nat} (h:Rk l n):n<1 ↔ ∀ a ∈ l,a=v0:=by
 constructor
 · intro hn
   rcases h with ⟨_,h⟩|⟨e,_⟩|⟨e,_⟩|⟨e,_⟩
   · exact h
   all_goals omega
 · intro hz
   rcases h with ⟨e,_⟩|⟨_,⟨a,ha,h1⟩,_⟩|⟨_,⟨a,ha,b,hb,h1⟩,_⟩|⟨_,a,ha,b,hb,c,hc,h1⟩
   · omega
   · exact absurd (hz a ha) h1
   · exact absurd (hz a ha) (cr_nz h1)
   · exact absurd (hz b hb) (cr_nz (det_cr h1))
theorem rk_2 {l:List V3} {n:Nat} (h:Rk l n):n<2 ↔ ∀ a ∈ l,∀ b ∈ l,vcr a b=v0:=by
 constructor
 · intro hn
   rcases h with ⟨_,h⟩|⟨_,_,h⟩|⟨e,_⟩|⟨e,_⟩
   · intro a ha b hb; rw [h a ha]; exact cr_zl b
   · exact h
   all_goals omega
 · intro hz
   rcases h with ⟨e,_⟩|⟨e,_⟩|⟨_,⟨a,ha,b,hb,h1⟩,_⟩|⟨_,a,ha,b,hb,c,hc,h1⟩
   · omega
   · omega
   · exact absurd (hz a ha b hb) h1
   · exact absurd (hz b hb c hc) (det_cr h1)
theorem vdet_cz {a b c:V3} (h:vcr b c=v0):vdet a b c=0:=by unfold vdet; rw [h]; unfold vdt v0; simp only []; grind
theorem rk_3 {l:List V3} {n:Nat} (h:Rk l n):n<3 ↔ ∀ a ∈ l,∀ b ∈ l,∀ c ∈ l,vdet a b c=0:=by
 constructor
 · intro hn
   rcases h with ⟨_,h⟩|⟨_,_,h⟩|⟨_,_,h⟩|⟨e,_⟩
   · intro a ha b hb c hc; rw [h b hb]; exact vdet_cz (cr_zl c)
   · intro a ha b hb c hc; exact vdet_cz (h b hb c hc)
   · exact h
   · omega
 · intro hz
   rcases h with ⟨e,_⟩|⟨e,_⟩|⟨e,_⟩|⟨_,a,ha,b,hb,c,hc,h1⟩
   · omega
   · omega
   · omega
   · exact absurd (hz a ha b hb c hc) h1
theorem rk_le {l:List V3} {n:Nat} (h:Rk l n):n≤3:=by
 rcases h with ⟨e,_⟩|⟨e,_⟩|⟨e,_⟩|⟨e,_⟩<;>omega
theorem dm_le (l:List V3):dm l≤3:=rk_le (rkN_ok _)
theorem vsb_self (a:V3):vsb a a=v0:=by rw [v0_iff]; unfold vsb; simp only []; exact ⟨by grind,by grind,by grind⟩
theorem vsb_0 {a b:V3}:vsb a b=v0 ↔ a=b:=by
 rw [v0_iff]; unfold vsb; simp only []
 exact ⟨fun ⟨h1,h2,h3⟩=>v3_ext (by grind) (by grind) (by grind),fun h=>by rw [h]; exact ⟨by grind,by grind,by grind⟩⟩
theorem dm_1 (l:List V3):dm l<1 ↔ A0 l:=by
 unfold dm
 rw [rk_1 (rkN_ok _)]
 cases l with
 | nil=>exact ⟨fun _ x hx=>by simp at hx,fun _ x hx=>by simp [lessH] at hx⟩
 | cons o t =>
   simp only [lessH,List.mem_map,forall_exists_index,and_imp,forall_apply_eq_imp_iff₂]
   constructor
   · intro h
     have k:∀ x ∈ o::t,x=o:=fun x hx=>by
      rcases List.mem_cons.1 hx with rfl|hx
      · rfl
      · exact vsb_0.1 (h x hx)
     intro x hx y hy; rw [k x hx,k y hy]
   · intro h x hx; exact vsb_0.2 (h x (List.mem_cons_of_mem _ hx) o List.mem_cons_self)
theorem vcr_sub (x y z o:V3):vcr (vsb y x) (vsb z x)=vad (vsb (vcr (vsb y o) (vsb z o)) (vcr (vsb y o) (vsb x o))) (vsc (-1) (vcr (vsb x o) (vsb z o))):=by
 unfold vcr vsb vad vsc; refine v3_ext ?_ ?_ ?_<;>(simp only []; grind)
theorem vdet_sub (x y z w o:V3):vdet (vsb y x) (vsb z x) (vsb w x)=vdet (vsb y o) (vsb z o) (vsb w o)-vdet (vsb x o) (vsb z o) (vsb w o)-vdet (vsb y o) (vsb x o) (vsb w o)-vdet (vsb y o) (vsb z o) (vsb x o):=by
 unfold vdet vdt vcr vsb; simp only []; grind
theorem dm_2 (l:List V3):dm l<2 ↔ A1 l:=by
 unfold dm
 rw [rk_2 (rkN_ok _)]
 cases l with
 | nil=>exact ⟨fun _ x hx=>by simp at hx,fun _ x hx=>by simp [lessH] at hx⟩
 | cons o t =>
   simp only [lessH,List.mem_map,forall_exists_index,and_imp,forall_apply_eq_imp_iff₂]
   constructor
   · intro h
     have k:∀ x ∈ o::t,∀ y ∈ o::t,vcr (vsb x o) (vsb y o)=v0:=fun x hx y hy=>by
      rcases List.mem_cons.1 hx with rfl|hx
      · rw [vsb_self]; exact vcr_v0l _
      · rcases List.mem_cons.1 hy with rfl|hy
        · rw [vsb_self]; exact vcr_v0r _
        · exact h x hx y hy
     intro x hx y hy z hz
     rw [vcr_sub x y z o,k y hy z hz,k y hy x hx,k x hx z hz]
     unfold vad vsb vsc v0; refine v3_ext ?_ ?_ ?_<;>(simp only []; grind)
   · intro h x hx y hy; exact h o List.mem_cons_self x (List.mem_cons_of_mem _ hx) y (List.mem_cons_of_mem _ hy)
theorem vdet_v0 (a b:V3):vdet v0 a b=0∧vdet a v0 b=0∧vdet a b v0=0:=by unfold vdet vdt vcr v0; simp only []; exact ⟨by grind,by grind,by grind⟩
theorem dm_3 (l:List V3):dm l<3 ↔ A2 l:=by
 unfold dm
 rw [rk_3 (rkN_ok _)]
 cases l with
 | nil=>exact ⟨fun _ x hx=>by simp at hx,fun _ x hx=>by simp [lessH] at hx⟩
 | cons o t =>
   simp only [lessH,List.mem_map,forall_exists_index,and_imp,forall_apply_eq_imp_iff₂]
   constructor
   · intro h
     have k:∀ x ∈ o::t,∀ y ∈ o::t,∀ z ∈ o::t,vdet (vsb x o) (vsb y o) (vsb z o)=0:=fun x hx y hy z hz=>by
      rcases List.mem_cons.1 hx with rfl|hx
      · rw [vsb_self]; exact (vdet_v0 _ _).1
      · rcases List.mem_cons.1 hy with rfl|hy
        · rw [vsb_self]; exact (vdet_v0 _ _).2.1
        · rcases List.mem_cons.1 hz with rfl|hz
          · rw [vsb_self]; exact (vdet_v0 _ _).2.2
          · exact h x hx y hy z hz
     intro x hx y hy z hz w hw
     rw [vdet_sub x y z w o,k y hy z hz w hw,k x hx z hz w hw,k y hy x hx w hw,k y hy z hz x hx]; grind
   · intro h x hx y hy z hz; exact h o List.mem_cons_self x (List.mem_cons_of_mem _ hx) y (List.mem_cons_of_mem _ hy) z (List.mem_cons_of_mem _ hz)
theorem dm_by {l m:List V3} (h0:A0 l ↔ A0 m) (h1:A1 l ↔ A1 m) (h2:A2 l ↔ A2 m):dm l=dm m:=by
 rw [← dm_1,← dm_1] at h0
 rw [← dm_2,← dm_2] at h1
 rw [← dm_3,← dm_3] at h2
 have:=dm_le l
 have:=dm_le m
 omega
theorem dm_same {l m:List V3} (h:same l m):dm l=dm m:=by
 unfold same at h
 refine dm_by ?_ ?_ ?_
 · unfold A0; simp only [h]
 · unfold A1; simp only [h]
 · unfold A2; simp only [h]
theorem dm_mono {l m:List V3} (h:∀ x ∈ l,x ∈ m):dm l≤dm m:=by
 have a0:A0 m→A0 l:=fun k x hx y hy=>k x (h x hx) y (h y hy)
 have a1:A1 m→A1 l:=fun k x hx y hy z hz=>k x (h x hx) y (h y hy) z (h z hz)
 have a2:A2 m→A2 l:=fun k x hx y hy z hz w hw=>k x (h x hx) y (h y hy) z (h z hz) w (h w hw)
 rw [← dm_1,← dm_1] at a0
 rw [← dm_2,← dm_2] at a1
 rw [← dm_3,← dm_3] at a2
 have:=dm_le l
 have:=dm_le m
 omega
theorem dm_map {k:Rat} (hk:k ≠ 0) (v:V3) (l:List V3):dm (l.map fun a=>vad (vsc k a) v)=dm l:=by
 have e1:∀ x y:V3,vsb (vad (vsc k y) v) (vad (vsc k x) v)=vsc k (vsb y x):=fun x y=>by unfold vsb vad vsc; refine v3_ext ?_ ?_ ?_<;>(simp only []; grind)
 have e2:∀ a b:V3,vcr (vsc k a) (vsc k b)=vsc (k*k) (vcr a b):=fun a b=>by unfold vcr vsc; refine v3_ext ?_ ?_ ?_<;>(simp only []; grind)
 have e3:∀ a b c:V3,vdet (vsc k a) (vsc k b) (vsc k c)=k*k*k*vdet a b c:=fun a b c=>by unfold vdet vdt vcr vsc; simp only []; grind
 have z1:∀ (k:Rat) (a:V3),k ≠ 0→(vsc k a=v0 ↔ a=v0):=fun k a hk=>⟨fun h=>by
  by_cases c:a=v0
  · exact c
  · exact absurd h (vsc_nz hk c),fun h=>by rw [h,sc_v0]⟩
 have kk:k*k ≠ 0:=fun h=>hk ((Rat.mul_eq_zero.1 h).elim id id)
 have kkk:k*k*k ≠ 0:=fun h=>(Rat.mul_eq_zero.1 h).elim kk hk
 refine dm_by ?_ ?_ ?_
 · unfold A0
   simp only [List.mem_map,forall_exists_index,and_imp,forall_apply_eq_imp_iff₂]
   constructor
   · intro h x hx y hy; have:=vsb_0.2 (h x hx y hy); rw [e1,z1 k _ hk] at this; exact vsb_0.1 this
   · intro h x hx y hy; rw [h x hx y hy]
 · unfold A1
   simp only [List.mem_map,forall_exists_index,and_imp,forall_apply_eq_imp_iff₂,e1,e2,z1 _ _ kk]
 · unfold A2
   simp only [List.mem_map,forall_exists_index,and_imp,forall_apply_eq_imp_iff₂,e1,e3]
   constructor
   · intro h x hx y hy z hz w hw; exact (Rat.mul_eq_zero.1 (h x hx y hy z hz w hw)).resolve_left kkk
   · intro h x hx y hy z hz w hw; rw [h x hx y hy z hz w hw]; grind
end Go.Proofs.YtapddfjimhohcaaGreatDoor.AM
/- The document's vectors. -/
namespace Go.Proofs.YtapddfjimhohcaaGreatDoor.AM
set_option linter.all false
set_option autoImplicit true
set_option relaxedAutoImplicit true
open Go Go.Proofs
set_option maxRecDepth 100000
set_option maxHeartbeats 8000000
set_option linter.unusedSimpArgs false
variable {P:Program}
def cellsW:List AV→Option V3
 | [.opq (.rfrac (x)),.pad,.pad,.opq (.rfrac (y)),.pad,.pad,.opq (.rfrac (z)),.pad,.pad]=>some (x,y,z)
 | _=>none
theorem cellsW_eq (x y z):cellsW [.opq (.rfrac (x)),.pad,.pad,.opq (.rfrac (y)),.pad,.pad,.opq (.rfrac (z)),.pad,.pad]=some (x,y,z):=rfl
theorem cellsW_inv {A:List AV} {a:V3} (h:cellsW A=some a):A=[.opq (.rfrac (a.1)),.pad,.pad,.opq (.rfrac (a.2.1)),.pad,.pad,.opq (.rfrac (a.2.2)),.pad,.pad]:=by
 unfold cellsW at h
 split at h
 · simp only [Option.some.injEq] at h; subst h; rfl
 · simp at h
def rawX:AV→Option V3
 | .agg A=>cellsW A
 | _=>none
theorem rawX_eq (A):rawX (.agg A)=cellsW A:=rfl
theorem rawX_inv {v:AV} {a:V3} (h:rawX v=some a):v=(.agg [.opq (.rfrac (a.1)),.pad,.pad,.opq (.rfrac (a.2.1)),.pad,.pad,.opq (.rfrac (a.2.2)),.pad,.pad]):=by
 unfold rawX at h
 split at h
 · rw [cellsW_inv h]
 · simp at h
noncomputable def onX1 (f:V3→Prop × AV):List AV→Option (Prop × AV)
 | [x]=>(rawX x).map f
 | _=>none
noncomputable def onX2 (f:V3→V3→Prop × AV):List AV→Option (Prop × AV)
 | [x,y]=>(rawX x).bind fun a=>(rawX y).map fun b=>f a b
 | _=>none
theorem onX1_eq (f x):onX1 f [x]=(rawX x).map f:=rfl
theorem onX2_eq (f x y):onX2 f [x,y]=(rawX x).bind fun a=>(rawX y).map fun b=>f a b:=rfl
theorem onX1_ok {fi:Nat} {f:V3→Prop × AV} (h:∀ a,(f a).1→CSpec P fi [(.agg [.opq (.rfrac (a.1)),.pad,.pad,.opq (.rfrac (a.2.1)),.pad,.pad,.opq (.rfrac (a.2.2)),.pad,.pad])] (f a).2) (args p r) (he:onX1 f args=some (p,r)) (hp:p):CSpec P fi args r:=by
 unfold onX1 at he
 split at he
 · simp only [Option.map_eq_some_iff] at he
   obtain ⟨a,h1,h2⟩:=he
   have:=h a (by rw [h2]; exact hp)
   rw [h2] at this; rw [rawX_inv h1]; exact this
 · simp at he
theorem onX2_ok {fi:Nat} {f:V3→V3→Prop × AV} (h:∀ a b,(f a b).1→CSpec P fi [(.agg [.opq (.rfrac (a.1)),.pad,.pad,.opq (.rfrac (a.2.1)),.pad,.pad,.opq (.rfrac (a.2.2)),.pad,.pad]),(.agg [.opq (.rfrac (b.1)),.pad,.pad,.opq (.rfrac (b.2.1)),.pad,.pad,.opq (.rfrac (b.2.2)),.pad,.pad])] (f a b).2) (args p r) (he:onX2 f args=some (p,r)) (hp:p):CSpec P fi args r:=by
 unfold onX2 at he
 split at he
 · simp only [Option.bind_eq_some_iff,Option.map_eq_some_iff] at he
   obtain ⟨a,h1,b,h3,h2⟩:=he
   have:=h a b (by rw [h2]; exact hp)
   rw [h2] at this; rw [rawX_inv h1,rawX_inv h3]; exact this
 · simp at he
attribute [go_sem] cellsW_eq rawX_eq onX1_eq onX2_eq
theorem qaddneg (a b:Rat):qadd a (qneg b)=qsub a b:=by rw [qsub_eq,qadd_eq,qneg_eq,Rat.sub_eq_add_neg]
theorem rvInts_spec (hP:PrgOk P) (x y z:Int) (hx : -9223372036854775808≤x∧x≤9223372036854775807) (hy : -9223372036854775808≤y∧y≤9223372036854775807) (hz : -9223372036854775808≤z∧z≤9223372036854775807):CSpec P 86 [.int .i64 x,.int .i64 y,.int .i64 z] (.agg [.opq (.rfrac ((x:Rat))),.pad,.pad,.opq (.rfrac ((y:Rat))),.pad,.pad,.opq (.rfrac ((z:Rat))),.pad,.pad]):=by
 have HE:=Vt5_all hP TF hP.tF
 obtain ⟨x1,x2⟩:=hx
 obtain ⟨y1,y2⟩:=hy
 obtain ⟨z1,z2⟩:=hz
 refine CSpec_go (E:=⟨TF,Vt5⟩) (fn86 hP) HE hP.mix ?_
 simp only [go_sem,x1,x2,y1,y2,z1,z2]
 exact fin_z
def rvIntsS:List AV→Option (Prop × AV)
 | [.int .i64 x,.int .i64 y,.int .i64 z]=>some ((-9223372036854775808≤x∧x≤9223372036854775807)∧(-9223372036854775808≤y∧y≤9223372036854775807)∧(-9223372036854775808≤z∧z≤9223372036854775807),(.agg [.opq (.rfrac ((x:Rat))),.pad,.pad,.opq (.rfrac ((y:Rat))),.pad,.pad,.opq (.rfrac ((z:Rat))),.pad,.pad]))
 | _=>none
theorem rvIntsS_ok (hP:PrgOk P) (args p r) (h:rvIntsS args=some (p,r)) (hp:p):CSpec P 86 args r:=by
 unfold rvIntsS at h
 split at h
 · simp only [Option.some.injEq,Prod.mk.injEq] at h
   obtain ⟨rfl,rfl⟩:=h
   exact rvInts_spec hP _ _ _ hp.1 hp.2.1 hp.2.2
 · simp at h
theorem rvAdd_spec (hP:PrgOk P) (a b:V3) (ha:fV a FB) (hb:fV b FB):CSpec P 76 [(.agg [.opq (.rfrac (a.1)),.pad,.pad,.opq (.rfrac (a.2.1)),.pad,.pad,.opq (.rfrac (a.2.2)),.pad,.pad]),(.agg [.opq (.rfrac (b.1)),.pad,.pad,.opq (.rfrac (b.2.1)),.pad,.pad,.opq (.rfrac (b.2.2)),.pad,.pad])] (.agg [.opq (.rfrac (qadd a.1 b.1)),.pad,.pad,.opq (.rfrac (qadd a.2.1 b.2.1)),.pad,.pad,.opq (.rfrac (qadd a.2.2 b.2.2)),.pad,.pad]):=by
 have HE:=Vt5_all hP TF hP.tF
 obtain ⟨a1,a2,a3⟩:=ha
 obtain ⟨b1,b2,b3⟩:=hb
 refine CSpec_go (E:=⟨TF,Vt5⟩) (fn76 hP) HE hP.mix ?_
 simp only [go_sem,a1,a2,a3,b1,b2,b3]
 exact fin_z
noncomputable def rvAddS:List AV→Option (Prop × AV):=onX2 fun a b=>(fV a FB∧fV b FB,(.agg [.opq (.rfrac (qadd a.1 b.1)),.pad,.pad,.opq (.rfrac (qadd a.2.1 b.2.1)),.pad,.pad,.opq (.rfrac (qadd a.2.2 b.2.2)),.pad,.pad]))
theorem rvAddS_ok (hP:PrgOk P) (args p r):rvAddS args=some (p,r)→p→CSpec P 76 args r:=onX2_ok (fun a b h=>by exact rvAdd_spec hP a b h.1 h.2) args p r
theorem rvNeg_spec (hP:PrgOk P) (a:V3):CSpec P 89 [(.agg [.opq (.rfrac (a.1)),.pad,.pad,.opq (.rfrac (a.2.1)),.pad,.pad,.opq (.rfrac (a.2.2)),.pad,.pad])] (.agg [.opq (.rfrac (qneg a.1)),.pad,.pad,.opq (.rfrac (qneg a.2.1)),.pad,.pad,.opq (.rfrac (qneg a.2.2)),.pad,.pad]):=by
 have HE:=Vt5_all hP TF hP.tF
 refine CSpec_go (E:=⟨TF,Vt5⟩) (fn89 hP) HE hP.mix ?_
 simp only [go_sem]
 exact fin_z
noncomputable def rvNegS:List AV→Option (Prop × AV):=onX1 fun a=>(True,(.agg [.opq (.rfrac (qneg a.1)),.pad,.pad,.opq (.rfrac (qneg a.2.1)),.pad,.pad,.opq (.rfrac (qneg a.2.2)),.pad,.pad]))
theorem rvNegS_ok (hP:PrgOk P) (args p r):rvNegS args=some (p,r)→p→CSpec P 89 args r:=onX1_ok (fun a _=>by exact rvNeg_spec hP a) args p r
theorem rvScale_spec (hP:PrgOk P) (k:Rat) (a:V3) (hk:fl k≤FB) (ha:fV a FB):CSpec P 77 [(.agg [.opq (.rfrac (k)),.pad,.pad]),(.agg [.opq (.rfrac (a.1)),.pad,.pad,.opq (.rfrac (a.2.1)),.pad,.pad,.opq (.rfrac (a.2.2)),.pad,.pad])] (.agg [.opq (.rfrac (qmul k a.1)),.pad,.pad,.opq (.rfrac (qmul k a.2.1)),.pad,.pad,.opq (.rfrac (qmul k a.2.2)),.pad,.pad]):=by
 have HE:=Vt5_all hP TF hP.tF
 obtain ⟨a1,a2,a3⟩:=ha
 refine CSpec_go (E:=⟨TF,Vt5⟩) (fn77 hP) HE hP.mix ?_
 simp only [go_sem,hk,a1,a2,a3]
 exact fin_z
noncomputable def rvScaleS:List AV→Option (Prop × AV)
 | [k,x]=>(rawRF k).bind fun k=>(rawX x).map fun a=>(k.1∧fl k.2≤FB∧fV a FB,(.agg [.opq (.rfrac (qmul k.2 a.1)),.pad,.pad,.opq (.rfrac (qmul k.2 a.2.1)),.pad,.pad,.opq (.rfrac (qmul k.2 a.2.2)),.pad,.pad]))
 | _=>none
theorem rvScaleS_eq (k x):rvScaleS [k,x]=(rawRF k).bind fun k=>(rawX x).map fun a=>(k.1∧fl k.2≤FB∧fV a FB,(.agg [.opq (.rfrac (qmul k.2 a.1)),.pad,.pad,.opq (.rfrac (qmul k.2 a.2.1)),.pad,.pad,.opq (.rfrac (qmul k.2 a.2.2)),.pad,.pad])):=rfl
theorem rvScaleS_ok (hP:PrgOk P) (args p r) (he:rvScaleS args=some (p,r)) (hp:p):CSpec P 77 args r:=by
 unfold rvScaleS at he
 split at he
 · simp only [Option.bind_eq_some_iff,Option.map_eq_some_iff,Prod.exists,Prod.mk.injEq] at he
   obtain ⟨q,k,h1,x,y,z,h2,rfl,rfl⟩:=he
   rw [rawX_inv h2]
   exact (rvScale_spec hP k (x,y,z) hp.2.1 hp.2.2).cv (rawRF_cv h1 hp.1 (.refl _))
 · simp at he
theorem rvDot_spec (hP:PrgOk P) (a b:V3) (ha:fV a 67108864) (hb:fV b 67108864):CSpec P 42 [(.agg [.opq (.rfrac (a.1)),.pad,.pad,.opq (.rfrac (a.2.1)),.pad,.pad,.opq (.rfrac (a.2.2)),.pad,.pad]),(.agg [.opq (.rfrac (b.1)),.pad,.pad,.opq (.rfrac (b.2.1)),.pad,.pad,.opq (.rfrac (b.2.2)),.pad,.pad])] (.agg [.opq (.rfrac (qdt a b)),.pad,.pad]):=by
 have HE:=Vt5_all hP TF hP.tF
 obtain ⟨a1,a2,a3⟩:=ha
 obtain ⟨b1,b2,b3⟩:=hb
 have i1:=Nat.le_trans a1 (show _≤FB by decide)
 have i2:=Nat.le_trans a2 (show _≤FB by decide)
 have i3:=Nat.le_trans a3 (show _≤FB by decide)
 have j1:=Nat.le_trans b1 (show _≤FB by decide)
 have j2:=Nat.le_trans b2 (show _≤FB by decide)
 have j3:=Nat.le_trans b3 (show _≤FB by decide)
 have p1:=Nat.le_trans (fl_qmul a1 b1) (show _≤FB by decide)
 have p2:=Nat.le_trans (fl_qmul a2 b2) (show _≤FB by decide)
 have p3:=Nat.le_trans (fl_qmul a3 b3) (show _≤FB by decide)
 have s1:=Nat.le_trans (fl_qadd (fl_qmul a1 b1) (fl_qmul a2 b2)) (show _≤FB by decide)
 unfold qdt
 refine CSpec_go (E:=⟨TF,Vt5⟩) (fn42 hP) HE hP.mix ?_
 simp only [go_sem,i1,i2,i3,j1,j2,j3,p1,p2,p3,s1]
 exact fin_z
noncomputable def rvDotS:List AV→Option (Prop × AV):=onX2 fun a b=>(fV a 67108864∧fV b 67108864,(.agg [.opq (.rfrac (qdt a b)),.pad,.pad]))
theorem rvDotS_ok (hP:PrgOk P) (args p r):rvDotS args=some (p,r)→p→CSpec P 42 args r:=onX2_ok (fun a b h=>by exact rvDot_spec hP a b h.1 h.2) args p r
def pickI (i:Int) (a:V3):Rat:=if i=0 then a.1 else if i=1 then a.2.1 else a.2.2
theorem pickI_0 (x y z):pickI 0 (x,y,z)=x:=rfl
theorem pickI_1 (x y z):pickI 1 (x,y,z)=y:=rfl
theorem pickI_2 (x y z):pickI 2 (x,y,z)=z:=rfl
theorem rvMin_spec (hP:PrgOk P) (a b:V3) (i j:Int) (hi:i=0∨i=1∨i=2) (hj:j=0∨j=1∨j=2) (ha:fV a 268435456) (hb:fV b 268435456):CSpec P 112 [(.agg [.opq (.rfrac (a.1)),.pad,.pad,.opq (.rfrac (a.2.1)),.pad,.pad,.opq (.rfrac (a.2.2)),.pad,.pad]),(.agg [.opq (.rfrac (b.1)),.pad,.pad,.opq (.rfrac (b.2.1)),.pad,.pad,.opq (.rfrac (b.2.2)),.pad,.pad]),.int .i64 i,.int .i64 j] (.agg [.opq (.rfrac (qsub (qmul (pickI i a) (pickI j b)) (qmul (pickI j a) (pickI i b)))),.pad,.pad]):=by
 have HE:=Vt5_all hP TF hP.tF
 obtain ⟨x1,y1,z1⟩:=a
 obtain ⟨x2,y2,z2⟩:=b
 obtain ⟨a1,a2,a3⟩:=ha
 obtain ⟨b1,b2,b3⟩:=hb
 simp only [] at a1 a2 a3 b1 b2 b3 ⊢
 have n1:(1:Int).toNat=1:=rfl
 have n2:(2:Int).toNat=2:=rfl
 have hm:∀ {x y:Rat},fl x≤268435456→fl y≤268435456→fl (qmul x y)≤FB:=fun h h'=>Nat.le_trans (fl_qmul h h') (by decide)
 have hl:∀ {x:Rat},fl x≤268435456→fl x≤FB:=fun h=>Nat.le_trans h (by decide)
 rcases hi with rfl|rfl|rfl<;>rcases hj with rfl|rfl|rfl
 all_goals
  simp only [pickI_0,pickI_1,pickI_2]
  refine CSpec_go (E:=⟨TF,Vt5⟩) (fn112 hP) HE hP.mix ?_
  simp only [go_sem,n1,n2,hl a1,hl a2,hl a3,hl b1,hl b2,hl b3,hm a1 b1,hm a1 b2,hm a1 b3,hm a2 b1,hm a2 b2,hm a2 b3,hm a3 b1,hm a3 b2,hm a3 b3]
  exact fin_z
noncomputable def rvMinS:List AV→Option (Prop × AV)
 | [x,y,.int .i64 i,.int .i64 j]=>(rawX x).bind fun a=>(rawX y).map fun b=>((i=0∨i=1∨i=2)∧(j=0∨j=1∨j=2)∧fV a 268435456∧fV b 268435456,(.agg [.opq (.rfrac (qsub (qmul (pickI i a) (pickI j b)) (qmul (pickI j a) (pickI i b)))),.pad,.pad]))
 | _=>none
theorem rvMinS_eq (x y i j):rvMinS [x,y,.int .i64 i,.int .i64 j]=(rawX x).bind fun a=>(rawX y).map fun b=>((i=0∨i=1∨i=2)∧(j=0∨j=1∨j=2)∧fV a 268435456∧fV b 268435456,(.agg [.opq (.rfrac (qsub (qmul (pickI i a) (pickI j b)) (qmul (pickI j a) (pickI i b)))),.pad,.pad])):=rfl
theorem rvMinS_ok (hP:PrgOk P) (args p r) (he:rvMinS args=some (p,r)) (hp:p):CSpec P 112 args r:=by
 unfold rvMinS at he
 split at he
 · simp only [Option.bind_eq_some_iff,Option.map_eq_some_iff,Prod.mk.injEq] at he
   obtain ⟨a,h1,b,h2,rfl,rfl⟩:=he
   rw [rawX_inv h1,rawX_inv h2]
   exact rvMin_spec hP a b _ _ hp.1 hp.2.1 hp.2.2.1 hp.2.2.2
 · simp at he
attribute [go_sem] rvIntsS rvAddS rvNegS rvScaleS_eq rvDotS rvMinS_eq pickI_0 pickI_1 pickI_2
noncomputable def Xt0:Nat→List AV→Option (Prop × AV):=addS (addS (addS (addS (addS (addS Vt5 86 rvIntsS) 76 rvAddS) 89 rvNegS) 77 rvScaleS) 42 rvDotS) 112 rvMinS
theorem Xt0_all (hP:PrgOk P) (T) (hT:TyOk P T):EnvOk P ⟨T,Xt0⟩:=(((((((Vt5_all hP T hT).add (rvIntsS_ok hP)).add (rvAddS_ok hP)).add (rvNegS_ok hP)).add (rvScaleS_ok hP)).add (rvDotS_ok hP)).add (rvMinS_ok hP))
theorem Xt0_at (f a):Xt0 f a=(addS (addS (addS (addS (addS (addS Vt5 86 rvIntsS) 76 rvAddS) 89 rvNegS) 77 rvScaleS) 42 rvDotS) 112 rvMinS) f a:=rfl
attribute [go_sem] Xt0_at
theorem rvSub_spec (hP:PrgOk P) (a b:V3) (ha:fV a FB) (hb:fV b FB):CSpec P 43 [(.agg [.opq (.rfrac (a.1)),.pad,.pad,.opq (.rfrac (a.2.1)),.pad,.pad,.opq (.rfrac (a.2.2)),.pad,.pad]),(.agg [.opq (.rfrac (b.1)),.pad,.pad,.opq (.rfrac (b.2.1)),.pad,.pad,.opq (.rfrac (b.2.2)),.pad,.pad])] (.agg [.opq (.rfrac (qsub a.1 b.1)),.pad,.pad,.opq (.rfrac (qsub a.2.1 b.2.1)),.pad,.pad,.opq (.rfrac (qsub a.2.2 b.2.2)),.pad,.pad]):=by
 have HE:=Xt0_all hP TF hP.tF
 obtain ⟨a1,a2,a3⟩:=ha
 obtain ⟨b1,b2,b3⟩:=hb
 have n1:=fl_qneg b1
 have n2:=fl_qneg b2
 have n3:=fl_qneg b3
 refine CSpec_go (E:=⟨TF,Xt0⟩) (fn43 hP) HE hP.mix ?_
 simp only [go_sem,a1,a2,a3,n1,n2,n3,qaddneg]
 exact fin_z
noncomputable def rvSubS:List AV→Option (Prop × AV):=onX2 fun a b=>(fV a FB∧fV b FB,(.agg [.opq (.rfrac (qsub a.1 b.1)),.pad,.pad,.opq (.rfrac (qsub a.2.1 b.2.1)),.pad,.pad,.opq (.rfrac (qsub a.2.2 b.2.2)),.pad,.pad]))
theorem rvSubS_ok (hP:PrgOk P) (args p r):rvSubS args=some (p,r)→p→CSpec P 43 args r:=onX2_ok (fun a b h=>by exact rvSub_spec hP a b h.1 h.2) args p r
theorem rvCross_spec (hP:PrgOk P) (a b:V3) (ha:fV a 268435456) (hb:fV b 268435456):CSpec P 74 [(.agg [.opq (.rfrac (a.1)),.pad,.pad,.opq (.rfrac (a.2.1)),.pad,.pad,.opq (.rfrac (a.2.2)),.pad,.pad]),(.agg [.opq (.rfrac (b.1)),.pad,.pad,.opq (.rfrac (b.2.1)),.pad,.pad,.opq (.rfrac (b.2.2)),.pad,.pad])] (.agg [.opq (.rfrac ((vcq a b).1)),.pad,.pad,.opq (.rfrac ((vcq a b).2.1)),.pad,.pad,.opq (.rfrac ((vcq a b).2.2)),.pad,.pad]):=by
 have HE:=Xt0_all hP TF hP.tF
 obtain ⟨x1,y1,z1⟩:=a
 obtain ⟨x2,y2,z2⟩:=b
 obtain ⟨a1,a2,a3⟩:=ha
 obtain ⟨b1,b2,b3⟩:=hb
 simp only [] at a1 a2 a3 b1 b2 b3
 have d1:((1:Int)=0∨(1:Int)=1∨(1:Int)=2)=True:=eq_true (by decide)
 have d2:((2:Int)=0∨(2:Int)=1∨(2:Int)=2)=True:=eq_true (by decide)
 have d0:((0:Int)=0∨(0:Int)=1∨(0:Int)=2)=True:=eq_true (by decide)
 unfold vcq
 simp only []
 refine CSpec_go (E:=⟨TF,Xt0⟩) (fn74 hP) HE hP.mix ?_
 simp only [go_sem,a1,a2,a3,b1,b2,b3,d0,d1,d2]
 (repeat' (first|exact Conv.refl _|refine And.intro ?_ ?_))<;>first|omega|decide|simp
noncomputable def rvCrossS:List AV→Option (Prop × AV):=onX2 fun a b=>(fV a 268435456∧fV b 268435456,(.agg [.opq (.rfrac ((vcq a b).1)),.pad,.pad,.opq (.rfrac ((vcq a b).2.1)),.pad,.pad,.opq (.rfrac ((vcq a b).2.2)),.pad,.pad]))
theorem rvCrossS_ok (hP:PrgOk P) (args p r):rvCrossS args=some (p,r)→p→CSpec P 74 args r:=onX2_ok (fun a b h=>by exact rvCross_spec hP a b h.1 h.2) args p r
theorem rvZero_spec (hP:PrgOk P) (a:V3):CSpec P 39 [(.agg [.opq (.rfrac (a.1)),.pad,.pad,.opq (.rfrac (a.2.1)),.pad,.pad,.opq (.rfrac (a.2.2)),.pad,.pad])] (.bool (decide (a=v0))):=by
 have HE:=Xt0_all hP TF hP.tF
 rw [← zrV_eq]
 unfold zrV
 refine CSpec_go (E:=⟨TF,Xt0⟩) (fn39 hP) HE hP.mix ?_
 by_cases c1:a.1=0
 · have c1':=decide_eq_true c1
   by_cases c2:a.2.1=0
   · have c2':=decide_eq_true c2
     simp only [go_sem,cmpQ_z,c1',c2']
     exact fin_z
   · have c2':=decide_eq_false c2
     simp only [go_sem,cmpQ_z,c1',c2']
     exact fin_z
 · have c1':=decide_eq_false c1
   simp only [go_sem,cmpQ_z,c1']
   exact fin_z
noncomputable def rvZeroS:List AV→Option (Prop × AV):=onX1 fun a=>(True,.bool (decide (a=v0)))
theorem rvZeroS_ok (hP:PrgOk P) (args p r):rvZeroS args=some (p,r)→p→CSpec P 39 args r:=onX1_ok (fun a _=>by exact rvZero_spec hP a) args p r
theorem rvParse_spec (hP:PrgOk P) (x y z:ByteArray) (hx:(bl x).length≤140737488355328) (hy:(bl y).length≤140737488355328) (hz:(bl z).length≤140737488355328):CSpec P 79 [.agg [.str x,.str y,.str z]] (.tup [(.agg [.opq (.rfrac ((parV (bl x) (bl y) (bl z)).1.1)),.pad,.pad,.opq (.rfrac ((parV (bl x) (bl y) (bl z)).1.2.1)),.pad,.pad,.opq (.rfrac ((parV (bl x) (bl y) (bl z)).1.2.2)),.pad,.pad]),.int .i64 (parV (bl x) (bl y) (bl z)).2]):=by
 have HE:=Xt0_all hP TF hP.tF
 have w1:IntKind.i64.wrap (0+1)=1:=rfl
 have w2:IntKind.i64.wrap (1+1)=2:=rfl
 have w3:IntKind.i64.wrap (2+1)=3:=rfl
 have n1:(1:Int).toNat=1:=rfl
 have n2:(2:Int).toNat=2:=rfl
 have le1:((0:Int)≤1)=True:=eq_true (by decide)
 have le2:((0:Int)≤2)=True:=eq_true (by decide)
 have z0:((0:Int):Rat)=0:=rfl
 have b1:((-9223372036854775808:Int)≤0∧(0:Int)≤9223372036854775807)=True:=eq_true (by decide)
 unfold parV
 refine CSpec_go (E:=⟨TF,Xt0⟩) (fn79 hP) HE hP.mix ?_
 simp only [go_sem,z0,b1]
 refine trX_once HE hP.mix 36 150 (by kernel_rfl) ?_
 by_cases c1:(parF (bl x)).2=0
 · have c1':((parF (bl x)).2 != 0)=false:=by rw [c1]; rfl
   rw [if_pos c1]
   simp only [go_sem,w1,hx,c1']
   refine goX_once HE hP.mix 36 200 (by kernel_rfl) ?_
   by_cases c2:(parF (bl y)).2=0
   · have c2':((parF (bl y)).2 != 0)=false:=by rw [c2]; rfl
     rw [if_pos c2]
     simp only [go_sem,w2,n1,le1,hy,c2']
     refine goX_once HE hP.mix 36 250 (by kernel_rfl) ?_
     by_cases c3:(parF (bl z)).2=0
     · have c3':((parF (bl z)).2 != 0)=false:=by rw [c3]; rfl
       rw [if_pos c3]
       simp only [go_sem,w3,n2,le2,hz,c3']
       refine goX_once HE hP.mix 36 300 (by kernel_rfl) ?_
       simp only [go_sem]
       exact fin_z
     · have c3':((parF (bl z)).2 != 0)=true:=by simpa using c3
       rw [if_neg c3]
       simp only [go_sem,w3,n2,le2,hz,c3',z0,b1]
       exact fin_z
   · have c2':((parF (bl y)).2 != 0)=true:=by simpa using c2
     rw [if_neg c2]
     simp only [go_sem,w2,n1,le1,hy,c2',z0,b1]
     exact fin_z
 · have c1':((parF (bl x)).2 != 0)=true:=by simpa using c1
   rw [if_neg c1]
   simp only [go_sem,w1,hx,c1',z0,b1]
   exact fin_z
noncomputable def rvParseS:List AV→Option (Prop × AV)
 | [.agg [.str x,.str y,.str z]]=>some ((bl x).length≤140737488355328∧(bl y).length≤140737488355328∧(bl z).length≤140737488355328,.tup [(.agg [.opq (.rfrac ((parV (bl x) (bl y) (bl z)).1.1)),.pad,.pad,.opq (.rfrac ((parV (bl x) (bl y) (bl z)).1.2.1)),.pad,.pad,.opq (.rfrac ((parV (bl x) (bl y) (bl z)).1.2.2)),.pad,.pad]),.int .i64 (parV (bl x) (bl y) (bl z)).2])
 | _=>none
theorem rvParseS_ok (hP:PrgOk P) (args p r) (h:rvParseS args=some (p,r)) (hp:p):CSpec P 79 args r:=by
 unfold rvParseS at h
 split at h
 · simp only [Option.some.injEq,Prod.mk.injEq] at h
   obtain ⟨rfl,rfl⟩:=h
   exact rvParse_spec hP _ _ _ hp.1 hp.2.1 hp.2.2
 · simp at h
attribute [go_sem] rvSubS rvCrossS rvZeroS rvParseS
noncomputable def Xt1:Nat→List AV→Option (Prop × AV):=addS (addS (addS (addS Xt0 43 rvSubS) 74 rvCrossS) 39 rvZeroS) 79 rvParseS
theorem Xt1_all (hP:PrgOk P) (T) (hT:TyOk P T):EnvOk P ⟨T,Xt1⟩:=(((((Xt0_all hP T hT).add (rvSubS_ok hP)).add (rvCrossS_ok hP)).add (rvZeroS_ok hP)).add (rvParseS_ok hP))
theorem Xt1_at (f a):Xt1 f a=(addS (addS (addS (addS Xt0 43 rvSubS) 74 rvCrossS) 39 rvZeroS) 79 rvParseS) f a:=rfl
attribute [go_sem] Xt1_at
theorem wPrim_spec (hP:PrgOk P) (l:List Int) (hl:l.length≤1099511627776) (hb:∀ z ∈ l,wl z≤34359738368):CSpec P 142 [.imm l.length (cl wG l)] (.imm l.length (cl wG (primL l))):=by
 have HE:=Wt4_all hP T1 hP.t1
 refine CSpec.cv ?_ (.imm (.cl .GC l) .nil)
 have hgo:groundL [.imm l.length (cl wC l)]=true:=by simp only [groundL,onlyL,AV.only,cl_only,Bool.and_true]
 refine CSpec_vc (E:=⟨T1,Wt4⟩) (fn142 hP) HE hP.mix rfl hgo rfl (Nat.le_of_ble_eq_true rfl) ?_
 have hg:=gcdL_blen l hb
 have ho1:∀ L,objOnly L (.live [.imm l.length (cl wC l)])=true:=fun L=>by simp only [objOnly,onlyL,AV.only,cl_only,Bool.and_true]
 have hoX:∀ L,∀ o:List (Bool × Int),objOnly L (.live (cl wX o))=true:=fun L o=>by simp only [objOnly,cl_only]
 simp only [go_sem]
 refine icX_any 8 (each_ic hP (M:=fun i=>upd (upd (fun _=>.unused) 0 (.live [.imm l.length (cl wC l)])) 2 (.live [.opq (.nat (gcdL (l.take i))),.pad])) (L:=[2,0]) hl (fun _=>rfl) (fun i=>((GenM.nil.upd rfl (ho1 _)).upd rfl rfl)) rfl rfl (fun i hi K' k'=>?_) fun nx=>?_)
 · refine prim2_ic hP hi rfl (hb _ (List.getElem_mem hi)) (gcdL_blen _ fun z hz=>hb z (List.mem_of_mem_take hz)) fun nx m' hm=>k' nx m' ?_
   have e:gcdL (l.take (i+1))=Nat.gcd (gcdL (l.take i)) l[i].natAbs:=by
    rw [List.take_add_one,List.getElem?_eq_getElem hi]; exact gcdL_snoc _ _
   simp only [e]; exact hm
 have hta:l.take l.length=l:=List.take_length
 have hz:(List.replicate l.length [AV.bool false,.opq (.nat 0),.pad]).flatten=cl wX (List.replicate l.length (false,0)):=cl_repl (f:=wX) l.length (false,0)
 have hck:(cl wX (List.replicate l.length (false,(0:Int)))).all AV.ck=true:=cl_ck
 simp only [go_sem,hta,hl,hz,hck,upd_upd]
 have key:∀ i,i≤l.length→((l.take i).map (stP (gcdL l))++List.replicate (l.length-i) (false,0)).length=l.length:=fun i hi=>by
  rw [List.length_append,List.length_map,List.length_take,List.length_replicate]; omega
 refine icX_any 100 (each_ic hP (M:=fun i=>M3 l (gcdL l) ((l.take i).map (stP (gcdL l))++List.replicate (l.length-i) (false,0))) (L:=[11,10,2,0]) hl (fun _=>rfl) (fun i=>((((GenM.nil.upd rfl (ho1 _)).upd rfl rfl).upd rfl (hoX _ _)).upd rfl rfl)) rfl rfl (fun i hi K' k'=>?_) fun nx=>?_)
 · refine prim3_ic hP hi (key i (by omega)) rfl (hb _ (List.getElem_mem hi)) hg fun nx m' hm=>k' nx m' ?_
   have e:((l.take i).map (stP (gcdL l))++List.replicate (l.length-i) (false,0)).set i (stP (gcdL l) l[i])=(l.take (i+1)).map (stP (gcdL l))++List.replicate (l.length-(i+1)) (false,0):=by
    have h1:((l.take i).map (stP (gcdL l))).length=i:=by rw [List.length_map,List.length_take]; omega
    rw [List.set_append_right _ _ (by omega),h1,Nat.sub_self,List.take_add_one,List.getElem?_eq_getElem hi,Option.toList_some,List.map_append,List.append_assoc,show l.length-i=(l.length-(i+1))+1 by omega,List.replicate_succ]
    rfl
   rw [← e]; exact hm
 simp only [hta,Nat.sub_self,List.replicate_zero,List.append_nil]
 have hlx:(cl wX (l.map (stP (gcdL l)))).length=l.length*3:=by rw [cl_len,List.length_map]
 have htk:(cl wX (l.map (stP (gcdL l)))).take (l.length*3)=cl wX (l.map (stP (gcdL l))):=cl_all (by rw [List.length_map])
 have hhd:AV.head (cl wX (l.map (stP (gcdL l))))=true:=cl_head
 have hdd:(cl wX (l.map (stP (gcdL l)))).drop (l.length*3)=[]:=List.drop_of_length_le (by omega)
 have hon:onlyL (fun _=>false) (cl wX (l.map (stP (gcdL l))))=true:=cl_only _
 simp only [go_sem,hlx,htk,hhd,hdd,cl_fc,cl_fv,hon,Nat.le_refl]
 have e:primL l=(l.map (stP (gcdL l))).map Prod.snd:=by
  unfold primL; rw [List.map_map]; exact List.map_congr_left fun z _=>(stP_snd _ _).symm
 rw [e]; exact CvL.conv (.imm (CvL.clm .XG _) .nil)
def wPrim3S:List AV→Option (Prop × AV)
 | [.imm 3 [.opq (.whole x),.pad,.pad,.opq (.whole y),.pad,.pad,.opq (.whole z),.pad,.pad]]=>some (wl x≤34359738368∧wl y≤34359738368∧wl z≤34359738368,.imm 3 [.opq (.whole (primZ (gcdL [x,y,z]) x)),.pad,.pad,.opq (.whole (primZ (gcdL [x,y,z]) y)),.pad,.pad,.opq (.whole (primZ (gcdL [x,y,z]) z)),.pad,.pad])
 | _=>none
theorem wPrim3S_ok (hP:PrgOk P) (args p r) (h:wPrim3S args=some (p,r)) (hp:p):CSpec P 142 args r:=by
 unfold wPrim3S at h
 split at h
 · rename_i x y z
   simp only [Option.some.injEq,Prod.mk.injEq] at h
   obtain ⟨rfl,rfl⟩:=h
   exact wPrim_spec hP [x,y,z] (show 3≤_ by decide) (fun w hw=>by
    rcases List.mem_cons.1 hw with rfl|hw
    · exact hp.1
    · rcases List.mem_cons.1 hw with rfl|hw
      · exact hp.2.1
      · rw [List.mem_singleton.1 hw]; exact hp.2.2)
 · simp at h
def dirC:List AV→Option (Prop × AV)
 | [.int .i64 i,.fref [.imm 3 [.opq (.whole x),.pad,.pad,.opq (.whole y),.pad,.pad,.opq (.whole z),.pad,.pad]]]=>if i=0 then some (True,(.agg [.opq (.frac ((x:Rat))),.pad,.pad,.pad,.pad])) else if i=1 then some (True,(.agg [.opq (.frac ((y:Rat))),.pad,.pad,.pad,.pad])) else if i=2 then some (True,(.agg [.opq (.frac ((z:Rat))),.pad,.pad,.pad,.pad])) else none
 | _=>none
theorem dirC_0 (x y z):dirC [.int .i64 0,.fref [.imm 3 [.opq (.whole x),.pad,.pad,.opq (.whole y),.pad,.pad,.opq (.whole z),.pad,.pad]]]=some (True,(.agg [.opq (.frac ((x:Rat))),.pad,.pad,.pad,.pad])):=rfl
theorem dirC_1 (x y z):dirC [.int .i64 1,.fref [.imm 3 [.opq (.whole x),.pad,.pad,.opq (.whole y),.pad,.pad,.opq (.whole z),.pad,.pad]]]=some (True,(.agg [.opq (.frac ((y:Rat))),.pad,.pad,.pad,.pad])):=rfl
theorem dirC_2 (x y z):dirC [.int .i64 2,.fref [.imm 3 [.opq (.whole x),.pad,.pad,.opq (.whole y),.pad,.pad,.opq (.whole z),.pad,.pad]]]=some (True,(.agg [.opq (.frac ((z:Rat))),.pad,.pad,.pad,.pad])):=rfl
theorem dirC_ok (hP:PrgOk P) (args p r) (h:dirC args=some (p,r)) (hp:p):CSpec P 143 args r:=by
 have HE:=Xt1_all hP TF hP.tF
 have n1:(1:Int).toNat=1:=rfl
 have n2:(2:Int).toNat=2:=rfl
 unfold dirC at h
 split at h
 · rename_i i x y z
   split at h
   · rename_i e; subst e
     simp only [Option.some.injEq,Prod.mk.injEq] at h
     obtain ⟨_,rfl⟩:=h
     refine CSpec_go (E:=⟨TF,Xt1⟩) (fn143 hP) HE hP.mix ?_
     simp only [go_sem,n1,n2]
     exact fin_z
   · split at h
     · rename_i e; subst e
       simp only [Option.some.injEq,Prod.mk.injEq] at h
       obtain ⟨_,rfl⟩:=h
       refine CSpec_go (E:=⟨TF,Xt1⟩) (fn143 hP) HE hP.mix ?_
       simp only [go_sem,n1,n2]
       exact fin_z
     · split at h
       · rename_i e; subst e
         simp only [Option.some.injEq,Prod.mk.injEq] at h
         obtain ⟨_,rfl⟩:=h
         refine CSpec_go (E:=⟨TF,Xt1⟩) (fn143 hP) HE hP.mix ?_
         simp only [go_sem,n1,n2]
         exact fin_z
       · simp at h
 · simp at h
attribute [go_sem] wPrim3S dirC_0 dirC_1 dirC_2
noncomputable def Yt0:Nat→List AV→Option (Prop × AV):=addS (addS Xt1 142 wPrim3S) 143 dirC
theorem Yt0_all (hP:PrgOk P) (T) (hT:TyOk P T):EnvOk P ⟨T,Yt0⟩:=(((Xt1_all hP T hT).add (wPrim3S_ok hP)).add (dirC_ok hP))
theorem Yt0_at (f a):Yt0 f a=(addS (addS Xt1 142 wPrim3S) 143 dirC) f a:=rfl
attribute [go_sem] Yt0_at
theorem rr_app (s:St) (x y ts):readsR s (.call { callee:=.builtin .append,args:=#[x,y],argTypes:=ts })=ids (aev s x)++ids (aev s y):=by simp [readsR,reads,looks,Op.operands,Call.operands]
attribute [go_sem] rr_app
theorem gcd_ne {m d:Nat} (h:0<d):(Nat.gcd m d=0)=False:=eq_false (by have:=Nat.gcd_pos_of_pos_right m h; omega)
theorem vDir_spec (hP:PrgOk P) (a:V3) (ha:fV a 268435456):CSpec P 120 [(.agg [.opq (.frac (a.1)),.pad,.pad,.pad,.pad,.opq (.frac (a.2.1)),.pad,.pad,.pad,.pad,.opq (.frac (a.2.2)),.pad,.pad,.pad,.pad])] (.agg [.opq (.frac (((dV a a.1:Int):Rat))),.pad,.pad,.pad,.pad,.opq (.frac (((dV a a.2.1:Int):Rat))),.pad,.pad,.pad,.pad,.opq (.frac (((dV a a.2.2:Int):Rat))),.pad,.pad,.pad,.pad]):=by
 have HE:=Yt0_all hP TF hP.tF
 obtain ⟨x,y,z⟩:=a
 obtain ⟨h1,h2,h3⟩:=ha
 simp only [] at h1 h2 h3 ⊢
 have w1:IntKind.i64.wrap (0+1)=1:=rfl
 have w2:IntKind.i64.wrap (1+1)=2:=rfl
 have w3:IntKind.i64.wrap (2+1)=3:=rfl
 have n1:(1:Int).toNat=1:=rfl
 have n2:(2:Int).toNat=2:=rfl
 have le1:((0:Int)≤1)=True:=eq_true (by decide)
 have le2:((0:Int)≤2)=True:=eq_true (by decide)
 have b1:blen 1≤68719476736:=by decide
 obtain ⟨m1,hm1⟩:∃ m,1*(x.den / Nat.gcd 1 x.den)=m:=⟨_,rfl⟩
 obtain ⟨m2,hm2⟩:∃ m,m1*(y.den / Nat.gcd m1 y.den)=m:=⟨_,rfl⟩
 obtain ⟨m3,hm3⟩:∃ m,m2*(z.den / Nat.gcd m2 z.den)=m:=⟨_,rfl⟩
 have hmV:mV (x,y,z)=m3:=by rw [← hm3,← hm2,← hm1]; rfl
 have d1:=fl_den h1
 have d2:=fl_den h2
 have d3:=fl_den h3
 have c1:blen m1≤1+268435456:=by rw [← hm1]; exact lcmD_blen (show blen 1≤1 by decide) d1
 have c2:blen m2≤1+268435456+268435456:=by rw [← hm2]; exact lcmD_blen c1 d2
 have c3:blen m3≤1+268435456+268435456+268435456:=by rw [← hm3]; exact lcmD_blen c2 d3
 have lt:(1+268435456+268435456+268435456:Nat)≤34359738368:=by decide
 have e1:blen x.den≤34359738368:=by omega
 have e2:blen y.den≤34359738368:=by omega
 have e3:blen z.den≤34359738368:=by omega
 have f1:blen x.den≤68719476736:=by omega
 have f2:blen y.den≤68719476736:=by omega
 have f3:blen z.den≤68719476736:=by omega
 have k1:blen m1≤68719476736:=by omega
 have k2:blen m2≤68719476736:=by omega
 have k3:blen m3≤68719476736:=by omega
 have g1:blen (Nat.gcd 1 x.den)≤68719476736:=gcd_blen b1 f1
 have g2:blen (Nat.gcd m1 y.den)≤68719476736:=gcd_blen k1 f2
 have g3:blen (Nat.gcd m2 z.den)≤68719476736:=gcd_blen k2 f3
 have z1:=gcd_ne (m:=1) x.den_pos
 have z2:=gcd_ne (m:=m1) y.den_pos
 have z3:=gcd_ne (m:=m2) z.den_pos
 have q1:blen (x.den / Nat.gcd 1 x.den)≤68719476736:=blen_le_of (Nat.div_le_self _ _) f1
 have q2:blen (y.den / Nat.gcd m1 y.den)≤68719476736:=blen_le_of (Nat.div_le_self _ _) f2
 have q3:blen (z.den / Nat.gcd m2 z.den)≤68719476736:=blen_le_of (Nat.div_le_self _ _) f3
 have o1:(x.den=0)=False:=eq_false x.den_nz
 have o2:(y.den=0)=False:=eq_false y.den_nz
 have o3:(z.den=0)=False:=eq_false z.den_nz
 have r1:blen (m3 / x.den)≤34359738368:=blen_le_of (Nat.div_le_self _ _) (by omega)
 have r2:blen (m3 / y.den)≤34359738368:=blen_le_of (Nat.div_le_self _ _) (by omega)
 have r3:blen (m3 / z.den)≤34359738368:=blen_le_of (Nat.div_le_self _ _) (by omega)
 have s1:wl x.num≤34359738368:=Nat.le_trans (fl_num h1) (by decide)
 have s2:wl y.num≤34359738368:=Nat.le_trans (fl_num h2) (by decide)
 have s3:wl z.num≤34359738368:=Nat.le_trans (fl_num h3) (by decide)
 have t1:wl ((m3 / x.den:Nat):Int)≤34359738368:=r1
 have t2:wl ((m3 / y.den:Nat):Int)≤34359738368:=r2
 have t3:wl ((m3 / z.den:Nat):Int)≤34359738368:=r3
 have u0:∀ d:Nat,wl ((m3 / d:Nat):Int)≤1+268435456+268435456+268435456:=fun d=>blen_le_of (Nat.div_le_self _ _) c3
 have u1:wl (x.num*((m3 / x.den:Nat):Int))≤34359738368:=Nat.le_trans (wl_mul (fl_num h1) (u0 _)) (by decide)
 have u2:wl (y.num*((m3 / y.den:Nat):Int))≤34359738368:=Nat.le_trans (wl_mul (fl_num h2) (u0 _)) (by decide)
 have u3:wl (z.num*((m3 / z.den:Nat):Int))≤34359738368:=Nat.le_trans (wl_mul (fl_num h3) (u0 _)) (by decide)
 unfold dV gV nV
 rw [hmV]
 simp only []
 refine CSpec_go (E:=⟨TF,Yt0⟩) (fn120 hP) HE hP.mix ?_
 simp only [go_sem,le1]
 refine trX_once HE hP.mix 62 150 (by kernel_rfl) ?_
 simp only [go_sem,w1,n1,le1,b1,e1,f1,g1,z1,q1,hm1]
 refine goX_once HE hP.mix 62 200 (by kernel_rfl) ?_
 simp only [go_sem,w2,n1,le1,e2,f2,k1,g2,z2,q2,hm2]
 refine goX_once HE hP.mix 62 250 (by kernel_rfl) ?_
 simp only [go_sem,w3,n2,le2,e3,f3,k2,g3,z3,q3,hm3]
 refine goX_once HE hP.mix 62 300 (by kernel_rfl) ?_
 simp only [go_sem]
 refine trX_once HE hP.mix 62 400 (by kernel_rfl) ?_
 have v1:blen (m3 / x.den)≤68719476736:=Nat.le_trans r1 (by decide)
 have v2:blen (m3 / y.den)≤68719476736:=Nat.le_trans r2 (by decide)
 have v3:blen (m3 / z.den)≤68719476736:=Nat.le_trans r3 (by decide)
 simp only [go_sem,v1,w1,e1,f1,k3,o1,r1,s1,t1,sg_f,ne_eq,not_false_eq_true,imp_self]
 refine goX_once HE hP.mix 62 500 (by kernel_rfl) ?_
 simp only [go_sem,v2,w2,n1,le1,e2,f2,k3,o2,r2,s2,t2,sg_f,ne_eq,not_false_eq_true,imp_self]
 refine ⟨by simp,?_⟩
 refine goX_once HE hP.mix 62 600 (by kernel_rfl) ?_
 simp only [go_sem,v3,w3,n2,le2,e3,f3,k3,o3,r3,s3,t3,sg_f,ne_eq,not_false_eq_true,imp_self]
 refine ⟨by simp,?_⟩
 refine goX_once HE hP.mix 62 700 (by kernel_rfl) ?_
 simp only [go_sem,u1,u2,u3]
 refine icX_vc (E:=⟨TF,Yt0⟩) (fn51 hP) HE hP.mix rfl rfl (Nat.le_of_ble_eq_true rfl) 100 ?_
 have w1:IntKind.i64.wrap (0+1)=1:=rfl
 have w2:IntKind.i64.wrap (1+1)=2:=rfl
 have w3:IntKind.i64.wrap (2+1)=3:=rfl
 have n1:(1:Int).toNat=1:=rfl
 have n2:(2:Int).toNat=2:=rfl
 simp only [go_sem]
 refine trX_once HE hP.mix 15 150 (by kernel_rfl) ?_
 simp only [go_sem,w1,le1]
 refine goX_once HE hP.mix 15 200 (by kernel_rfl) ?_
 simp only [go_sem,w2,n1,le1]
 try refine ⟨by decide,?_⟩
 refine goX_once HE hP.mix 15 250 (by kernel_rfl) ?_
 simp only [go_sem,w3,n2,le1]
 try refine ⟨by decide,?_⟩
 refine goX_once HE hP.mix 15 300 (by kernel_rfl) ?_
 simp only [go_sem]
 unfold finX
 simp only [go_sem]
 exact .refl _
noncomputable def vDirS:List AV→Option (Prop × AV):=onV1 fun a=>(fV a 268435456,(.agg [.opq (.frac ((dirA a).1)),.pad,.pad,.pad,.pad,.opq (.frac ((dirA a).2.1)),.pad,.pad,.pad,.pad,.opq (.frac ((dirA a).2.2)),.pad,.pad,.pad,.pad]))
theorem vDirS_ok (hP:PrgOk P) (args p r):vDirS args=some (p,r)→p→CSpec P 120 args r:=onV1_ok (fun a h=>by exact vDir_spec hP a h) args p r
attribute [go_sem] vDirS
noncomputable def Yt2:Nat→List AV→Option (Prop × AV):=addS Xt1 120 vDirS
theorem Yt2_all (hP:PrgOk P) (T) (hT:TyOk P T):EnvOk P ⟨T,Yt2⟩:=((Xt1_all hP T hT).add (vDirS_ok hP))
theorem Yt2_at (f a):Yt2 f a=(addS Xt1 120 vDirS) f a:=rfl
attribute [go_sem] Yt2_at
def cV (a:V3):List AV:=[.opq (.frac (a.1)),.pad,.pad,.pad,.pad,.opq (.frac (a.2.1)),.pad,.pad,.pad,.pad,.opq (.frac (a.2.2)),.pad,.pad,.pad,.pad]
theorem fz_cV (a:V3):∀ x ∈ cV a,∀ m j,fzC m j x∧fzV m j x=x:=by
 intro x hx m j
 simp only [cV,List.mem_cons,List.not_mem_nil,or_false] at hx
 rcases hx with rfl|rfl|rfl|rfl|rfl|rfl|rfl|rfl|rfl|rfl|rfl|rfl|rfl|rfl|rfl<;>cases j<;>exact ⟨trivial,rfl⟩
instance:Wd cV 15:=⟨fun _=>rfl,by decide,fun _=>rfl,fun _=>rfl,fun _ _=>rfl,fun m j z=>(fz_flat (fz_cV z)).1 m j,fun m j z=>(fz_flat (fz_cV z)).2 m j⟩
theorem cV_drop (a:V3) {p:Nat} (hp:p<3):∃ t:List AV,List.drop (p*5) ([.opq (.frac (a.1)),.pad,.pad,.pad,.pad,.opq (.frac (a.2.1)),.pad,.pad,.pad,.pad,.opq (.frac (a.2.2)),.pad,.pad,.pad,.pad]:List AV) = .opq (.frac (pick p a)) :: .pad :: .pad :: .pad :: .pad::t∧AV.head (List.drop (p*5) ([.opq (.frac a.2.1),.pad,.pad,.pad,.pad,.opq (.frac a.2.2),.pad,.pad,.pad,.pad]:List AV))=true:=by
 rcases (show p=0∨p=1∨p=2 by omega) with rfl|rfl|rfl
 · exact ⟨_,rfl,rfl⟩
 · exact ⟨_,rfl,rfl⟩
 · exact ⟨_,rfl,rfl⟩
theorem red1_1 (r p a):qsub (qmul (pick p r) a.1) (qmul (pick p a) r.1)=(red1 r p a).1:=by rw [qsub_eq,qmul_eq,qmul_eq]; rfl
theorem red1_2 (r p a):qsub (qmul (pick p r) a.2.1) (qmul (pick p a) r.2.1)=(red1 r p a).2.1:=by rw [qsub_eq,qmul_eq,qmul_eq]; rfl
theorem red1_3 (r p a):qsub (qmul (pick p r) a.2.2) (qmul (pick p a) r.2.2)=(red1 r p a).2.2:=by rw [qsub_eq,qmul_eq,qmul_eq]; rfl
theorem fV_mono {a:V3} {n m:Nat} (h:fV a n) (hm:n≤m):fV a m:=⟨Nat.le_trans h.1 hm,Nat.le_trans h.2.1 hm,Nat.le_trans h.2.2 hm⟩
theorem fl_pick {a:V3} {n:Nat} (h:fV a n) (p:Nat):fl (pick p a)≤n:=by
 unfold pick; split
 · exact h.1
 · split
   · exact h.2.1
   · exact h.2.2
theorem red1_fV {r a:V3} {n m:Nat} (p:Nat) (hr:fV r n) (ha:fV a m):fV (red1 r p a) (n+m+(m+n)+1):=by
 have k1:=fl_pick hr p
 have k2:=fl_pick ha p
 unfold red1 vsb vsc
 exact ⟨fl_sub (fl_mul k1 ha.1) (fl_mul k2 hr.1),fl_sub (fl_mul k1 ha.2.1) (fl_mul k2 hr.2.1),fl_sub (fl_mul k1 ha.2.2) (fl_mul k2 hr.2.2)⟩
theorem dir_fV {a:V3} {n:Nat} (h:fV a n):fV (dirA a) (n+(1+n+n+n)):=by
 have hm:blen (mV a)≤1+n+n+n:=lcmD_blen (lcmD_blen (lcmD_blen (show blen 1≤1 by decide) (fl_den h.1)) (fl_den h.2.1)) (fl_den h.2.2)
 have k:∀ {x:Rat},fl x≤n→fl ((dV a x:Int):Rat)≤n+(1+n+n+n):=fun {x} hx=>by
  refine fl_int (Nat.le_trans (primZ_wl _ _) ?_) (by omega)
  unfold nV
  refine wl_mul (fl_num hx) ?_
  exact blen_le_of (Nat.div_le_self _ _) hm
 exact ⟨k h.1,k h.2.1,k h.2.2⟩
def okR:List (V3 × Nat)→Prop
 | []=>True
 | [(r,p)]=>fV r 262145∧p<3
 | [(r,p),(s,q)]=>fV r 262145∧p<3∧fV s 2621457∧q<3
 | _=>False
def FR (l:List V3):Nat × Nat × Nat × List (V3 × Nat)→St
 | (q,k,i,rows)=>match rows with
   | []=>⟨upd (upd (upd (upd (upd (upd (fun _=>.junk) 0 (.imm l.length (cl cV l))) 3 .nils) 4 .nils) 10 (.imm l.length (cl cV l))) 11 (.int .i64 (l.length:Int))) 12 (.int .i64 (i:Int)),fun _=>.unused,68⟩
   | [(r,p)]=>⟨upd (upd (upd (upd (upd (upd (fun _=>.junk) 0 (.imm l.length (cl cV l))) 3 (.sl q 0 1 15)) 4 (.sl k 0 1 1)) 10 (.imm l.length (cl cV l))) 11 (.int .i64 (l.length:Int))) 12 (.int .i64 (i:Int)),upd (upd (fun _=>.unused) q (.live [.opq (.frac (r.1)),.pad,.pad,.pad,.pad,.opq (.frac (r.2.1)),.pad,.pad,.pad,.pad,.opq (.frac (r.2.2)),.pad,.pad,.pad,.pad])) k (.live [.int .i64 (p:Int)]),68⟩
   | [(r,p),(s,p')]=>⟨upd (upd (upd (upd (upd (upd (fun _=>.junk) 0 (.imm l.length (cl cV l))) 3 (.sl q 0 2 15)) 4 (.sl k 0 2 1)) 10 (.imm l.length (cl cV l))) 11 (.int .i64 (l.length:Int))) 12 (.int .i64 (i:Int)),upd (upd (fun _=>.unused) q (.live ([.opq (.frac (r.1)),.pad,.pad,.pad,.pad,.opq (.frac (r.2.1)),.pad,.pad,.pad,.pad,.opq (.frac (r.2.2)),.pad,.pad,.pad,.pad]++[.opq (.frac (s.1)),.pad,.pad,.pad,.pad,.opq (.frac (s.2.1)),.pad,.pad,.pad,.pad,.opq (.frac (s.2.2)),.pad,.pad,.pad,.pad]))) k (.live [.int .i64 (p:Int),.int .i64 (p':Int)]),68⟩
   | _=>⟨fun _=>.junk,fun _=>.unused,68⟩
theorem stepR_none {l:List V3} {rows:List (V3 × Nat)} {a:V3} (h:nzP (redA rows a)=none):stepR dirA (a::l) rows=stepR dirA l rows:=by
 conv=>lhs; unfold stepR
 rw [h]
theorem stepR_some {l:List V3} {rows:List (V3 × Nat)} {a:V3} {p:Nat} (h:nzP (redA rows a)=some p) (hr:rows.length<2):stepR dirA (a::l) rows=stepR dirA l (rows++[(dirA (redA rows a),p)]):=by
 conv=>lhs; unfold stepR
 rw [h]
 exact if_neg (by omega)
theorem stepR_three {l:List V3} {rows:List (V3 × Nat)} {a:V3} {p:Nat} (h:nzP (redA rows a)=some p) (hr:rows.length=2):stepR dirA (a::l) rows=3:=by
 conv=>lhs; unfold stepR
 rw [h]
 exact if_pos (by omega)
theorem ad_k (a k:Nat):a+k+1=a+(k+1):=rfl
theorem FR_0 (l q k i):FR l (q,k,i,[])=⟨upd (upd (upd (upd (upd (upd (fun _=>.junk) 0 (.imm l.length (cl cV l))) 3 .nils) 4 .nils) 10 (.imm l.length (cl cV l))) 11 (.int .i64 (l.length:Int))) 12 (.int .i64 (i:Int)),fun _=>.unused,68⟩:=rfl
theorem FR_1 (l q k i r p):FR l (q,k,i,[(r,p)])=⟨upd (upd (upd (upd (upd (upd (fun _=>.junk) 0 (.imm l.length (cl cV l))) 3 (.sl q 0 1 15)) 4 (.sl k 0 1 1)) 10 (.imm l.length (cl cV l))) 11 (.int .i64 (l.length:Int))) 12 (.int .i64 (i:Int)),upd (upd (fun _=>.unused) q (.live [.opq (.frac (r.1)),.pad,.pad,.pad,.pad,.opq (.frac (r.2.1)),.pad,.pad,.pad,.pad,.opq (.frac (r.2.2)),.pad,.pad,.pad,.pad])) k (.live [.int .i64 (p:Int)]),68⟩:=rfl
theorem FR_2 (l q k i r p s p'):FR l (q,k,i,[(r,p),(s,p')])=⟨upd (upd (upd (upd (upd (upd (fun _=>.junk) 0 (.imm l.length (cl cV l))) 3 (.sl q 0 2 15)) 4 (.sl k 0 2 1)) 10 (.imm l.length (cl cV l))) 11 (.int .i64 (l.length:Int))) 12 (.int .i64 (i:Int)),upd (upd (fun _=>.unused) q (.live ([.opq (.frac (r.1)),.pad,.pad,.pad,.pad,.opq (.frac (r.2.1)),.pad,.pad,.pad,.pad,.opq (.frac (r.2.2)),.pad,.pad,.pad,.pad]++[.opq (.frac (s.1)),.pad,.pad,.pad,.pad,.opq (.frac (s.2.1)),.pad,.pad,.pad,.pad,.opq (.frac (s.2.2)),.pad,.pad,.pad,.pad]))) k (.live [.int .i64 (p:Int),.int .i64 (p':Int)]),68⟩:=rfl
theorem okR_1 {b:V3} {p:Nat} (h:fV b 65536) (hp:p<3):okR [(dirA b,p)]:=⟨fV_mono (dir_fV h) (by decide),hp⟩
theorem okR_2 {r b:V3} {p q:Nat} (hr:fV r 262145) (hp:p<3) (h:fV b 655363) (hq:q<3):okR [(r,p),(dirA b,q)]:=⟨hr,hp,fV_mono (dir_fV h) (by decide),hq⟩
theorem nz_0 {b:V3} (h:¬ b.1=0):nzP b=some 0:=by unfold nzP; rw [if_pos h]
theorem nz_1 {b:V3} (h:b.1=0) (h':¬ b.2.1=0):nzP b=some 1:=by unfold nzP; rw [if_neg (fun k=>k h),if_pos h']
theorem nz_2 {b:V3} (h:b.1=0) (h':b.2.1=0) (h2:¬ b.2.2=0):nzP b=some 2:=by unfold nzP; rw [if_neg (fun k=>k h),if_neg (fun k=>k h'),if_pos h2]
theorem nz_3 {b:V3} (h:b.1=0) (h':b.2.1=0) (h2:b.2.2=0):nzP b=none:=by unfold nzP; rw [if_neg (fun k=>k h),if_neg (fun k=>k h'),if_neg (fun k=>k h2)]
theorem vRank_spec (hP:PrgOk P) (l:List V3) (hl:l.length≤1000000) (hb:∀ a ∈ l,fV a 65536):CSpec P 92 [.imm l.length (cl cV l)] (.int .i64 (rkN l:Nat)):=by
 have HE:=Yt2_all hP TF hP.tF
 have hgo:groundL [.imm l.length (cl cV l)]=true:=by simp only [groundL,onlyL,AV.only,cl_only,Bool.and_true]
 refine CSpec_vc (E:=⟨TF,Yt2⟩) (fn92 hP) HE hP.mix rfl hgo rfl (Nat.le_of_ble_eq_true rfl) ?_
 have hro:∀ f,(AV.imm l.length (cl cV l)).only f=true:=fun f=>by simp only [AV.only,cl_only]
 have hget:∀ i (h:i<l.length),∃ a,l.drop i=a::l.drop (i+1)∧fV a 65536∧(cl cV l).drop (i*15)=[.opq (.frac (a.1)),.pad,.pad,.pad,.pad,.opq (.frac (a.2.1)),.pad,.pad,.pad,.pad,.opq (.frac (a.2.2)),.pad,.pad,.pad,.pad]++cl cV (l.drop (i+1)):=fun i h=>by
  refine ⟨l[i],List.drop_eq_getElem_cons h,hb _ (List.getElem_mem h),?_⟩
  rw [cl_drop,List.drop_eq_getElem_cons h,cl_cons]; rfl
 have hlen:∀ i,(cl cV (l.drop (i+1))).length=(l.length-(i+1))*15:=fun i=>by rw [cl_len,List.length_drop]
 have hh:∀ i,AV.head (cl cV (l.drop (i+1)))=true:=fun i=>cl_head
 simp only [go_sem]
 refine trX_loopV HE hP.mix (fun x=>match x.2.2.2 with|[]=>[]|_=>[x.2.1,x.1]) (FR l) (fun x=>x.1<x.2.1∧x.2.2.1≤l.length∧okR x.2.2.2∧stepR dirA (l.drop x.2.2.1) x.2.2.2=rkN l) (fun x=>l.length-x.2.2.1) (0,1,0,[]) (fun x=>x.2.1+1) (fun _ _ h=>absurd rfl h) ?_ ⟨by decide,Nat.zero_le _,trivial,rfl⟩ 68 (by kernel_rfl) ?_
 · exact Kept.of rfl (by repeat (first|exact KT.nil|refine KT.upd rfl (by first|rfl|exact hro _) ?_)) (KM.p .nil)
 rintro ⟨q,k,i,rows⟩ ⟨hqk,hi,hrows,hst⟩
 simp only [] at hqk hi hrows hst
 match rows,hrows,hst with
 | [],hrows0,hst =>
   simp only [FR]
   by_cases h:i<l.length
   · obtain ⟨a,ha,hba,hd⟩:=hget i h
     have hl0:=hlen i
     have hh0:=hh i
     have h15:i*15≤l.length*15:=by omega
     rw [ha] at hst
     have hwi:=wi_add1 i (by omega)
     have n1:(1:Int).toNat=1:=rfl
     have n2:(2:Int).toNat=2:=rfl
     have le1:((0:Int)≤1)=True:=eq_true (by decide)
     have le2:((0:Int)≤2)=True:=eq_true (by decide)
     have w1:IntKind.i64.wrap (0+1)=1:=rfl
     have w2:IntKind.i64.wrap (1+1)=2:=rfl
     have w3:IntKind.i64.wrap (2+1)=3:=rfl
     simp only [go_sem,h,hd,hl0,hh0,h15,cl_len]
     refine trX_once HE hP.mix 68 (k+40) (by kernel_rfl) ?_
     simp only [go_sem]
     refine trX_once HE hP.mix 68 (k+100) (by kernel_rfl) ?_
     have eb:redA [] a=a:=rfl
     obtain ⟨a1,a2,a3⟩:=fV_mono hba (show _≤68719476736 by decide)
     have hb1:=fV_mono hba (show _≤268435456 by decide)
     have s1:=fl_num a1
     have s2:=fl_num a2
     have s3:=fl_num a3
     by_cases c1:(a).1=0
     · have c1':=decide_eq_true c1
       simp only [go_sem,cmpQ_z,c1',w1,s1]
       refine goX_once HE hP.mix 68 (k+200) (by kernel_rfl) ?_
       by_cases c2:(a).2.1=0
       · have c2':=decide_eq_true c2
         simp only [go_sem,cmpQ_z,c2',n1,le1,w2,s2]
         refine goX_once HE hP.mix 68 (k+300) (by kernel_rfl) ?_
         by_cases c3:(a).2.2=0
         · have c3':=decide_eq_true c3
           simp only [go_sem,cmpQ_z,c3',n2,le2,w3,s3]
           refine goX_once HE hP.mix 68 (k+400) (by kernel_rfl) ?_
           have hz:=nz_3 c1 c2 c3
           simp only [go_sem,hwi]
           refine ⟨(q,k,i+1,[]),?_,⟨hqk,h,hrows0,(stepR_none (rows:=[]) (a:=a) (by rw [eb]; exact hz)).symm.trans hst⟩,by show l.length-(i+1)<l.length-i; omega⟩
           rw [FR_0]
           exact Kept.of rfl (by repeat (first|exact KT.nil|refine KT.upd rfl (by first|rfl|exact hro _|simp [AV.only]) ?_)) (KM.p KMp.nil)
         · have c3':=decide_eq_false c3
           have hz:=nz_2 c1 c2 c3
           simp only [go_sem,cmpQ_z,c3',n2,le2,w3,s3,hb1,hwi,ad_k]
           refine ⟨(k+313,k+317,i+1,[(dirA a,2)]),?_,⟨by show k+313<k+317; omega,h,okR_1 hba (by decide),by have e:=(stepR_some (rows:=[]) (a:=a) (p:=2) (by rw [eb]; exact hz) (by simp)).symm.trans hst; rw [eb] at e; exact e⟩,by show l.length-(i+1)<l.length-i; omega⟩
           rw [FR_1]
           exact Kept.of rfl (by repeat (first|exact KT.nil|refine KT.upd rfl (by first|rfl|exact hro _|simp [AV.only]) ?_)) (by refine KM.p (KMp.upd ?_ ?_ (KMp.upd ?_ ?_ KMp.nil))<;>first|rfl|simp [upd])
       · have c2':=decide_eq_false c2
         have hz:=nz_1 c1 c2
         simp only [go_sem,cmpQ_z,c2',n1,le1,w2,s2,hb1,hwi,ad_k]
         refine ⟨(k+213,k+217,i+1,[(dirA a,1)]),?_,⟨by show k+213<k+217; omega,h,okR_1 hba (by decide),by have e:=(stepR_some (rows:=[]) (a:=a) (p:=1) (by rw [eb]; exact hz) (by simp)).symm.trans hst; rw [eb] at e; exact e⟩,by show l.length-(i+1)<l.length-i; omega⟩
         rw [FR_1]
         exact Kept.of rfl (by repeat (first|exact KT.nil|refine KT.upd rfl (by first|rfl|exact hro _|simp [AV.only]) ?_)) (by refine KM.p (KMp.upd ?_ ?_ (KMp.upd ?_ ?_ KMp.nil))<;>first|rfl|simp [upd])
     · have c1':=decide_eq_false c1
       have hz:=nz_0 c1
       simp only [go_sem,cmpQ_z,c1',w1,s1,hb1,hwi,ad_k]
       refine ⟨(k+113,k+117,i+1,[(dirA a,0)]),?_,⟨by show k+113<k+117; omega,h,okR_1 hba (by decide),by have e:=(stepR_some (rows:=[]) (a:=a) (p:=0) (by rw [eb]; exact hz) (by simp)).symm.trans hst; rw [eb] at e; exact e⟩,by show l.length-(i+1)<l.length-i; omega⟩
       rw [FR_1]
       exact Kept.of rfl (by repeat (first|exact KT.nil|refine KT.upd rfl (by first|rfl|exact hro _|simp [AV.only]) ?_)) (by refine KM.p (KMp.upd ?_ ?_ (KMp.upd ?_ ?_ KMp.nil))<;>first|rfl|simp [upd])
   · have hi':l.drop i=[]:=List.drop_of_length_le (by omega)
     rw [hi'] at hst
     simp only [go_sem,h]
     rw [← hst]; exact .refl _
 | [(r,p)],hrows0,hst =>
   simp only [FR]
   have hrows1:=hrows0
   obtain ⟨hr,hp⟩:=hrows1
   have ne1:∀ j,(q == k+(j+1))=false:=fun j=>by simp; omega
   have ne2:∀ j,(k+(j+1) == q)=false:=fun j=>by simp; omega
   have ne3:(q == k)=false:=by simp; omega
   have ne5:∀ j,(q=k+j)=False:=fun j=>eq_false (by omega)
   have ne4:(k == q)=false:=by simp; omega
   by_cases h:i<l.length
   · obtain ⟨a,ha,hba,hd⟩:=hget i h
     have hl0:=hlen i
     have hh0:=hh i
     have h15:i*15≤l.length*15:=by omega
     rw [ha] at hst
     have hwi:=wi_add1 i (by omega)
     have n1:(1:Int).toNat=1:=rfl
     have n2:(2:Int).toNat=2:=rfl
     have le1:((0:Int)≤1)=True:=eq_true (by decide)
     have le2:((0:Int)≤2)=True:=eq_true (by decide)
     have w1:IntKind.i64.wrap (0+1)=1:=rfl
     have w2:IntKind.i64.wrap (1+1)=2:=rfl
     have w3:IntKind.i64.wrap (2+1)=3:=rfl
     obtain ⟨t1,dr1,dh1⟩:=cV_drop r hp
     obtain ⟨t2,dr2,dh2⟩:=cV_drop a hp
     simp only [go_sem,h,hd,hl0,hh0,h15,cl_len,ne1,ne2,ne3,ne4,ad_k]
     refine trX_once HE hP.mix 68 (k+40) (by kernel_rfl) ?_
     have hp5:p*5≤10:=by omega
     have hpr:=Nat.le_trans (fl_pick hr p) (show _≤FB by decide)
     have hpa:=Nat.le_trans (fl_pick hba p) (show _≤FB by decide)
     obtain ⟨A1,A2,A3⟩:=fV_mono hba (show _≤FB by decide)
     obtain ⟨R1,R2,R3⟩:=fV_mono hr (show _≤FB by decide)
     have m1:∀ {x},fl x≤65536→fl (qmul (pick p r) x)≤FB:=fun hx=>Nat.le_trans (fl_qmul (fl_pick hr p) hx) (by decide)
     have m2:∀ {x},fl x≤262145→fl (qmul (pick p a) x)≤FB:=fun hx=>Nat.le_trans (fl_qmul (fl_pick hba p) hx) (by decide)
     simp only [go_sem,dr1,dh1,dr2,dh2,hp,hp5,hpr,hpa,A1,A2,A3,R1,R2,R3,m1 hba.1,m1 hba.2.1,m1 hba.2.2,m2 hr.1,m2 hr.2.1,m2 hr.2.2,red1_1,red1_2,red1_3,w1,ne1,ne2,ne3,ne4,ad_k]
     refine goX_once HE hP.mix 68 (k+70) (by kernel_rfl) ?_
     have hbb:=fV_mono (red1_fV p hr hba) (show _≤655363 by decide)
     have eb:redA [(r,p)] a=red1 r p a:=rfl
     generalize red1 r p a=b at hbb eb ⊢
     simp only [go_sem,ne1,ne2,ne3,ne4,ad_k]
     refine trX_once HE hP.mix 68 (k+100) (by kernel_rfl) ?_
     obtain ⟨a1,a2,a3⟩:=fV_mono hbb (show _≤68719476736 by decide)
     have hb1:=fV_mono hbb (show _≤268435456 by decide)
     have s1:=fl_num a1
     have s2:=fl_num a2
     have s3:=fl_num a3
     by_cases c1:(b).1=0
     · have c1':=decide_eq_true c1
       simp only [go_sem,cmpQ_z,c1',w1,s1,ne1,ne2,ne3,ne4,ad_k]
       refine goX_once HE hP.mix 68 (k+200) (by kernel_rfl) ?_
       by_cases c2:(b).2.1=0
       · have c2':=decide_eq_true c2
         simp only [go_sem,cmpQ_z,c2',n1,le1,w2,s2,ne1,ne2,ne3,ne4,ad_k]
         refine goX_once HE hP.mix 68 (k+300) (by kernel_rfl) ?_
         by_cases c3:(b).2.2=0
         · have c3':=decide_eq_true c3
           simp only [go_sem,cmpQ_z,c3',n2,le2,w3,s3,ne1,ne2,ne3,ne4,ad_k]
           refine goX_once HE hP.mix 68 (k+400) (by kernel_rfl) ?_
           have hz:=nz_3 c1 c2 c3
           simp only [go_sem,hwi,ne1,ne2,ne3,ne4,ad_k]
           refine ⟨(q,k,i+1,[(r,p)]),?_,⟨hqk,h,hrows0,(stepR_none (rows:=[(r,p)]) (a:=a) (by rw [eb]; exact hz)).symm.trans hst⟩,by show l.length-(i+1)<l.length-i; omega⟩
           rw [FR_1]
           exact Kept.of rfl (by repeat (first|exact KT.nil|refine KT.upd rfl (by first|rfl|exact hro _|simp [AV.only]) ?_)) (by refine KM.p (KMp.upd ?_ ?_ (KMp.upd ?_ ?_ KMp.nil))<;>first|rfl|simp [upd,ne5,Nat.ne_of_lt hqk,Nat.ne_of_gt hqk])
         · have c3':=decide_eq_false c3
           have hz:=nz_2 c1 c2 c3
           simp only [go_sem,cmpQ_z,c3',n2,le2,w3,s3,hb1,hwi,ad_k,ne1,ne2,ne3,ne4,ad_k]
           first|refine ⟨by simp [ne5],by simp [ne5],?_⟩|refine ⟨by simp [ne5],?_⟩
           refine ⟨(k+313,k+317,i+1,[(r,p),(dirA b,2)]),?_,⟨by show k+313<k+317; omega,h,okR_2 hr hp hbb (by decide),by have e:=(stepR_some (rows:=[(r,p)]) (a:=a) (p:=2) (by rw [eb]; exact hz) (by simp)).symm.trans hst; rw [eb] at e; exact e⟩,by show l.length-(i+1)<l.length-i; omega⟩
           rw [FR_2]
           exact Kept.of rfl (by repeat (first|exact KT.nil|refine KT.upd rfl (by first|rfl|exact hro _|simp [AV.only]) ?_)) (by refine KM.p (KMp.upd ?_ ?_ (KMp.upd ?_ ?_ KMp.nil))<;>first|rfl|simp [upd])
       · have c2':=decide_eq_false c2
         have hz:=nz_1 c1 c2
         simp only [go_sem,cmpQ_z,c2',n1,le1,w2,s2,hb1,hwi,ad_k,ne1,ne2,ne3,ne4,ad_k]
         first|refine ⟨by simp [ne5],by simp [ne5],?_⟩|refine ⟨by simp [ne5],?_⟩
         refine ⟨(k+213,k+217,i+1,[(r,p),(dirA b,1)]),?_,⟨by show k+213<k+217; omega,h,okR_2 hr hp hbb (by decide),by have e:=(stepR_some (rows:=[(r,p)]) (a:=a) (p:=1) (by rw [eb]; exact hz) (by simp)).symm.trans hst; rw [eb] at e; exact e⟩,by show l.length-(i+1)<l.length-i; omega⟩
         rw [FR_2]
         exact Kept.of rfl (by repeat (first|exact KT.nil|refine KT.upd rfl (by first|rfl|exact hro _|simp [AV.only]) ?_)) (by refine KM.p (KMp.upd ?_ ?_ (KMp.upd ?_ ?_ KMp.nil))<;>first|rfl|simp [upd])
     · have c1':=decide_eq_false c1
       have hz:=nz_0 c1
       simp only [go_sem,cmpQ_z,c1',w1,s1,hb1,hwi,ad_k,ne1,ne2,ne3,ne4,ad_k]
       first|refine ⟨by simp [ne5],by simp [ne5],?_⟩|refine ⟨by simp [ne5],?_⟩
       refine ⟨(k+113,k+117,i+1,[(r,p),(dirA b,0)]),?_,⟨by show k+113<k+117; omega,h,okR_2 hr hp hbb (by decide),by have e:=(stepR_some (rows:=[(r,p)]) (a:=a) (p:=0) (by rw [eb]; exact hz) (by simp)).symm.trans hst; rw [eb] at e; exact e⟩,by show l.length-(i+1)<l.length-i; omega⟩
       rw [FR_2]
       exact Kept.of rfl (by repeat (first|exact KT.nil|refine KT.upd rfl (by first|rfl|exact hro _|simp [AV.only]) ?_)) (by refine KM.p (KMp.upd ?_ ?_ (KMp.upd ?_ ?_ KMp.nil))<;>first|rfl|simp [upd])
   · have hi':l.drop i=[]:=List.drop_of_length_le (by omega)
     rw [hi'] at hst
     simp only [go_sem,h,ne1,ne2,ne3,ne4,ad_k]
     rw [← hst]; exact .refl _
 | [(r,p),(s,p')],hrows0,hst =>
   simp only [FR]
   have hrows1:=hrows0
   obtain ⟨hr,hp,hs,hp'⟩:=hrows1
   have ne1:∀ j,(q == k+(j+1))=false:=fun j=>by simp; omega
   have ne2:∀ j,(k+(j+1) == q)=false:=fun j=>by simp; omega
   have ne3:(q == k)=false:=by simp; omega
   have ne5:∀ j,(q=k+j)=False:=fun j=>eq_false (by omega)
   have ne4:(k == q)=false:=by simp; omega
   by_cases h:i<l.length
   · obtain ⟨a,ha,hba,hd⟩:=hget i h
     have hl0:=hlen i
     have hh0:=hh i
     have h15:i*15≤l.length*15:=by omega
     rw [ha] at hst
     have hwi:=wi_add1 i (by omega)
     have n1:(1:Int).toNat=1:=rfl
     have n2:(2:Int).toNat=2:=rfl
     have le1:((0:Int)≤1)=True:=eq_true (by decide)
     have le2:((0:Int)≤2)=True:=eq_true (by decide)
     have w1:IntKind.i64.wrap (0+1)=1:=rfl
     have w2:IntKind.i64.wrap (1+1)=2:=rfl
     have w3:IntKind.i64.wrap (2+1)=3:=rfl
     obtain ⟨t1,dr1,dh1⟩:=cV_drop r hp
     obtain ⟨t2,dr2,dh2⟩:=cV_drop a hp
     simp only [go_sem,h,hd,hl0,hh0,h15,cl_len,ne1,ne2,ne3,ne4,ad_k]
     refine trX_once HE hP.mix 68 (k+40) (by kernel_rfl) ?_
     have hp5:p*5≤10:=by omega
     have hpr:=Nat.le_trans (fl_pick hr p) (show _≤FB by decide)
     have hpa:=Nat.le_trans (fl_pick hba p) (show _≤FB by decide)
     obtain ⟨A1,A2,A3⟩:=fV_mono hba (show _≤FB by decide)
     obtain ⟨R1,R2,R3⟩:=fV_mono hr (show _≤FB by decide)
     have m1:∀ {x},fl x≤65536→fl (qmul (pick p r) x)≤FB:=fun hx=>Nat.le_trans (fl_qmul (fl_pick hr p) hx) (by decide)
     have m2:∀ {x},fl x≤262145→fl (qmul (pick p a) x)≤FB:=fun hx=>Nat.le_trans (fl_qmul (fl_pick hba p) hx) (by decide)
     simp only [go_sem,dr1,dh1,dr2,dh2,hp,hp5,hpr,hpa,A1,A2,A3,R1,R2,R3,m1 hba.1,m1 hba.2.1,m1 hba.2.2,m2 hr.1,m2 hr.2.1,m2 hr.2.2,red1_1,red1_2,red1_3,w1,ne1,ne2,ne3,ne4,ad_k]
     refine goX_once HE hP.mix 68 (k+70) (by kernel_rfl) ?_
     have hbc:=fV_mono (red1_fV p hr hba) (show _≤655363 by decide)
     have ec:redA [(r,p),(s,p')] a=red1 s p' (red1 r p a):=rfl
     generalize red1 r p a=c at hbc ec ⊢
     obtain ⟨t3,dr3,dh3⟩:=cV_drop s hp'
     obtain ⟨t4,dr4,dh4⟩:=cV_drop c hp'
     have hp5':p'*5≤10:=by omega
     have hps:=Nat.le_trans (fl_pick hs p') (show _≤FB by decide)
     have hpc:=Nat.le_trans (fl_pick hbc p') (show _≤FB by decide)
     obtain ⟨C1,C2,C3⟩:=fV_mono hbc (show _≤FB by decide)
     obtain ⟨S1,S2,S3⟩:=fV_mono hs (show _≤FB by decide)
     have m3:∀ {x},fl x≤655363→fl (qmul (pick p' s) x)≤FB:=fun hx=>Nat.le_trans (fl_qmul (fl_pick hs p') hx) (by decide)
     have m4:∀ {x},fl x≤2621457→fl (qmul (pick p' c) x)≤FB:=fun hx=>Nat.le_trans (fl_qmul (fl_pick hbc p') hx) (by decide)
     simp only [go_sem,n1,le1,dr3,dh3,dr4,dh4,hp',hp5',hps,hpc,C1,C2,C3,S1,S2,S3,m3 hbc.1,m3 hbc.2.1,m3 hbc.2.2,m4 hs.1,m4 hs.2.1,m4 hs.2.2,red1_1,red1_2,red1_3,w2,ne1,ne2,ne3,ne4,ad_k]
     refine goX_once HE hP.mix 68 (k+90) (by kernel_rfl) ?_
     have hbb:=fV_mono (red1_fV p' hs hbc) (show _≤6553643 by decide)
     have eb:redA [(r,p),(s,p')] a=red1 s p' c:=ec
     generalize red1 s p' c=b at hbb eb ⊢
     simp only [go_sem,ne1,ne2,ne3,ne4,ad_k]
     refine trX_once HE hP.mix 68 (k+100) (by kernel_rfl) ?_
     obtain ⟨a1,a2,a3⟩:=fV_mono hbb (show _≤68719476736 by decide)
     have hb1:=fV_mono hbb (show _≤268435456 by decide)
     have s1:=fl_num a1
     have s2:=fl_num a2
     have s3:=fl_num a3
     by_cases c1:(b).1=0
     · have c1':=decide_eq_true c1
       simp only [go_sem,cmpQ_z,c1',w1,s1,ne1,ne2,ne3,ne4,ad_k]
       refine goX_once HE hP.mix 68 (k+200) (by kernel_rfl) ?_
       by_cases c2:(b).2.1=0
       · have c2':=decide_eq_true c2
         simp only [go_sem,cmpQ_z,c2',n1,le1,w2,s2,ne1,ne2,ne3,ne4,ad_k]
         refine goX_once HE hP.mix 68 (k+300) (by kernel_rfl) ?_
         by_cases c3:(b).2.2=0
         · have c3':=decide_eq_true c3
           simp only [go_sem,cmpQ_z,c3',n2,le2,w3,s3,ne1,ne2,ne3,ne4,ad_k]
           refine goX_once HE hP.mix 68 (k+400) (by kernel_rfl) ?_
           have hz:=nz_3 c1 c2 c3
           simp only [go_sem,hwi,ne1,ne2,ne3,ne4,ad_k]
           refine ⟨(q,k,i+1,[(r,p),(s,p')]),?_,⟨hqk,h,hrows0,(stepR_none (rows:=[(r,p),(s,p')]) (a:=a) (by rw [eb]; exact hz)).symm.trans hst⟩,by show l.length-(i+1)<l.length-i; omega⟩
           rw [FR_2]
           exact Kept.of rfl (by repeat (first|exact KT.nil|refine KT.upd rfl (by first|rfl|exact hro _|simp [AV.only]) ?_)) (by refine KM.p (KMp.upd ?_ ?_ (KMp.upd ?_ ?_ KMp.nil))<;>first|rfl|simp [upd,ne5,Nat.ne_of_lt hqk,Nat.ne_of_gt hqk])
         · have c3':=decide_eq_false c3
           have hz:=nz_2 c1 c2 c3
           simp only [go_sem,cmpQ_z,c3',n2,le2,w3,s3,hb1,hwi,ad_k,ne1,ne2,ne3,ne4,ad_k]
           refine ⟨by simp [ne5],?_⟩
           rw [← hst,stepR_three (rows:=[(r,p),(s,p')]) (a:=a) (p:=2) (by rw [eb]; exact hz) rfl]; first|exact Conv.refl _|exact ⟨by simp [ne5],Conv.refl _⟩
       · have c2':=decide_eq_false c2
         have hz:=nz_1 c1 c2
         simp only [go_sem,cmpQ_z,c2',n1,le1,w2,s2,hb1,hwi,ad_k,ne1,ne2,ne3,ne4,ad_k]
         refine ⟨by simp [ne5],?_⟩
         rw [← hst,stepR_three (rows:=[(r,p),(s,p')]) (a:=a) (p:=1) (by rw [eb]; exact hz) rfl]; first|exact Conv.refl _|exact ⟨by simp [ne5],Conv.refl _⟩
     · have c1':=decide_eq_false c1
       have hz:=nz_0 c1
       simp only [go_sem,cmpQ_z,c1',w1,s1,hb1,hwi,ad_k,ne1,ne2,ne3,ne4,ad_k]
       refine ⟨by simp [ne5],?_⟩
       rw [← hst,stepR_three (rows:=[(r,p),(s,p')]) (a:=a) (p:=0) (by rw [eb]; exact hz) rfl]; first|exact Conv.refl _|exact ⟨by simp [ne5],Conv.refl _⟩
   · have hi':l.drop i=[]:=List.drop_of_length_le (by omega)
     rw [hi'] at hst
     simp only [go_sem,h,ne1,ne2,ne3,ne4,ad_k]
     rw [← hst]; exact .refl _
 | _::_::_::_,hrows,_=>exact absurd hrows id
end Go.Proofs.YtapddfjimhohcaaGreatDoor.AM
