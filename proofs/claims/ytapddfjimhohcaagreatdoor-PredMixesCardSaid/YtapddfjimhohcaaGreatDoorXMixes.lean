/- PredMixes, whatever it is given: the given row. -/
import Derived.Test.YtapddfjimhohcaaGreatDoorKk
import Derived.Test.YtapddfjimhohcaaGreatDoorB3
import Derived.Test.YtapddfjimhohcaaGreatDoorRv
import Derived.Lay
import Derived.LaidOnce
import Derived.SevenTiedAt
import Derived.Test.YtapddfjimhohcaaGreatDoorCards
import Derived.Test.YtapddfjimhohcaaGreatDoorTie
namespace Go.Proofs.YtapddfjimhohcaaGreatDoor
set_option linter.all false
set_option autoImplicit true
set_option relaxedAutoImplicit true
open Go Go.Proofs Go.ChangeShapes Go.WideShapes Go.ChangeAt Go.RowKit
open Go.ChangeMaps (open_string shut_string)
set_option maxRecDepth 100000
theorem predMixes_lifted (os:Os) (started:os.Started) (H:Type) (enc:TypeId × Value→H) :
 ReturnsInHanded {} Tryz.checked os 5 .any (fun w args=>(Rows.predMixesSpec.pre enc Tryz.prog Tryz.f5 Rows.predMixesRow.domain false w args∧laidMetH Tryz.prog Rows.predMixesRow.laid w)∧sizedMet enc Tryz.prog Tryz.f5 (OpenSpec.ofChange Rows.predMixesSpec) false w args)
  (Rows.predMixesSpec.post enc Tryz.prog Tryz.f5 false true false false):=by
 refine returnsInHanded_of_change_and (C:=Tryz.checked) (X:=fun w _=>laidMetH Tryz.prog Rows.predMixesRow.laid w) (fun _ _ _ hh h=>h.of_heap hh) Tryz.own started (by kernel_rfl) Tryz.func5
  (ChangeSpec.witness_shaped (enc:=enc) (C:=Tryz.checked) (os:=os) (X:=fun w _=>laidMetH Tryz.prog Rows.predMixesRow.laid w) false (World.laidAll Tryz.prog os Rows.predMixesRow.laid) #[.agg #[.string ⟨#[]⟩,.string ⟨#[]⟩,.string ⟨#[]⟩,.string ⟨#[]⟩,.string ⟨#[]⟩,.string ⟨#[]⟩,.string ⟨#[]⟩,.string ⟨#[]⟩,.string ⟨#[]⟩,.string ⟨#[]⟩,.string ⟨#[]⟩,.string ⟨#[]⟩,.string ⟨#[]⟩,.string ⟨#[]⟩,.string ⟨#[]⟩],.agg #[.int .u8 0,.int .u8 0,.int .u8 0,.int .u8 0]] 12 (World.laidAll_os _ _ _)
    (World.shaped_of_ZipB (by kernel_rfl) (by kernel_rfl)) (by kernel_rfl) (by kernel_rfl) (by kernel_rfl)
    (by rw [MakeChecks.laidMetH_plain _ _ _ (by kernel_rfl)]; exact laidMet_laidAll _ (by kernel_rfl) (by kernel_rfl))) ?_
 intro W base args ds gs before hval0 hW _ hwt _ _
 have hval:∀ (j:Nat) t v,Tryz.f5.params[j]? = some t→args[j]? = some v→Value.okWide Tryz.prog W .any base t v:=hval0
 have hW':=hW
 obtain ⟨p,q,hA0,hV0,rfl,hfz,hnd⟩:=hW
 have hA:DataW.TrodAll enc Tryz.prog W 0 (fun _=>true) true Tryz.f5.params.toList args.toList ds p:=hA0
 have hps:Tryz.f5.params.toList=[25,58]:=rfl
 rw [hps] at hA
 obtain ⟨v0,vs0,d0,ds0,p0,q0,e0,rfl,rfl,h0,hr0⟩:=trodAll_cons hA
 obtain ⟨v1,vs1,d1,ds1,p1,q1,rfl,rfl,rfl,h1,hr1⟩:=trodAll_cons hr0
 obtain ⟨rfl,rfl,rfl⟩:=trodAll_nil hr1
 obtain rfl:args=#[v0,v1]:=by cases args; simp_all
 obtain ⟨rfl,rfl⟩:=trodVars_none hV0
 rw [hps] at hwt
 simp only [List.cons_append,List.nil_append,DataW.weightsEach,List.all_append,Bool.and_eq_true] at hwt
 have g0:=h0
 have lt0:∀ x ∈ p0,x.block<W.heap.size:=fun x hx=>by simpa using hW'.lt x (by simp [hx])
 obtain ⟨x0,ln0,ok0,rl0⟩:=AM.arg_ss (by rfl) (by kernel_rfl:AM.Sha.chk Tryz.prog (.row [.row [.str,.str,.str],.row [.str,.str,.str],.row [.str,.str,.str],.row [.str,.str,.str],.row [.str,.str,.str]]) 25=true) h0 (hval 0 _ _ rfl rfl) hwt.1
 have g1:=h1
 have lt1:∀ x ∈ p1,x.block<W.heap.size:=fun x hx=>by simpa using hW'.lt x (by simp [hx])
 obtain ⟨x1,rl1,ok1⟩:=AM.arg_row (by kernel_rfl:AM.Sha.chk Tryz.prog (.row [.int .u8,.int .u8,.int .u8,.int .u8]) 58=true) h1 (hval 1 _ _ rfl rfl)
 have key:=AM.PredMixes_spec (P:=Tryz.prog) AM.prg_ok x0 ln0 (fun s h=>AM.le_maxS (ok0 s h)) x1 ok1
 have hb:Tryz.f5.body=some (AM.bodyOf Tryz.f5):=rfl
 refine (CSpec.calls key Tryz.func5 hb (by kernel_rfl) (vs:=[v0,v1]) (w:=W) (AM.RL.cons rl0 (AM.RL.cons rl1 (.nil)))).mono fun e W' ⟨he,hB⟩=>?_
 subst he
 have e1:Rows.predMixesSpec.fn H ([d0,d1]++[])={ results:=[.lit (.bool true)],args:=[d0,d1] }:=rfl
 refine ⟨_,rfl,_,_,_,[],p0++(p1),[],hW',?_,?_,?_,hB.frame _,fun h=>by cases h⟩
 · rw [e1]; exact trodAll_mk1 (shut_bool Tryz.underlying4 true)
 · rw [e1]; exact trodAll_mk2 (Below.trod Tryz.laidOut (by kernel_rfl) (of_decide_eq_true (by kernel_rfl)) g0 hB lt0) (Below.trod Tryz.laidOut (by kernel_rfl) (of_decide_eq_true (by kernel_rfl)) g1 hB lt1)
 · first|exact ⟨rfl,rfl⟩|exact rfl|trivial|constructor
theorem predMixes_row:Rows.PredMixesSaid :=
 OpenClaim.holds_of_wide 5 Tryz.f5 rfl rfl rfl rfl rfl rfl rfl ⟨rfl,rfl,rfl,rfl,rfl⟩ rfl rfl rfl rfl rfl (by kernel_rfl) Tryz.func5 (by kernel_rfl)
  (of_decide_eq_true (by kernel_rfl)) (by unfold Func.isWrapper; first|(rw [if_pos (by decide +kernel)]; kernel_rfl)|(rw [if_neg (by decide +kernel)]; exact ⟨rfl,rfl⟩))
  (fun os started H enc _=>predMixes_lifted os started H enc)
theorem predMixes_holds:Rows.PredMixesCardSaid :=
 Claim7.holds_tied_plain_at .later [] [.data,.pinned] true (true, "e6b4d22ceadacfd3305b4cb4a375da7bec002c851f3414f31d57ecad1f3f07b7") false predMixes_row (fun _ h=>by cases h) (by kernel_rfl) (fun _ h=>by cases h) predMixes_row_tie rfl ⟨rfl,rfl⟩ (by kernel_rfl) rfl
  (fun f fn hf hfn=>by
    obtain rfl:f=5:=Option.some.inj ((show Tryz.prog.funcNamed "chamfer/chamferlaw08.PredMixes" = some 5 by kernel_rfl).symm.trans hf) |>.symm
    obtain rfl:fn=Tryz.f5:=(Option.some.inj (Tryz.func5.symm.trans hfn)).symm
    exact ⟨by kernel_rfl,fun j t ht=>by
     have hm:t ∈ ([25,58]:List TypeId):=by simpa using Array.mem_of_getElem? (show (#[25,58]:Array TypeId)[j]? = some t from ht)
     have hall:(([25,58]:List TypeId).all fun u=>!Tryz.prog.wantsStandIn u)=true:=by kernel_rfl
     exact (show Tryz.prog.wantsStandIn t=false by simpa using List.all_eq_true.1 hall t hm)⟩)
  (by kernel_rfl)
#print axioms predMixes_holds
end Go.Proofs.YtapddfjimhohcaaGreatDoor
