/- The laws of sides: sides, insides, crossings, angles. -/
import Derived.Test.YtapddfjimhohcaaGreatDoorB10
namespace Go.Proofs.YtapddfjimhohcaaGreatDoor.AM
set_option linter.all false
set_option autoImplicit true
set_option relaxedAutoImplicit true
open Go Go.Proofs
set_option maxRecDepth 100000
set_option maxHeartbeats 16000000
set_option linter.unusedSimpArgs false
variable {P:Program}
theorem i40 {x:V3} {n:Nat} (h:fV x n) (hn:n≤4096):fl x.1≤4096∧fl x.2.1≤4096∧fl x.2.2≤4096:=fV_mono h hn
theorem tn8:((4:Int)-1).toNat=3∧((5:Int)-1).toNat=4∧((3:Int)-0).toNat=3∧((1:Int)<5)=True∧((1:Int)≤4)=True∧((1:Int)≤5)=True∧((4:Int)≤5)=True∧((3:Int)≤5)=True:=⟨rfl,rfl,rfl,by decide,by decide,by decide,by decide,by decide⟩
theorem rl8:(∀ z:Int,(z == z)=true∧(z != z)=false)∧∀ b:Bool,(b != b)=false∧(b == b)=true:=⟨fun z=>⟨by simp,by simp⟩,fun b=>by cases b<;>exact ⟨rfl,rfl⟩⟩
theorem PredAngles_spec (hP:PrgOk P) (L:List ByteArray) (hL:L.length=15) (hs:∀ s ∈ L,s.size≤maxS):CSpec P 6 [.agg (L.map .str)] (.bool true):=by
 obtain ⟨s0,s1,s2,s3,s4,s5,s6,s7,s8,s9,s10,s11,s12,s13,s14,rfl,hl⟩:=fifteen hL hs
 have HE:=Ku1_all hP TF hP.tF
 simp only [List.map_cons,List.map_nil]
 have fa:=pt0_fV s0 s1 s2
 obtain ⟨a,ha⟩:∃ x,pt0 s0 s1 s2=x:=⟨_,rfl⟩
 rw [ha] at fa
 have fb:=pt1_fV s0 s1 s2 s3 s4 s5
 obtain ⟨b,hb⟩:∃ x,pt1 s0 s1 s2 s3 s4 s5=x:=⟨_,rfl⟩
 rw [hb] at fb
 have fc:=pt2_fV s0 s1 s2 s3 s4 s5 s6 s7 s8
 obtain ⟨c,hc⟩:∃ x,pt2 s0 s1 s2 s3 s4 s5 s6 s7 s8=x:=⟨_,rfl⟩
 rw [hc] at fc
 have fd:=pt3_fV s0 s1 s2 s3 s4 s5 s6 s7 s8 s9 s10 s11
 obtain ⟨d,hd⟩:∃ x,pt3 s0 s1 s2 s3 s4 s5 s6 s7 s8 s9 s10 s11=x:=⟨_,rfl⟩
 rw [hd] at fd
 have fe:=pt4_fV s0 s1 s2 s3 s4 s5 s6 s7 s8 s9 s10 s11 s12 s13 s14
 obtain ⟨e,he⟩:∃ x,pt4 s0 s1 s2 s3 s4 s5 s6 s7 s8 s9 s10 s11 s12 s13 s14=x:=⟨_,rfl⟩
 rw [he] at fe
 obtain ⟨ok,hok⟩:∃ x,ok5 s0 s1 s2 s3 s4 s5 s6 s7 s8 s9 s10 s11 s12 s13 s14=x:=⟨_,rfl⟩
 have hn:=(⟨ha,hb,hc,hd,he,hok⟩:_∧_∧_∧_∧_∧_)
 have B:=(⟨i40 fa (by decide),i40 fb (by decide),i40 fc (by decide),i40 fd (by decide),i40 fe (by decide),i16 fa (by decide),i16 fb (by decide),i16 fc (by decide),i16 fd (by decide),i16 fe (by decide),i52 fa (by decide),i52 fb (by decide),i52 fc (by decide),i52 fd (by decide),i52 fe (by decide),bf fa (by decide),bf fb (by decide),bf fc (by decide),bf fd (by decide),bf fe (by decide)⟩:_∧_∧_∧_∧_∧_∧_∧_∧_∧_∧_∧_∧_∧_∧_∧_∧_∧_∧_∧_)
 refine CSpec_go (E:=⟨TF,Ku1⟩) (fn6 hP) HE hP.mix ?_
 cases ok
 case false =>
  simp only [go_sem,hl,hn]
  exact .refl _
 simp only [go_sem,nw8,tn8,hl,hn,B,rl8]
 exact .refl _
end Go.Proofs.YtapddfjimhohcaaGreatDoor.AM
