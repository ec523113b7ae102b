/- The laws of sides: sides, insides, crossings, angles. -/
import Derived.Test.YtapddfjimhohcaaGreatDoorB10
namespace Go.Proofs.YtapddfjimhohcaaGreatDoor.AM
set_option linter.all false
set_option autoImplicit true
set_option relaxedAutoImplicit true
open Go Go.Proofs
set_option maxRecDepth 100000
set_option maxHeartbeats 16000000
set_option linter.unusedSimpArgs false
variable {P:Program}
theorem i40 {x:V3} {n:Nat} (h:fV x n) (hn:n≤4096):fl x.1≤4096∧fl x.2.1≤4096∧fl x.2.2≤4096:=fV_mono h hn
theorem rl8:(∀ z:Int,(z == z)=true∧(z != z)=false)∧∀ b:Bool,(b != b)=false∧(b == b)=true:=⟨fun z=>⟨by simp,by simp⟩,fun b=>by cases b<;>exact ⟨rfl,rfl⟩⟩
end Go.Proofs.YtapddfjimhohcaaGreatDoor.AM
