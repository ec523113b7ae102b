/- The laws of lines: makes, meets, lines. -/
import Derived.Test.YtmahhmdeocnlgaaGreatDoorB12
namespace Go.Proofs.YtmahhmdeocnlgaaGreatDoor.AM
set_option linter.all false
set_option autoImplicit true
set_option relaxedAutoImplicit true
open Go Go.Proofs
set_option maxRecDepth 100000
set_option maxHeartbeats 8000000
set_option linter.unusedSimpArgs false
variable {P:Program}
theorem six {L:List ByteArray} (h:L.length=6) (hs:∀ s ∈ L,s.size≤maxS):∃ x y z u v w,L=[x,y,z,u,v,w]∧(bl x).length≤140737488355328∧(bl y).length≤140737488355328∧(bl z).length≤140737488355328∧(bl u).length≤140737488355328∧(bl v).length≤140737488355328∧(bl w).length≤140737488355328:=by
 match L,h with
 | [x,y,z,u,v,w],_=>exact ⟨x,y,z,u,v,w,rfl,len_s (hs x (by simp)),len_s (hs y (by simp)),len_s (hs z (by simp)),len_s (hs u (by simp)),len_s (hs v (by simp)),len_s (hs w (by simp))⟩
theorem four {L:List ByteArray} (h:L.length=4) (hs:∀ s ∈ L,s.size≤maxS):∃ x y z w,L=[x,y,z,w]∧(bl x).length≤140737488355328∧(bl y).length≤140737488355328∧(bl z).length≤140737488355328∧(bl w).length≤140737488355328:=by
 match L,h with
 | [x,y,z,w],_=>exact ⟨x,y,z,w,rfl,len_s (hs x (by simp)),len_s (hs y (by simp)),len_s (hs z (by simp)),len_s (hs w (by simp))⟩
theorem bne_s (z:Int):(z != z)=false:=by simp
theorem beq_s (z:Int):(z == z)=true:=by simp
end Go.Proofs.YtmahhmdeocnlgaaGreatDoor.AM
