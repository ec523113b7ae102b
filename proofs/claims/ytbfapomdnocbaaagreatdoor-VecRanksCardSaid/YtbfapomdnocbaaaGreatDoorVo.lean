/- The laws of vectors: words, texts, sums, products. -/
import Derived.Test.YtbfapomdnocbaaaGreatDoorB10
namespace Go.Proofs.YtbfapomdnocbaaaGreatDoor.AM
set_option linter.all false
set_option autoImplicit true
set_option relaxedAutoImplicit true
open Go Go.Proofs
set_option maxRecDepth 100000
set_option maxHeartbeats 8000000
set_option linter.unusedSimpArgs false
variable {P : Program}
theorem len_s {s : ByteArray} (h : s.size ≤ maxS) : (bl s).length ≤ 140737488355328 := by
 have := size_bl s
 unfold maxS at h
 omega
end Go.Proofs.YtbfapomdnocbaaaGreatDoor.AM
