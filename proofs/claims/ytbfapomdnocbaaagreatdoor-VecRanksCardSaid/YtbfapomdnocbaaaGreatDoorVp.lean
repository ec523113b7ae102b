/- The laws of vectors: products. -/
import Derived.Test.YtbfapomdnocbaaaGreatDoorVo
namespace Go.Proofs.YtbfapomdnocbaaaGreatDoor.AM
set_option linter.all false
set_option autoImplicit true
set_option relaxedAutoImplicit true
open Go Go.Proofs
set_option maxRecDepth 100000
set_option maxHeartbeats 8000000
set_option linter.unusedSimpArgs false
variable {P : Program}
structure BV (a : V3) : Prop where
 r : fV a 65536
 d : fV a 8388608
 t : fV a 67108864
 x : fV a 268435456
 f : fV a FB
theorem bv_of {a : V3} {n : Nat} (h : fV a n) (hn : n ≤ 65536) : BV a := ⟨fV_mono h hn, fV_mono h (by omega), fV_mono h (by omega), fV_mono h (by omega), fV_mono h (Nat.le_trans hn (by decide))⟩
end Go.Proofs.YtbfapomdnocbaaaGreatDoor.AM
