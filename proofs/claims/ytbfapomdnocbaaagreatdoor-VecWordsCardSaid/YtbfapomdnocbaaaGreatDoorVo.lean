/- The laws of vectors: words, texts, sums, products. -/
import Derived.Test.YtbfapomdnocbaaaGreatDoorB10
namespace Go.Proofs.YtbfapomdnocbaaaGreatDoor.AM
set_option linter.all false
set_option autoImplicit true
set_option relaxedAutoImplicit true
open Go Go.Proofs
set_option maxRecDepth 100000
set_option maxHeartbeats 8000000
set_option linter.unusedSimpArgs false
variable {P : Program}
theorem VecWords_spec (hP : PrgOk P) (x : Int) (hx : -9223372036854775808 ≤ x ∧ x ≤ 9223372036854775807) (y : Int) (hy : -9223372036854775808 ≤ y ∧ y ≤ 9223372036854775807) (z : Int) (hz : -9223372036854775808 ≤ z ∧ z ≤ 9223372036854775807) : CSpec P 3 [.int .i64 x, .int .i64 y, .int .i64 z] (.bool true) := by
 have HE := Zt4_all hP TF hP.tF
 have f1 : fl ((x : Int) : Rat) ≤ FB := Nat.le_trans (fl_i64 hx.1 hx.2) (by decide)
 have f2 : fl ((y : Int) : Rat) ≤ FB := Nat.le_trans (fl_i64 hy.1 hy.2) (by decide)
 have f3 : fl ((z : Int) : Rat) ≤ FB := Nat.le_trans (fl_i64 hz.1 hz.2) (by decide)
 obtain ⟨x1, x2⟩ := hx
 obtain ⟨y1, y2⟩ := hy
 obtain ⟨z1, z2⟩ := hz
 refine CSpec_go (E := ⟨TF, Zt4⟩) (fn3 hP) HE hP.mix ?_
 simp only [go_sem, x1, x2, y1, y2, z1, z2, f1, f2, f3, decide_true]
 exact fin_z
end Go.Proofs.YtbfapomdnocbaaaGreatDoor.AM
