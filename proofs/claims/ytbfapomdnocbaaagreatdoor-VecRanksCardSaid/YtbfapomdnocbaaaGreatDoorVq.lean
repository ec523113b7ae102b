/- The laws of vectors: Lagrange, determinants. -/
import Derived.Test.YtbfapomdnocbaaaGreatDoorVp
namespace Go.Proofs.YtbfapomdnocbaaaGreatDoor.AM
set_option linter.all false
set_option autoImplicit true
set_option relaxedAutoImplicit true
open Go Go.Proofs
set_option maxRecDepth 100000
set_option maxHeartbeats 8000000
set_option linter.unusedSimpArgs false
variable {P : Program}
theorem rk_3 (a b c : V3) : (!decide (vdet a b c = 0)) = decide (rkN [a, b, c] = 3) := by
 have h := rkN_ok [a, b, c]
 generalize rkN [a, b, c] = n at *
 by_cases e : vdet a b c = 0
 · rw [decide_eq_true e]
   refine (decide_eq_false fun hn => ?_).symm
   subst hn
   rcases h with ⟨h, _⟩ | ⟨h, _⟩ | ⟨h, _⟩ | ⟨_, x, hx, y, hy, z, hz, h⟩
   · omega
   · omega
   · omega
   · simp only [List.mem_cons, List.not_mem_nil, or_false] at hx hy hz
     refine h ?_
     rcases hx with rfl | rfl | rfl <;> rcases hy with rfl | rfl | rfl <;> rcases hz with rfl | rfl | rfl <;> (unfold vdet vdt vcr at *; simp only [] at *; grind)
 · rw [decide_eq_false e]
   have h3 : Rk [a, b, c] 3 := .inr (.inr (.inr ⟨rfl, a, by simp, b, by simp, c, by simp, e⟩))
   exact (decide_eq_true (h.uniq h3)).symm
end Go.Proofs.YtbfapomdnocbaaaGreatDoor.AM
