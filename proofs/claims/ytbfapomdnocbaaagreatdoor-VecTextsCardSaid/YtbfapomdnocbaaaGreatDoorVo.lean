/- The laws of vectors: words, texts, sums, products. -/
import Derived.Test.YtbfapomdnocbaaaGreatDoorB10
namespace Go.Proofs.YtbfapomdnocbaaaGreatDoor.AM
set_option linter.all false
set_option autoImplicit true
set_option relaxedAutoImplicit true
open Go Go.Proofs
set_option maxRecDepth 100000
set_option maxHeartbeats 8000000
set_option linter.unusedSimpArgs false
variable {P : Program}
theorem len_in {s : ByteArray} {n : Nat} (h : ¬ n < s.size) (hn : n ≤ 140737488355328) : (bl s).length ≤ 140737488355328 := by
 have := size_bl s
 omega
theorem cmpV_self (a : V3) : cmpV a a = 0 := by simp [cmpV, cmpQ_self]
theorem VecTexts_spec (hP : PrgOk P) (x y z : ByteArray) (_ : x.size ≤ maxS) (_ : y.size ≤ maxS) (_ : z.size ≤ maxS) : CSpec P 5 [.agg [.str x, .str y, .str z]] (.bool true) := by
 have HE := Zt4_all hP TF hP.tF
 have hf := parV_fl (bl x) (bl y) (bl z)
 obtain ⟨f1, f2, f3⟩ := fV_mono hf (show _ ≤ FB by decide)
 have hb : (parV (bl x) (bl y) (bl z)).2 = 0 → qtS (parV (bl x) (bl y) (bl z)).1.1 = x ∧ qtS (parV (bl x) (bl y) (bl z)).1.2.1 = y ∧ qtS (parV (bl x) (bl y) (bl z)).1.2.2 = z := fun h => by
  unfold parV at h ⊢
  split at h
  · rename_i h1
    split at h
    · rename_i h2
      split at h
      · rename_i h3
        rw [if_pos h1, if_pos h2, if_pos h3]
        exact ⟨parF_text h1, parF_text h2, parF_text h3⟩
      · rename_i h3; exact absurd h h3
    · rename_i h2; exact absurd h h2
  · rename_i h1; exact absurd h h1
 obtain ⟨⟨a, e⟩, hr⟩ : ∃ r, parV (bl x) (bl y) (bl z) = r := ⟨_, rfl⟩
 rw [hr] at hb f1 f2 f3
 simp only [] at hb f1 f2 f3
 refine CSpec_go (E := ⟨TF, Zt4⟩) (fn5 hP) HE hP.mix ?_
 have ns : ∀ e : Int, (e != e) = false := fun e => by simp
 by_cases h1 : 600 < x.size
 · simp only [go_sem, h1]
   exact fin_z
 by_cases h2 : 600 < y.size
 · simp only [go_sem, h1, h2]
   exact fin_z
 by_cases h3 : 600 < z.size
 · simp only [go_sem, h1, h2, h3]
   exact fin_z
 have lx := len_in h1 (by decide)
 have ly := len_in h2 (by decide)
 have lz := len_in h3 (by decide)
 have c0 : (cmpV (a.1, a.2.1, a.2.2) (a.1, a.2.1, a.2.2) == 0) = true := by rw [cmpV_self]; rfl
 have bb : ∀ b : Bool, (b != b) = false := fun b => by cases b <;> rfl
 by_cases h : e = 0
 · obtain ⟨t1, t2, t3⟩ := hb h
   have h' : (e == 0) = true := by rw [h]; rfl
   simp only [go_sem, h1, h2, h3, lx, ly, lz, hr, h', f1, f2, f3, t1, t2, t3, ns, bb, c0, beq_self_eq_true, decide_true]
   exact .refl _
 · have h' : (e == 0) = false := by simpa using h
   simp only [go_sem, h1, h2, h3, lx, ly, lz, hr, h', f1, f2, f3, ns, bb, c0, beq_self_eq_true, decide_true]
   exact .refl _
end Go.Proofs.YtbfapomdnocbaaaGreatDoor.AM
