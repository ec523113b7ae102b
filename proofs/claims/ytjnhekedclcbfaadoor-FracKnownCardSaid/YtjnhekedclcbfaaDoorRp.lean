/- strings.Repeat, az a fact about a program. -/
import Derived.Test.YtjnhekedclcbfaaDoorB7
namespace Go.Proofs.YtjnhekedclcbfaaDoor.AM
set_option linter.all false
set_option autoImplicit true
set_option relaxedAutoImplicit true
open Go Go.Proofs
set_option maxRecDepth 100000
set_option maxHeartbeats 8000000
set_option linter.unusedSimpArgs false
variable {P : Program}

def repB (c : Nat) : ByteArray := ⟨(List.replicate c 57).toArray⟩
def RepOk (P : Program) : Prop := ∀ c : Nat, c ≤ 100000 → CSpec P 30 [.str ⟨#[57]⟩, .int .i64 (c : Int)] (.str (repB c))
def repS : List AV → Option (Prop × AV)
  | [.str s, .int .i64 c] => some (s = ⟨#[57]⟩ ∧ 0 ≤ c ∧ c.toNat ≤ 100000, .str (repB c.toNat))
  | _ => none
theorem repS_ok (hR : RepOk P) (args p r) (h : repS args = some (p, r)) (hp : p) : CSpec P 30 args r := by
  unfold repS at h
  split at h
  · simp only [Option.some.injEq, Prod.mk.injEq] at h
    obtain ⟨rfl, rfl⟩ := h
    obtain ⟨rfl, h2, h3⟩ := hp
    have := hR _ h3
    rw [nn h2] at this; exact this
  · simp at h
attribute [go_sem] repS
theorem bl_repB (c : Nat) : bl (repB c) = List.replicate c 57 := by
  unfold bl repB
  simp
theorem okD_rep (c : Nat) (h : 0 < c) : okD (List.replicate c 57) := by
  refine ⟨by intro e; have := congrArg List.length e; simp at this; omega, ?_, fun d hd => by rw [List.eq_of_mem_replicate hd]; decide⟩
  rintro ⟨_, h2⟩
  obtain ⟨n, rfl⟩ : ∃ n, c = n + 1 := ⟨c - 1, by omega⟩
  simp [List.replicate_succ] at h2
end Go.Proofs.YtjnhekedclcbfaaDoor.AM
