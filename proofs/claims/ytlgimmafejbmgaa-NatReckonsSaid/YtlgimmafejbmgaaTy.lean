/- The types, as the machine sees them. -/
import Derived.Test.YtlgimmafejbmgaaAm15
import Derived.Test.YtlgimmafejbmgaaProg
import Derived.KernelRfl
namespace Go.Proofs.Ytlgimmafejbmgaa.AM
set_option linter.all false
set_option autoImplicit true
set_option relaxedAutoImplicit true
open Go Go.Proofs
def T0 : Nat → Option TyD
  | 2 => some ⟨.int .i64, 1, 8, [.int .i64 0]⟩
  | 3 => some ⟨.int .i64, 1, 8, [.int .i64 0]⟩
  | 4 => some ⟨.bool, 1, 1, [.bool false]⟩
  | 5 => some ⟨.int .u8, 1, 1, [.int .u8 0]⟩
  | 9 => some ⟨.string, 1, 16, [.str ⟨#[]⟩]⟩
  | 22 => some ⟨.int .u64, 1, 8, [.int .u64 0]⟩
  | 25 => some ⟨.slice 22, 1, 24, [.nils]⟩
  | 27 => some ⟨.struct [(0, 22), (1, 25)], 2, 32, [.int .u64 0, .nils]⟩
  | 29 => some ⟨.slice 65, 1, 24, [.nils]⟩
  | 41 => some ⟨.int .i64, 1, 8, [.int .i64 0]⟩
  | 53 => some ⟨.slice 27, 1, 24, [.nils]⟩
  | 62 => some ⟨.slice 9, 1, 24, [.nils]⟩
  | 65 => some ⟨.int .u32, 1, 4, [.int .u32 0]⟩
  | 73 => some ⟨.slice 5, 1, 24, [.nils]⟩
  | 78 => some ⟨.int .u64, 1, 8, [.int .u64 0]⟩
  | _ => none
theorem T0_ok : TyOk Try.prog T0 := by
  intro t d h
  unfold T0 at h
  split at h <;> (try (simp at h; done)) <;> obtain rfl := Option.some.inj h
  · exact ⟨_, Try.t2, _, { un := Try.underlying2, k := rfl, info := by kernel_rfl, size := rfl, bytes := rfl, zero := rfl, rep := fun W φ w => (RL.int _ _ .nil), pos := by decide, sz1 := by first | exact fun _ => rfl | exact fun h => absurd h (by decide), len := rfl, ck := rfl, flds := by kernel_rfl }⟩
  · exact ⟨_, Try.t3, _, { un := Try.underlying3, k := rfl, info := by kernel_rfl, size := rfl, bytes := rfl, zero := rfl, rep := fun W φ w => (RL.int _ _ .nil), pos := by decide, sz1 := by first | exact fun _ => rfl | exact fun h => absurd h (by decide), len := rfl, ck := rfl, flds := by kernel_rfl }⟩
  · exact ⟨_, Try.t4, _, { un := Try.underlying4, k := trivial, info := by kernel_rfl, size := rfl, bytes := rfl, zero := rfl, rep := fun W φ w => (RL.bool _ .nil), pos := by decide, sz1 := by first | exact fun _ => rfl | exact fun h => absurd h (by decide), len := rfl, ck := rfl, flds := by kernel_rfl }⟩
  · exact ⟨_, Try.t5, _, { un := Try.underlying5, k := rfl, info := by kernel_rfl, size := rfl, bytes := rfl, zero := rfl, rep := fun W φ w => (RL.int _ _ .nil), pos := by decide, sz1 := by first | exact fun _ => rfl | exact fun h => absurd h (by decide), len := rfl, ck := rfl, flds := by kernel_rfl }⟩
  · exact ⟨_, Try.t9, _, { un := Try.underlying9, k := trivial, info := by kernel_rfl, size := rfl, bytes := rfl, zero := rfl, rep := fun W φ w => (RL.str _ .nil), pos := by decide, sz1 := by first | exact fun _ => rfl | exact fun h => absurd h (by decide), len := rfl, ck := rfl, flds := by kernel_rfl }⟩
  · exact ⟨_, Try.t22, _, { un := Try.underlying22, k := rfl, info := by kernel_rfl, size := rfl, bytes := rfl, zero := rfl, rep := fun W φ w => (RL.int _ _ .nil), pos := by decide, sz1 := by first | exact fun _ => rfl | exact fun h => absurd h (by decide), len := rfl, ck := rfl, flds := by kernel_rfl }⟩
  · exact ⟨_, Try.t25, _, { un := Try.underlying25, k := rfl, info := by kernel_rfl, size := rfl, bytes := rfl, zero := rfl, rep := fun W φ w => (RL.nils .nil), pos := by decide, sz1 := by first | exact fun _ => rfl | exact fun h => absurd h (by decide), len := rfl, ck := rfl, flds := by kernel_rfl }⟩
  · exact ⟨_, Try.t27, _, { un := Try.underlying27, k := rfl, info := by kernel_rfl, size := rfl, bytes := rfl, zero := rfl, rep := fun W φ w => ((RL.int _ _ .nil).app (RL.nils .nil)), pos := by decide, sz1 := by first | exact fun _ => rfl | exact fun h => absurd h (by decide), len := rfl, ck := rfl, flds := by kernel_rfl }⟩
  · exact ⟨_, Try.t29, _, { un := Try.underlying29, k := rfl, info := by kernel_rfl, size := rfl, bytes := rfl, zero := rfl, rep := fun W φ w => (RL.nils .nil), pos := by decide, sz1 := by first | exact fun _ => rfl | exact fun h => absurd h (by decide), len := rfl, ck := rfl, flds := by kernel_rfl }⟩
  · exact ⟨_, Try.t41, _, { un := Try.underlying41, k := rfl, info := by kernel_rfl, size := rfl, bytes := rfl, zero := rfl, rep := fun W φ w => (RL.int _ _ .nil), pos := by decide, sz1 := by first | exact fun _ => rfl | exact fun h => absurd h (by decide), len := rfl, ck := rfl, flds := by kernel_rfl }⟩
  · exact ⟨_, Try.t53, _, { un := Try.underlying53, k := rfl, info := by kernel_rfl, size := rfl, bytes := rfl, zero := rfl, rep := fun W φ w => (RL.nils .nil), pos := by decide, sz1 := by first | exact fun _ => rfl | exact fun h => absurd h (by decide), len := rfl, ck := rfl, flds := by kernel_rfl }⟩
  · exact ⟨_, Try.t62, _, { un := Try.underlying62, k := rfl, info := by kernel_rfl, size := rfl, bytes := rfl, zero := rfl, rep := fun W φ w => (RL.nils .nil), pos := by decide, sz1 := by first | exact fun _ => rfl | exact fun h => absurd h (by decide), len := rfl, ck := rfl, flds := by kernel_rfl }⟩
  · exact ⟨_, Try.t65, _, { un := Try.underlying65, k := rfl, info := by kernel_rfl, size := rfl, bytes := rfl, zero := rfl, rep := fun W φ w => (RL.int _ _ .nil), pos := by decide, sz1 := by first | exact fun _ => rfl | exact fun h => absurd h (by decide), len := rfl, ck := rfl, flds := by kernel_rfl }⟩
  · exact ⟨_, Try.t73, _, { un := Try.underlying73, k := rfl, info := by kernel_rfl, size := rfl, bytes := rfl, zero := rfl, rep := fun W φ w => (RL.nils .nil), pos := by decide, sz1 := by first | exact fun _ => rfl | exact fun h => absurd h (by decide), len := rfl, ck := rfl, flds := by kernel_rfl }⟩
  · exact ⟨_, Try.t78, _, { un := Try.underlying78, k := rfl, info := by kernel_rfl, size := rfl, bytes := rfl, zero := rfl, rep := fun W φ w => (RL.int _ _ .nil), pos := by decide, sz1 := by first | exact fun _ => rfl | exact fun h => absurd h (by decide), len := rfl, ck := rfl, flds := by kernel_rfl }⟩
theorem T0_2 : T0 2 = some ⟨.int .i64, 1, 8, [.int .i64 0]⟩ := rfl
theorem T0_3 : T0 3 = some ⟨.int .i64, 1, 8, [.int .i64 0]⟩ := rfl
theorem T0_4 : T0 4 = some ⟨.bool, 1, 1, [.bool false]⟩ := rfl
theorem T0_5 : T0 5 = some ⟨.int .u8, 1, 1, [.int .u8 0]⟩ := rfl
theorem T0_9 : T0 9 = some ⟨.string, 1, 16, [.str ⟨#[]⟩]⟩ := rfl
theorem T0_22 : T0 22 = some ⟨.int .u64, 1, 8, [.int .u64 0]⟩ := rfl
theorem T0_25 : T0 25 = some ⟨.slice 22, 1, 24, [.nils]⟩ := rfl
theorem T0_27 : T0 27 = some ⟨.struct [(0, 22), (1, 25)], 2, 32, [.int .u64 0, .nils]⟩ := rfl
theorem T0_29 : T0 29 = some ⟨.slice 65, 1, 24, [.nils]⟩ := rfl
theorem T0_41 : T0 41 = some ⟨.int .i64, 1, 8, [.int .i64 0]⟩ := rfl
theorem T0_53 : T0 53 = some ⟨.slice 27, 1, 24, [.nils]⟩ := rfl
theorem T0_62 : T0 62 = some ⟨.slice 9, 1, 24, [.nils]⟩ := rfl
theorem T0_65 : T0 65 = some ⟨.int .u32, 1, 4, [.int .u32 0]⟩ := rfl
theorem T0_73 : T0 73 = some ⟨.slice 5, 1, 24, [.nils]⟩ := rfl
theorem T0_78 : T0 78 = some ⟨.int .u64, 1, 8, [.int .u64 0]⟩ := rfl
attribute [go_sem] T0_2 T0_3 T0_4 T0_5 T0_9 T0_22 T0_25 T0_27 T0_29 T0_41 T0_53 T0_62 T0_65 T0_73 T0_78
def T1 : Nat → Option TyD
  | 2 => some ⟨.int .i64, 1, 8, [.int .i64 0]⟩
  | 3 => some ⟨.int .i64, 1, 8, [.int .i64 0]⟩
  | 4 => some ⟨.bool, 1, 1, [.bool false]⟩
  | 5 => some ⟨.int .u8, 1, 1, [.int .u8 0]⟩
  | 9 => some ⟨.string, 1, 16, [.str ⟨#[]⟩]⟩
  | 22 => some ⟨.int .u64, 1, 8, [.int .u64 0]⟩
  | 25 => some ⟨.slice 22, 1, 24, [.nils]⟩
  | 27 => some ⟨.struct [(0, 22), (1, 25)], 2, 32, [.opq (.nat 0), .pad]⟩
  | 29 => some ⟨.slice 65, 1, 24, [.opq (.rnat 0)]⟩
  | 41 => some ⟨.int .i64, 1, 8, [.int .i64 0]⟩
  | 53 => some ⟨.slice 27, 1, 24, [.nils]⟩
  | 62 => some ⟨.slice 9, 1, 24, [.nils]⟩
  | 65 => some ⟨.int .u32, 1, 4, [.int .u32 0]⟩
  | 73 => some ⟨.slice 5, 1, 24, [.nils]⟩
  | 78 => some ⟨.int .u64, 1, 8, [.int .u64 0]⟩
  | _ => none
theorem T1_ok : TyOk Try.prog T1 := by
  intro t d h
  unfold T1 at h
  split at h <;> (try (simp at h; done)) <;> obtain rfl := Option.some.inj h
  · exact ⟨_, Try.t2, _, { un := Try.underlying2, k := rfl, info := by kernel_rfl, size := rfl, bytes := rfl, zero := rfl, rep := fun W φ w => (RL.int _ _ .nil), pos := by decide, sz1 := by first | exact fun _ => rfl | exact fun h => absurd h (by decide), len := rfl, ck := rfl, flds := by kernel_rfl }⟩
  · exact ⟨_, Try.t3, _, { un := Try.underlying3, k := rfl, info := by kernel_rfl, size := rfl, bytes := rfl, zero := rfl, rep := fun W φ w => (RL.int _ _ .nil), pos := by decide, sz1 := by first | exact fun _ => rfl | exact fun h => absurd h (by decide), len := rfl, ck := rfl, flds := by kernel_rfl }⟩
  · exact ⟨_, Try.t4, _, { un := Try.underlying4, k := trivial, info := by kernel_rfl, size := rfl, bytes := rfl, zero := rfl, rep := fun W φ w => (RL.bool _ .nil), pos := by decide, sz1 := by first | exact fun _ => rfl | exact fun h => absurd h (by decide), len := rfl, ck := rfl, flds := by kernel_rfl }⟩
  · exact ⟨_, Try.t5, _, { un := Try.underlying5, k := rfl, info := by kernel_rfl, size := rfl, bytes := rfl, zero := rfl, rep := fun W φ w => (RL.int _ _ .nil), pos := by decide, sz1 := by first | exact fun _ => rfl | exact fun h => absurd h (by decide), len := rfl, ck := rfl, flds := by kernel_rfl }⟩
  · exact ⟨_, Try.t9, _, { un := Try.underlying9, k := trivial, info := by kernel_rfl, size := rfl, bytes := rfl, zero := rfl, rep := fun W φ w => (RL.str _ .nil), pos := by decide, sz1 := by first | exact fun _ => rfl | exact fun h => absurd h (by decide), len := rfl, ck := rfl, flds := by kernel_rfl }⟩
  · exact ⟨_, Try.t22, _, { un := Try.underlying22, k := rfl, info := by kernel_rfl, size := rfl, bytes := rfl, zero := rfl, rep := fun W φ w => (RL.int _ _ .nil), pos := by decide, sz1 := by first | exact fun _ => rfl | exact fun h => absurd h (by decide), len := rfl, ck := rfl, flds := by kernel_rfl }⟩
  · exact ⟨_, Try.t25, _, { un := Try.underlying25, k := rfl, info := by kernel_rfl, size := rfl, bytes := rfl, zero := rfl, rep := fun W φ w => (RL.nils .nil), pos := by decide, sz1 := by first | exact fun _ => rfl | exact fun h => absurd h (by decide), len := rfl, ck := rfl, flds := by kernel_rfl }⟩
  · exact ⟨_, Try.t27, _, { un := Try.underlying27, k := rfl, info := by kernel_rfl, size := rfl, bytes := rfl, zero := rfl, rep := fun W φ w => RL.z_nat, pos := by decide, sz1 := by first | exact fun _ => rfl | exact fun h => absurd h (by decide), len := rfl, ck := rfl, flds := by kernel_rfl }⟩
  · exact ⟨_, Try.t29, _, { un := Try.underlying29, k := rfl, info := by kernel_rfl, size := rfl, bytes := rfl, zero := rfl, rep := fun W φ w => RL.z_rnat, pos := by decide, sz1 := by first | exact fun _ => rfl | exact fun h => absurd h (by decide), len := rfl, ck := rfl, flds := by kernel_rfl }⟩
  · exact ⟨_, Try.t41, _, { un := Try.underlying41, k := rfl, info := by kernel_rfl, size := rfl, bytes := rfl, zero := rfl, rep := fun W φ w => (RL.int _ _ .nil), pos := by decide, sz1 := by first | exact fun _ => rfl | exact fun h => absurd h (by decide), len := rfl, ck := rfl, flds := by kernel_rfl }⟩
  · exact ⟨_, Try.t53, _, { un := Try.underlying53, k := rfl, info := by kernel_rfl, size := rfl, bytes := rfl, zero := rfl, rep := fun W φ w => (RL.nils .nil), pos := by decide, sz1 := by first | exact fun _ => rfl | exact fun h => absurd h (by decide), len := rfl, ck := rfl, flds := by kernel_rfl }⟩
  · exact ⟨_, Try.t62, _, { un := Try.underlying62, k := rfl, info := by kernel_rfl, size := rfl, bytes := rfl, zero := rfl, rep := fun W φ w => (RL.nils .nil), pos := by decide, sz1 := by first | exact fun _ => rfl | exact fun h => absurd h (by decide), len := rfl, ck := rfl, flds := by kernel_rfl }⟩
  · exact ⟨_, Try.t65, _, { un := Try.underlying65, k := rfl, info := by kernel_rfl, size := rfl, bytes := rfl, zero := rfl, rep := fun W φ w => (RL.int _ _ .nil), pos := by decide, sz1 := by first | exact fun _ => rfl | exact fun h => absurd h (by decide), len := rfl, ck := rfl, flds := by kernel_rfl }⟩
  · exact ⟨_, Try.t73, _, { un := Try.underlying73, k := rfl, info := by kernel_rfl, size := rfl, bytes := rfl, zero := rfl, rep := fun W φ w => (RL.nils .nil), pos := by decide, sz1 := by first | exact fun _ => rfl | exact fun h => absurd h (by decide), len := rfl, ck := rfl, flds := by kernel_rfl }⟩
  · exact ⟨_, Try.t78, _, { un := Try.underlying78, k := rfl, info := by kernel_rfl, size := rfl, bytes := rfl, zero := rfl, rep := fun W φ w => (RL.int _ _ .nil), pos := by decide, sz1 := by first | exact fun _ => rfl | exact fun h => absurd h (by decide), len := rfl, ck := rfl, flds := by kernel_rfl }⟩
theorem T1_2 : T1 2 = some ⟨.int .i64, 1, 8, [.int .i64 0]⟩ := rfl
theorem T1_3 : T1 3 = some ⟨.int .i64, 1, 8, [.int .i64 0]⟩ := rfl
theorem T1_4 : T1 4 = some ⟨.bool, 1, 1, [.bool false]⟩ := rfl
theorem T1_5 : T1 5 = some ⟨.int .u8, 1, 1, [.int .u8 0]⟩ := rfl
theorem T1_9 : T1 9 = some ⟨.string, 1, 16, [.str ⟨#[]⟩]⟩ := rfl
theorem T1_22 : T1 22 = some ⟨.int .u64, 1, 8, [.int .u64 0]⟩ := rfl
theorem T1_25 : T1 25 = some ⟨.slice 22, 1, 24, [.nils]⟩ := rfl
theorem T1_27 : T1 27 = some ⟨.struct [(0, 22), (1, 25)], 2, 32, [.opq (.nat 0), .pad]⟩ := rfl
theorem T1_29 : T1 29 = some ⟨.slice 65, 1, 24, [.opq (.rnat 0)]⟩ := rfl
theorem T1_41 : T1 41 = some ⟨.int .i64, 1, 8, [.int .i64 0]⟩ := rfl
theorem T1_53 : T1 53 = some ⟨.slice 27, 1, 24, [.nils]⟩ := rfl
theorem T1_62 : T1 62 = some ⟨.slice 9, 1, 24, [.nils]⟩ := rfl
theorem T1_65 : T1 65 = some ⟨.int .u32, 1, 4, [.int .u32 0]⟩ := rfl
theorem T1_73 : T1 73 = some ⟨.slice 5, 1, 24, [.nils]⟩ := rfl
theorem T1_78 : T1 78 = some ⟨.int .u64, 1, 8, [.int .u64 0]⟩ := rfl
attribute [go_sem] T1_2 T1_3 T1_4 T1_5 T1_9 T1_22 T1_25 T1_27 T1_29 T1_41 T1_53 T1_62 T1_65 T1_73 T1_78
end Go.Proofs.Ytlgimmafejbmgaa.AM
