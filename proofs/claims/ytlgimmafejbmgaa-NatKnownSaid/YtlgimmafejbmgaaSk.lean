/- strings.Repeat of one byte. -/
import Derived.Shelf.Strings.Repeat
import Derived.Test.YtlgimmafejbmgaaSh
import Derived.Test.YtlgimmafejbmgaaNz
namespace Go.Proofs.Ytlgimmafejbmgaa.AM
set_option linter.all false
set_option autoImplicit true
set_option relaxedAutoImplicit true
open Go Go.Proofs Go.Shelf
def shr105_ren : Go.Shelf.Ren := ⟨fun | 105 => 36 | 212 => 49 | 99 => 50 | 165 => 51 | 166 => 52 | 170 => 53 | 169 => 54 | 263 => 62 | 264 => 41 | 206 => 63 | 240 => 64 | 241 => 65 | 276 => 66 | 277 => 67 | n => n, fun | 9 => 9 | 3 => 3 | 4 => 4 | 20 => 20 | 0 => 0 | 46 => 78 | 109 => 79 | 5 => 5 | 72 => 83 | 76 => 87 | 51 => 65 | 146 => 94 | 53 => 22 | 148 => 68 | 70 => 81 | 37 => 73 | 75 => 86 | 127 => 96 | 164 => 97 | 80 => 44 | n => n, fun | n => n⟩
theorem shr105 : Go.Proofs.Lays.n105 Try.prog shr105_ren := {
  mixed := by kernel_rfl
  f99 := Try.func50.trans (congrArg some (by kernel_rfl))
  f105 := Try.func36.trans (congrArg some (by kernel_rfl))
  f165 := Try.func51.trans (congrArg some (by kernel_rfl))
  f166 := Try.func52.trans (congrArg some (by kernel_rfl))
  f169 := Try.func54.trans (congrArg some (by kernel_rfl))
  f170 := Try.func53.trans (congrArg some (by kernel_rfl))
  f206 := Try.func63.trans (congrArg some (by kernel_rfl))
  f212 := Try.func49.trans (congrArg some (by kernel_rfl))
  f240 := Try.func64.trans (congrArg some (by kernel_rfl))
  f241 := Try.func65.trans (congrArg some (by kernel_rfl))
  f263 := Try.func62.trans (congrArg some (by kernel_rfl))
  f264 := Try.func41.trans (congrArg some (by kernel_rfl))
  f276 := Try.func66.trans (congrArg some (by kernel_rfl))
  f277 := Try.func67.trans (congrArg some (by kernel_rfl))
  t0 := Try.underlying0
  a0 := Try.isAgg0
  z0 := Try.sizeOf0
  v0 := Try.zeroValue0
  t3 := Try.underlying3
  a3 := Try.isAgg3
  z3 := Try.sizeOf3
  v3 := Try.zeroValue3
  t4 := Try.underlying4
  a4 := Try.isAgg4
  z4 := Try.sizeOf4
  v4 := Try.zeroValue4
  t5 := Try.underlying5
  a5 := Try.isAgg5
  z5 := Try.sizeOf5
  v5 := Try.zeroValue5
  t9 := Try.underlying9
  a9 := Try.isAgg9
  z9 := Try.sizeOf9
  v9 := Try.zeroValue9
  t20 := Try.underlying20
  a20 := Try.isAgg20
  z20 := Try.sizeOf20
  v20 := Try.zeroValue20
  t37 := Try.underlying73
  a37 := Try.isAgg73
  z37 := Try.sizeOf73
  v37 := Try.zeroValue73
  t46 := Try.underlying78
  a46 := Try.isAgg78
  z46 := Try.sizeOf78
  v46 := Try.zeroValue78
  t51 := Try.underlying65
  a51 := Try.isAgg65
  z51 := Try.sizeOf65
  v51 := Try.zeroValue65
  t53 := Try.underlying22
  a53 := Try.isAgg22
  z53 := Try.sizeOf22
  v53 := Try.zeroValue22
  t70 := Try.underlying81
  a70 := Try.isAgg81
  z70 := Try.sizeOf81
  v70 := Try.zeroValue81
  t72 := Try.underlying83
  a72 := Try.isAgg83
  z72 := Try.sizeOf83
  v72 := Try.zeroValue83
  t75 := Try.underlying86
  a75 := Try.isAgg86
  z75 := Try.sizeOf86
  v75 := Try.zeroValue86
  t76 := Try.underlying87
  a76 := Try.isAgg87
  z76 := Try.sizeOf87
  v76 := Try.zeroValue87
  t109 := Try.underlying79
  a109 := Try.isAgg79
  z109 := Try.sizeOf79
  v109 := Try.zeroValue79
  t127 := Try.underlying96
  a127 := Try.isAgg96
  z127 := Try.sizeOf96
  v127 := Try.zeroValue96
  t146 := Try.underlying94
  a146 := Try.isAgg94
  z146 := Try.sizeOf94
  v146 := Try.zeroValue94
  t148 := Try.underlying68
  a148 := Try.isAgg68
  z148 := Try.sizeOf68
  v148 := Try.zeroValue68
  t164 := Try.underlying97
  a164 := Try.isAgg97
  z164 := Try.sizeOf97
  v164 := Try.zeroValue97 }
theorem she105 : Builder.Extra Try.prog shr105_ren := {
  sizeBuilder := by kernel_rfl
  liesBuilder := by kernel_rfl
  t5 := Try.underlying5
  a5 := Try.isAgg5
  z5 := Try.sizeOf5
  v5 := Try.zeroValue5
  infoByte := by kernel_rfl
  cellsByte := by kernel_rfl
  sizeByte := by kernel_rfl
  neB5 := by decide }
open Go.RowKit Go.Lib in
theorem sh_Repeat (s : ByteArray) (c : Nat) (w : World) (hc : c ≤ 9223372036854775807) (hlen : s.size * c ≤ 140737488355328) :
    Calls Try.prog 36 #[.string s, .int .i64 c] w fun e w' => e = .returned (.string ⟨(Lib.repeatL s.data.toList c).toArray⟩) ∧ Below w.heap.size w w' := Any.strings_Repeat shr105 she105 s c w hc hlen
theorem repeatL_57 : ∀ c : Nat, Lib.repeatL [57] c = List.replicate c 57
  | 0 => rfl
  | c + 1 => by
    show [57] ++ Lib.repeatL [57] c = _
    rw [repeatL_57 c]; rfl
theorem sh_rep (c : Nat) (hc : c ≤ 100000) : CSpec Try.prog 36 [.str ⟨#[57]⟩, .int .i64 (c : Int)] (.str (repB c)) := by
  intro X φ w vs _ hr
  obtain ⟨v, vs', rfl, h1, h2⟩ := hr.uncons rfl
  obtain rfl := h1.str_inv
  obtain ⟨v, vs', rfl, h1, h3⟩ := h2.uncons rfl
  obtain rfl := h1.int_inv
  obtain rfl := h3.nil_of
  have hs : (ByteArray.mk #[57]).size = 1 := rfl
  refine enter_of Try.func36 rfl rfl ((sh_Repeat ⟨#[57]⟩ c w (by omega) (by rw [hs]; omega)).mono fun e w' he => ⟨_, he.1, ?_⟩)
  refine ⟨?_, he.2⟩
  have e1 : (ByteArray.mk #[57]).data.toList = [57] := rfl
  rw [e1, repeatL_57]
  exact .str _ .nil
end Go.Proofs.Ytlgimmafejbmgaa.AM
