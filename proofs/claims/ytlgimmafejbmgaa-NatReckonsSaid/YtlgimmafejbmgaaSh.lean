/- The library's functions that the program calls; the program has all that was asked of it. -/
import Derived.Shelf.Small.Bits
import Derived.Shelf.Strconv.Itoa0
import Derived.Shelf.Bits.Mul64
import Derived.Laws.Externs
import Derived.Lib.ItoaNum
import Derived.Test.YtlgimmafejbmgaaPg
namespace Go.Proofs.Ytlgimmafejbmgaa.AM
set_option linter.all false
set_option autoImplicit true
set_option relaxedAutoImplicit true
open Go Go.Proofs Go.Shelf
def shl134_ren : Go.Shelf.Ren := ⟨fun | 134 => 56 | 129 => 39 | n => n, fun | 53 => 22 | 3 => 3 | 4 => 4 | 46 => 78 | 5 => 5 | 9 => 9 | n => n, fun | n => n⟩
theorem shl134 : Go.Proofs.Lays.n134 Try.prog shl134_ren := {
  mixed := by kernel_rfl
  f129 := Try.func39.trans (congrArg some (by kernel_rfl))
  f134 := Try.func56.trans (congrArg some (by kernel_rfl))
  t3 := Try.underlying3
  a3 := Try.isAgg3
  z3 := Try.sizeOf3
  v3 := Try.zeroValue3
  t4 := Try.underlying4
  a4 := Try.isAgg4
  z4 := Try.sizeOf4
  v4 := Try.zeroValue4
  t5 := Try.underlying5
  a5 := Try.isAgg5
  z5 := Try.sizeOf5
  v5 := Try.zeroValue5
  t9 := Try.underlying9
  a9 := Try.isAgg9
  z9 := Try.sizeOf9
  v9 := Try.zeroValue9
  t46 := Try.underlying78
  a46 := Try.isAgg78
  z46 := Try.sizeOf78
  v46 := Try.zeroValue78
  t53 := Try.underlying22
  a53 := Try.isAgg22
  z53 := Try.sizeOf22
  v53 := Try.zeroValue22 }
theorem sh_LeadingZeros64 (x : Int) (w : World) (h0 : 0 ≤ x) (h1 : x ≤ 18446744073709551615) :
    Calls Try.prog 56 #[.int .u64 x] w fun e w' => e = .returned (.int .i64 (64 - (Lib.bitLen x.toNat : Int))) ∧ w' = w := Any.bits_LeadingZeros64 shl134 x w h0 h1
def shl129_ren : Go.Shelf.Ren := ⟨fun | 129 => 39 | n => n, fun | 53 => 22 | 3 => 3 | 4 => 4 | 46 => 78 | 5 => 5 | 9 => 9 | n => n, fun | n => n⟩
theorem shl129 : Go.Proofs.Lays.n129 Try.prog shl129_ren := {
  mixed := by kernel_rfl
  f129 := Try.func39.trans (congrArg some (by kernel_rfl))
  t3 := Try.underlying3
  a3 := Try.isAgg3
  z3 := Try.sizeOf3
  v3 := Try.zeroValue3
  t4 := Try.underlying4
  a4 := Try.isAgg4
  z4 := Try.sizeOf4
  v4 := Try.zeroValue4
  t5 := Try.underlying5
  a5 := Try.isAgg5
  z5 := Try.sizeOf5
  v5 := Try.zeroValue5
  t9 := Try.underlying9
  a9 := Try.isAgg9
  z9 := Try.sizeOf9
  v9 := Try.zeroValue9
  t46 := Try.underlying78
  a46 := Try.isAgg78
  z46 := Try.sizeOf78
  v46 := Try.zeroValue78
  t53 := Try.underlying22
  a53 := Try.isAgg22
  z53 := Try.sizeOf22
  v53 := Try.zeroValue22 }
theorem sh_Len64 (x : Int) (w : World) (h0 : 0 ≤ x) (h1 : x ≤ 18446744073709551615) :
    Calls Try.prog 39 #[.int .u64 x] w fun e w' => e = .returned (.int .i64 (Lib.bitLen x.toNat)) ∧ w' = w := Any.bits_Len64 shl129 x w h0 h1
def shl264_ren : Go.Shelf.Ren := ⟨fun | 264 => 41 | n => n, fun | 53 => 22 | 46 => 78 | n => n, fun | n => n⟩
theorem shl264 : Go.Proofs.Lays.n264 Try.prog shl264_ren := {
  mixed := by kernel_rfl
  f264 := Try.func41.trans (congrArg some (by kernel_rfl))
  t46 := Try.underlying78
  a46 := Try.isAgg78
  z46 := Try.sizeOf78
  v46 := Try.zeroValue78
  t53 := Try.underlying22
  a53 := Try.isAgg22
  z53 := Try.sizeOf22
  v53 := Try.zeroValue22 }
open Go.RowKit Go.Lib in
theorem sh_Mul64 (x y : Nat) (hx : x < 18446744073709551616) (hy : y < 18446744073709551616) (w : World) :
    Calls Try.prog 41 #[.int .u64 x, .int .u64 y] w fun e w' => e = .returned (.tuple #[.int .u64 ((x * y / 18446744073709551616 : Nat) : Int), .int .u64 ((x * y % 18446744073709551616 : Nat) : Int)]) ∧ w' = w := Any.bits_Mul64 shl264 x y hx hy w
theorem enter_of {P : Program} {f fn c} (hf : P.funcs[f]? = some fn) (hb : fn.body = some c) (hn : (fn.name == "runtime.NumGoroutine") = false) {vs w R} (h : Calls P f vs w fun e w' => ∃ v, e = .returned v ∧ R v w') : Invk P f vs w R := by
  unfold Invk; rw [callFunc_enter hf hb hn]; exact h
theorem blen_eq (x : Nat) (h : x < 18446744073709551616) : Lib.bitLen x = blen x := by
  unfold blen
  split
  · rename_i e; subst e; exact Lib.bitLenAux_zero _
  · rename_i e
    obtain ⟨h1, h2, h3⟩ := Lib.bitLenAux_bounds 64 x (by simpa using h) e
    have k1 := Nat.log2_self_le e
    have k2 : x < 2 ^ (x.log2 + 1) := Nat.lt_log2_self
    have a1 : Lib.bitLen x - 1 < x.log2 + 1 := (Nat.pow_lt_pow_iff_right (by decide : 1 < 2)).1 (Nat.lt_of_le_of_lt h2 k2)
    have a2 : x.log2 < Lib.bitLen x := (Nat.pow_lt_pow_iff_right (by decide : 1 < 2)).1 (Nat.lt_of_le_of_lt k1 h3)
    unfold Lib.bitLen at *
    omega
theorem blen_le (x : Nat) (h : x < 18446744073709551616) : blen x ≤ 64 := by
  unfold blen; split
  · omega
  · rename_i e
    have : x.log2 < 64 := (Nat.log2_lt e).2 (by simpa using h)
    omega
theorem Below.rfl' {w : World} : RowKit.Below w.heap.size w w := RowKit.Below.refl _ _
theorem sh_len64 (x : Nat) (h : x < 18446744073709551616) : CSpec Try.prog 39 [.int .u64 (x : Int)] (.int .i64 (blen x : Nat)) := by
  intro X φ w vs _ hr
  obtain ⟨v, vs', rfl, h1, h2⟩ := hr.uncons rfl
  obtain rfl := h1.int_inv
  obtain rfl := h2.nil_of
  refine enter_of Try.func39 rfl rfl ((sh_Len64 x w (by omega) (by omega)).mono fun e w' he => ⟨_, he.1, ?_⟩)
  obtain ⟨_, rfl⟩ := he
  rw [Int.toNat_natCast, blen_eq x h]
  exact ⟨.int _ _ .nil, Below.rfl'⟩
theorem sh_lz64 (x : Nat) (h : x < 18446744073709551616) : CSpec Try.prog 56 [.int .u64 (x : Int)] (.int .i64 ((64 - blen x : Nat) : Int)) := by
  intro X φ w vs _ hr
  obtain ⟨v, vs', rfl, h1, h2⟩ := hr.uncons rfl
  obtain rfl := h1.int_inv
  obtain rfl := h2.nil_of
  refine enter_of Try.func56 rfl rfl ((sh_LeadingZeros64 x w (by omega) (by omega)).mono fun e w' he => ⟨_, he.1, ?_⟩)
  obtain ⟨_, rfl⟩ := he
  have := blen_le x h
  rw [Int.toNat_natCast, blen_eq x h, show (64 : Int) - (blen x : Int) = ((64 - blen x : Nat) : Int) by omega]
  exact ⟨.int _ _ .nil, Below.rfl'⟩
theorem sh_mul64 (x y : Nat) (hx : x < 18446744073709551616) (hy : y < 18446744073709551616) : CSpec Try.prog 41 [.int .u64 (x : Int), .int .u64 (y : Int)] (.tup [.int .u64 ((mulh x y : Nat) : Int), .int .u64 ((mull x y : Nat) : Int)]) := by
  rw [mulh_eq, mull_eq]
  intro X φ w vs _ hr
  obtain ⟨v, vs', rfl, h1, h2⟩ := hr.uncons rfl
  obtain rfl := h1.int_inv
  obtain ⟨v, vs', rfl, h1, h3⟩ := h2.uncons rfl
  obtain rfl := h1.int_inv
  obtain rfl := h3.nil_of
  refine enter_of Try.func41 rfl rfl ((sh_Mul64 x y hx hy w).mono fun e w' he => ⟨_, he.1, ?_⟩)
  obtain ⟨_, rfl⟩ := he
  exact ⟨.tup (.int _ _ (.int _ _ .nil)) .nil, Below.rfl'⟩
theorem sh_add64 (x y c : Nat) (_ : x < 18446744073709551616) (hc : c ≤ 1) : CSpec Try.prog 42 [.int .u64 (x : Int), .int .u64 (y : Int), .int .u64 (c : Int)] (.tup [.int .u64 ((addl x y c : Nat) : Int), .int .u64 ((addh x y c : Nat) : Int)]) := by
  rw [addl_eq, addh_eq]
  intro X φ w vs _ hr
  obtain ⟨v, vs', rfl, h1, h2⟩ := hr.uncons rfl
  obtain rfl := h1.int_inv
  obtain ⟨v, vs', rfl, h1, h3⟩ := h2.uncons rfl
  obtain rfl := h1.int_inv
  obtain ⟨v, vs', rfl, h1, h4⟩ := h3.uncons rfl
  obtain rfl := h1.int_inv
  obtain rfl := h4.nil_of
  unfold Invk
  rw [run_callFunc_extern Try.func42 (by kernel_rfl) (by kernel_rfl) (by kernel_rfl) (e := add64Entry) (by kernel_rfl), run_add64 x y c (by omega) (by omega) (by omega) (by omega)]
  simp only [Result.andThen]
  rw [show ((x : Int) + y + c) % 18446744073709551616 = (((x + y + c) % 18446744073709551616 : Nat) : Int) by omega, show ((x : Int) + y + c) / 18446744073709551616 = (((x + y + c) / 18446744073709551616 : Nat) : Int) by omega]
  exact ⟨.tup (.int _ _ (.int _ _ .nil)) .nil, Below.rfl'⟩
theorem sh_sub64 (x y c : Nat) (_ : x < 18446744073709551616) (hc : c ≤ 1) : CSpec Try.prog 48 [.int .u64 (x : Int), .int .u64 (y : Int), .int .u64 (c : Int)] (.tup [.int .u64 ((subd x y c : Nat) : Int), .int .u64 ((bor x y c : Nat) : Int)]) := by
  intro X φ w vs _ hr
  obtain ⟨v, vs', rfl, h1, h2⟩ := hr.uncons rfl
  obtain rfl := h1.int_inv
  obtain ⟨v, vs', rfl, h1, h3⟩ := h2.uncons rfl
  obtain rfl := h1.int_inv
  obtain ⟨v, vs', rfl, h1, h4⟩ := h3.uncons rfl
  obtain rfl := h1.int_inv
  obtain rfl := h4.nil_of
  unfold Invk
  rw [run_callFunc_extern Try.func48 (by kernel_rfl) (by kernel_rfl) (by kernel_rfl) (e := (Extern.find Try.f48).getD fun _ => pure (.bool true)) (by kernel_rfl)]
  have key : (((Extern.find Try.f48).getD fun _ => pure (.bool true)) #[.int .u64 x, .int .u64 y, .int .u64 c]).run Try.prog w =
      .ok (.tuple #[.int .u64 (((x + 18446744073709551616 - y - c) % 18446744073709551616 : Nat) : Int), .int .u64 ((if x < y + c then 1 else 0 : Nat) : Int)]) w := by
    have : c = 0 ∨ c = 1 := by omega
    rcases this with rfl | rfl
    · refine of_eq_true (eq_true ?_); rfl
    · rfl
  rw [show ([Value.int .u64 (x : Int), Value.int .u64 (y : Int), Value.int .u64 (c : Int)].toArray) = #[.int .u64 (x : Int), .int .u64 (y : Int), .int .u64 (c : Int)] from rfl, key]
  rw [subd_eq, bor_eq]
  exact ⟨.tup (.int _ _ (.int _ _ .nil)) .nil, Below.rfl'⟩
theorem prg_ok : PrgOk Try.prog := { mix := by kernel_rfl, t0 := T0_ok, t1 := T1_ok, len64 := sh_len64, lz64 := sh_lz64, mul64 := sh_mul64, add64 := sh_add64, sub64 := sh_sub64, f3 := Try.func3, f4 := Try.func4, f5 := Try.func5, f6 := Try.func6, f7 := Try.func7, f8 := Try.func8, f9 := Try.func9, f10 := Try.func10, f11 := Try.func11, f12 := Try.func12, f13 := Try.func13, f14 := Try.func14, f15 := Try.func15, f16 := Try.func16, f17 := Try.func17, f18 := Try.func18, f19 := Try.func19, f20 := Try.func20, f21 := Try.func21, f22 := Try.func22, f23 := Try.func23, f24 := Try.func24, f25 := Try.func25, f26 := Try.func26, f27 := Try.func27, f28 := Try.func28, f29 := Try.func29, f30 := Try.func30, f31 := Try.func31, f32 := Try.func32, f33 := Try.func33, f34 := Try.func34, f35 := Try.func35, f36 := Try.func36, f37 := Try.func37, f38 := Try.func38, f39 := Try.func39, f40 := Try.func40, f41 := Try.func41, f42 := Try.func42, f43 := Try.func43, f44 := Try.func44, f45 := Try.func45, f46 := Try.func46, f47 := Try.func47, f48 := Try.func48, f55 := Try.func55, f56 := Try.func56, f57 := Try.func57, f58 := Try.func58, f59 := Try.func59, f60 := Try.func60, f61 := Try.func61, f83 := Try.func83 }
end Go.Proofs.Ytlgimmafejbmgaa.AM
