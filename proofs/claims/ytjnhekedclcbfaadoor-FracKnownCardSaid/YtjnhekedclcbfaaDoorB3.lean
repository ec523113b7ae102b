/- The program, az a fact about any program that has these functions. -/
import Derived.Test.YtjnhekedclcbfaaDoorB2
import Derived.Shelf.Small.Bits
import Derived.Shelf.Strconv.Itoa0
import Derived.Shelf.Bits.Mul64
import Derived.Laws.Externs
import Derived.Shelf.Strings.SlTrimAscii
import Derived.Shelf.Strings.Search2
import Derived.Lib.Bytealg
import Derived.Lib.ItoaNum
import Derived.OpenShut
import Derived.Test.YtjnhekedclcbfaaDoorRows
import Derived.ProofKit
import Derived.ChangeBears2
import Derived.JoinedOf
import Derived.Handed
import Derived.Carry
namespace Go.Proofs.YtjnhekedclcbfaaDoor.AM
set_option linter.all false
set_option autoImplicit true
set_option relaxedAutoImplicit true
open Go Go.Proofs
structure PrgOk (P : Program) : Prop where
  mix : P.follows .mixedOrders = true
  t0 : TyOk P T0
  t1 : TyOk P T1
  t2 : TyOk P T2
  tF : TyOk P TF
  len64 : ∀ x : Nat, x < 18446744073709551616 → CSpec P 44 [.int .u64 (x : Int)] (.int .i64 (blen x : Nat))
  lz64 : ∀ x : Nat, x < 18446744073709551616 → CSpec P 87 [.int .u64 (x : Int)] (.int .i64 ((64 - blen x : Nat) : Int))
  mul64 : ∀ x y : Nat, x < 18446744073709551616 → y < 18446744073709551616 → CSpec P 68 [.int .u64 (x : Int), .int .u64 (y : Int)] (.tup [.int .u64 ((mulh x y : Nat) : Int), .int .u64 ((mull x y : Nat) : Int)])
  add64 : ∀ x y c : Nat, x < 18446744073709551616 → c ≤ 1 → CSpec P 69 [.int .u64 (x : Int), .int .u64 (y : Int), .int .u64 (c : Int)] (.tup [.int .u64 ((addl x y c : Nat) : Int), .int .u64 ((addh x y c : Nat) : Int)])
  sub64 : ∀ x y c : Nat, x < 18446744073709551616 → c ≤ 1 → CSpec P 74 [.int .u64 (x : Int), .int .u64 (y : Int), .int .u64 (c : Int)] (.tup [.int .u64 ((subd x y c : Nat) : Int), .int .u64 ((bor x y c : Nat) : Int)])
  ixb : ∀ (s : ByteArray) (d : UInt8), CSpec P 86 [.str s, .str ⟨#[d]⟩] (.int .i64 (ixL d.toNat (bz s)))
  trm : ∀ s : ByteArray, s.size ≤ 9223372036854775807 → CSpec P 57 [.str s, .str ⟨#[48, 49, 50, 51, 52, 53, 54, 55, 56, 57]⟩] (.str (trD s))
  trl : ∀ s : ByteArray, CSpec P 58 [.str s, .str ⟨#[48]⟩] (.str (trZ s))
  f3 : P.funcs[(3 : Nat)]? = some Tryd.f3
  f4 : P.funcs[(4 : Nat)]? = some Tryd.f4
  f5 : P.funcs[(5 : Nat)]? = some Tryd.f5
  f6 : P.funcs[(6 : Nat)]? = some Tryd.f6
  f7 : P.funcs[(7 : Nat)]? = some Tryd.f7
  f8 : P.funcs[(8 : Nat)]? = some Tryd.f8
  f9 : P.funcs[(9 : Nat)]? = some Tryd.f9
  f10 : P.funcs[(10 : Nat)]? = some Tryd.f10
  f11 : P.funcs[(11 : Nat)]? = some Tryd.f11
  f12 : P.funcs[(12 : Nat)]? = some Tryd.f12
  f13 : P.funcs[(13 : Nat)]? = some Tryd.f13
  f14 : P.funcs[(14 : Nat)]? = some Tryd.f14
  f15 : P.funcs[(15 : Nat)]? = some Tryd.f15
  f16 : P.funcs[(16 : Nat)]? = some Tryd.f16
  f17 : P.funcs[(17 : Nat)]? = some Tryd.f17
  f18 : P.funcs[(18 : Nat)]? = some Tryd.f18
  f19 : P.funcs[(19 : Nat)]? = some Tryd.f19
  f20 : P.funcs[(20 : Nat)]? = some Tryd.f20
  f21 : P.funcs[(21 : Nat)]? = some Tryd.f21
  f22 : P.funcs[(22 : Nat)]? = some Tryd.f22
  f23 : P.funcs[(23 : Nat)]? = some Tryd.f23
  f24 : P.funcs[(24 : Nat)]? = some Tryd.f24
  f25 : P.funcs[(25 : Nat)]? = some Tryd.f25
  f26 : P.funcs[(26 : Nat)]? = some Tryd.f26
  f27 : P.funcs[(27 : Nat)]? = some Tryd.f27
  f28 : P.funcs[(28 : Nat)]? = some Tryd.f28
  f29 : P.funcs[(29 : Nat)]? = some Tryd.f29
  f30 : P.funcs[(30 : Nat)]? = some Tryd.f30
  f31 : P.funcs[(31 : Nat)]? = some Tryd.f31
  f32 : P.funcs[(32 : Nat)]? = some Tryd.f32
  f33 : P.funcs[(33 : Nat)]? = some Tryd.f33
  f34 : P.funcs[(34 : Nat)]? = some Tryd.f34
  f35 : P.funcs[(35 : Nat)]? = some Tryd.f35
  f36 : P.funcs[(36 : Nat)]? = some Tryd.f36
  f37 : P.funcs[(37 : Nat)]? = some Tryd.f37
  f38 : P.funcs[(38 : Nat)]? = some Tryd.f38
  f39 : P.funcs[(39 : Nat)]? = some Tryd.f39
  f40 : P.funcs[(40 : Nat)]? = some Tryd.f40
  f41 : P.funcs[(41 : Nat)]? = some Tryd.f41
  f42 : P.funcs[(42 : Nat)]? = some Tryd.f42
  f43 : P.funcs[(43 : Nat)]? = some Tryd.f43
  f44 : P.funcs[(44 : Nat)]? = some Tryd.f44
  f45 : P.funcs[(45 : Nat)]? = some Tryd.f45
  f46 : P.funcs[(46 : Nat)]? = some Tryd.f46
  f47 : P.funcs[(47 : Nat)]? = some Tryd.f47
  f48 : P.funcs[(48 : Nat)]? = some Tryd.f48
  f49 : P.funcs[(49 : Nat)]? = some Tryd.f49
  f50 : P.funcs[(50 : Nat)]? = some Tryd.f50
  f51 : P.funcs[(51 : Nat)]? = some Tryd.f51
  f52 : P.funcs[(52 : Nat)]? = some Tryd.f52
  f53 : P.funcs[(53 : Nat)]? = some Tryd.f53
  f54 : P.funcs[(54 : Nat)]? = some Tryd.f54
  f55 : P.funcs[(55 : Nat)]? = some Tryd.f55
  f56 : P.funcs[(56 : Nat)]? = some Tryd.f56
  f65 : P.funcs[(65 : Nat)]? = some Tryd.f65
  f66 : P.funcs[(66 : Nat)]? = some Tryd.f66
  f67 : P.funcs[(67 : Nat)]? = some Tryd.f67
  f68 : P.funcs[(68 : Nat)]? = some Tryd.f68
  f69 : P.funcs[(69 : Nat)]? = some Tryd.f69
  f70 : P.funcs[(70 : Nat)]? = some Tryd.f70
  f71 : P.funcs[(71 : Nat)]? = some Tryd.f71
  f72 : P.funcs[(72 : Nat)]? = some Tryd.f72
  f73 : P.funcs[(73 : Nat)]? = some Tryd.f73
  f74 : P.funcs[(74 : Nat)]? = some Tryd.f74
  f83 : P.funcs[(83 : Nat)]? = some Tryd.f83
  f87 : P.funcs[(87 : Nat)]? = some Tryd.f87
  f88 : P.funcs[(88 : Nat)]? = some Tryd.f88
  f89 : P.funcs[(89 : Nat)]? = some Tryd.f89
  f90 : P.funcs[(90 : Nat)]? = some Tryd.f90
  f91 : P.funcs[(91 : Nat)]? = some Tryd.f91
  f92 : P.funcs[(92 : Nat)]? = some Tryd.f92
  f125 : P.funcs[(125 : Nat)]? = some Tryd.f125
theorem fn3 {P} (h : PrgOk P) : FnOk P 3 Tryd.f3 := ⟨h.f3, by kernel_rfl, by kernel_rfl⟩
theorem nt3 : Tryd.f3.ntmps = 70 := rfl
theorem rs3 : Tryd.f3.results.toList = [Go.ResultVar.tmp 2] := rfl
theorem fn4 {P} (h : PrgOk P) : FnOk P 4 Tryd.f4 := ⟨h.f4, by kernel_rfl, by kernel_rfl⟩
theorem nt4 : Tryd.f4.ntmps = 112 := rfl
theorem rs4 : Tryd.f4.results.toList = [Go.ResultVar.tmp 6] := rfl
theorem fn5 {P} (h : PrgOk P) : FnOk P 5 Tryd.f5 := ⟨h.f5, by kernel_rfl, by kernel_rfl⟩
theorem nt5 : Tryd.f5.ntmps = 148 := rfl
theorem rs5 : Tryd.f5.results.toList = [Go.ResultVar.tmp 6] := rfl
theorem fn6 {P} (h : PrgOk P) : FnOk P 6 Tryd.f6 := ⟨h.f6, by kernel_rfl, by kernel_rfl⟩
theorem nt6 : Tryd.f6.ntmps = 172 := rfl
theorem rs6 : Tryd.f6.results.toList = [Go.ResultVar.tmp 0] := rfl
theorem fn7 {P} (h : PrgOk P) : FnOk P 7 Tryd.f7 := ⟨h.f7, by kernel_rfl, by kernel_rfl⟩
theorem nt7 : Tryd.f7.ntmps = 62 := rfl
theorem rs7 : Tryd.f7.results.toList = [Go.ResultVar.tmp 0] := rfl
theorem fn8 {P} (h : PrgOk P) : FnOk P 8 Tryd.f8 := ⟨h.f8, by kernel_rfl, by kernel_rfl⟩
theorem nt8 : Tryd.f8.ntmps = 16 := rfl
theorem rs8 : Tryd.f8.results.toList = [Go.ResultVar.tmp 2] := rfl
theorem fn9 {P} (h : PrgOk P) : FnOk P 9 Tryd.f9 := ⟨h.f9, by kernel_rfl, by kernel_rfl⟩
theorem nt9 : Tryd.f9.ntmps = 80 := rfl
theorem rs9 : Tryd.f9.results.toList = [Go.ResultVar.cell 2 31, Go.ResultVar.tmp 3] := rfl
theorem fn10 {P} (h : PrgOk P) : FnOk P 10 Tryd.f10 := ⟨h.f10, by kernel_rfl, by kernel_rfl⟩
theorem nt10 : Tryd.f10.ntmps = 18 := rfl
theorem rs10 : Tryd.f10.results.toList = [Go.ResultVar.tmp 2] := rfl
theorem fn11 {P} (h : PrgOk P) : FnOk P 11 Tryd.f11 := ⟨h.f11, by kernel_rfl, by kernel_rfl⟩
theorem nt11 : Tryd.f11.ntmps = 30 := rfl
theorem rs11 : Tryd.f11.results.toList = [Go.ResultVar.cell 2 29] := rfl
theorem fn12 {P} (h : PrgOk P) : FnOk P 12 Tryd.f12 := ⟨h.f12, by kernel_rfl, by kernel_rfl⟩
theorem nt12 : Tryd.f12.ntmps = 7 := rfl
theorem rs12 : Tryd.f12.results.toList = [Go.ResultVar.cell 2 27] := rfl
theorem fn13 {P} (h : PrgOk P) : FnOk P 13 Tryd.f13 := ⟨h.f13, by kernel_rfl, by kernel_rfl⟩
theorem nt13 : Tryd.f13.ntmps = 24 := rfl
theorem rs13 : Tryd.f13.results.toList = [Go.ResultVar.tmp 2] := rfl
theorem fn14 {P} (h : PrgOk P) : FnOk P 14 Tryd.f14 := ⟨h.f14, by kernel_rfl, by kernel_rfl⟩
theorem nt14 : Tryd.f14.ntmps = 43 := rfl
theorem rs14 : Tryd.f14.results.toList = [Go.ResultVar.cell 4 27] := rfl
theorem fn15 {P} (h : PrgOk P) : FnOk P 15 Tryd.f15 := ⟨h.f15, by kernel_rfl, by kernel_rfl⟩
theorem nt15 : Tryd.f15.ntmps = 5 := rfl
theorem rs15 : Tryd.f15.results.toList = [Go.ResultVar.cell 2 29] := rfl
theorem fn16 {P} (h : PrgOk P) : FnOk P 16 Tryd.f16 := ⟨h.f16, by kernel_rfl, by kernel_rfl⟩
theorem nt16 : Tryd.f16.ntmps = 5 := rfl
theorem rs16 : Tryd.f16.results.toList = [Go.ResultVar.cell 2 27] := rfl
theorem fn17 {P} (h : PrgOk P) : FnOk P 17 Tryd.f17 := ⟨h.f17, by kernel_rfl, by kernel_rfl⟩
theorem nt17 : Tryd.f17.ntmps = 85 := rfl
theorem rs17 : Tryd.f17.results.toList = [Go.ResultVar.tmp 2] := rfl
theorem fn18 {P} (h : PrgOk P) : FnOk P 18 Tryd.f18 := ⟨h.f18, by kernel_rfl, by kernel_rfl⟩
theorem nt18 : Tryd.f18.ntmps = 27 := rfl
theorem rs18 : Tryd.f18.results.toList = [Go.ResultVar.tmp 4] := rfl
theorem fn19 {P} (h : PrgOk P) : FnOk P 19 Tryd.f19 := ⟨h.f19, by kernel_rfl, by kernel_rfl⟩
theorem nt19 : Tryd.f19.ntmps = 5 := rfl
theorem rs19 : Tryd.f19.results.toList = [Go.ResultVar.cell 2 31] := rfl
theorem fn20 {P} (h : PrgOk P) : FnOk P 20 Tryd.f20 := ⟨h.f20, by kernel_rfl, by kernel_rfl⟩
theorem nt20 : Tryd.f20.ntmps = 40 := rfl
theorem rs20 : Tryd.f20.results.toList = [Go.ResultVar.cell 4 29] := rfl
theorem fn21 {P} (h : PrgOk P) : FnOk P 21 Tryd.f21 := ⟨h.f21, by kernel_rfl, by kernel_rfl⟩
theorem nt21 : Tryd.f21.ntmps = 14 := rfl
theorem rs21 : Tryd.f21.results.toList = [Go.ResultVar.cell 2 29] := rfl
theorem fn22 {P} (h : PrgOk P) : FnOk P 22 Tryd.f22 := ⟨h.f22, by kernel_rfl, by kernel_rfl⟩
theorem nt22 : Tryd.f22.ntmps = 29 := rfl
theorem rs22 : Tryd.f22.results.toList = [Go.ResultVar.tmp 2, Go.ResultVar.tmp 3] := rfl
theorem fn23 {P} (h : PrgOk P) : FnOk P 23 Tryd.f23 := ⟨h.f23, by kernel_rfl, by kernel_rfl⟩
theorem nt23 : Tryd.f23.ntmps = 6 := rfl
theorem rs23 : Tryd.f23.results.toList = [Go.ResultVar.tmp 2] := rfl
theorem fn24 {P} (h : PrgOk P) : FnOk P 24 Tryd.f24 := ⟨h.f24, by kernel_rfl, by kernel_rfl⟩
theorem nt24 : Tryd.f24.ntmps = 8 := rfl
theorem rs24 : Tryd.f24.results.toList = [Go.ResultVar.cell 4 31] := rfl
theorem fn25 {P} (h : PrgOk P) : FnOk P 25 Tryd.f25 := ⟨h.f25, by kernel_rfl, by kernel_rfl⟩
theorem nt25 : Tryd.f25.ntmps = 26 := rfl
theorem rs25 : Tryd.f25.results.toList = [Go.ResultVar.cell 4 31] := rfl
theorem fn26 {P} (h : PrgOk P) : FnOk P 26 Tryd.f26 := ⟨h.f26, by kernel_rfl, by kernel_rfl⟩
theorem nt26 : Tryd.f26.ntmps = 16 := rfl
theorem rs26 : Tryd.f26.results.toList = [Go.ResultVar.tmp 4] := rfl
theorem fn27 {P} (h : PrgOk P) : FnOk P 27 Tryd.f27 := ⟨h.f27, by kernel_rfl, by kernel_rfl⟩
theorem nt27 : Tryd.f27.ntmps = 8 := rfl
theorem rs27 : Tryd.f27.results.toList = [Go.ResultVar.cell 4 31] := rfl
theorem fn28 {P} (h : PrgOk P) : FnOk P 28 Tryd.f28 := ⟨h.f28, by kernel_rfl, by kernel_rfl⟩
theorem nt28 : Tryd.f28.ntmps = 26 := rfl
theorem rs28 : Tryd.f28.results.toList = [Go.ResultVar.cell 4 31, Go.ResultVar.tmp 5] := rfl
theorem fn29 {P} (h : PrgOk P) : FnOk P 29 Tryd.f29 := ⟨h.f29, by kernel_rfl, by kernel_rfl⟩
theorem nt29 : Tryd.f29.ntmps = 62 := rfl
theorem rs29 : Tryd.f29.results.toList = [Go.ResultVar.cell 2 31, Go.ResultVar.tmp 3] := rfl
theorem fn30 {P} (h : PrgOk P) : FnOk P 30 Tryd.f30 := ⟨h.f30, by kernel_rfl, by kernel_rfl⟩
theorem nt30 : Tryd.f30.ntmps = 125 := rfl
theorem rs30 : Tryd.f30.results.toList = [Go.ResultVar.tmp 4] := rfl
theorem fn31 {P} (h : PrgOk P) : FnOk P 31 Tryd.f31 := ⟨h.f31, by kernel_rfl, by kernel_rfl⟩
theorem nt31 : Tryd.f31.ntmps = 19 := rfl
theorem rs31 : Tryd.f31.results.toList = [Go.ResultVar.cell 4 31, Go.ResultVar.tmp 5] := rfl
theorem fn32 {P} (h : PrgOk P) : FnOk P 32 Tryd.f32 := ⟨h.f32, by kernel_rfl, by kernel_rfl⟩
theorem nt32 : Tryd.f32.ntmps = 6 := rfl
theorem rs32 : Tryd.f32.results.toList = [Go.ResultVar.cell 2 31] := rfl
theorem fn33 {P} (h : PrgOk P) : FnOk P 33 Tryd.f33 := ⟨h.f33, by kernel_rfl, by kernel_rfl⟩
theorem nt33 : Tryd.f33.ntmps = 12 := rfl
theorem rs33 : Tryd.f33.results.toList = [Go.ResultVar.tmp 2] := rfl
theorem fn34 {P} (h : PrgOk P) : FnOk P 34 Tryd.f34 := ⟨h.f34, by kernel_rfl, by kernel_rfl⟩
theorem nt34 : Tryd.f34.ntmps = 13 := rfl
theorem rs34 : Tryd.f34.results.toList = [Go.ResultVar.tmp 4, Go.ResultVar.tmp 5, Go.ResultVar.tmp 6] := rfl
theorem fn35 {P} (h : PrgOk P) : FnOk P 35 Tryd.f35 := ⟨h.f35, by kernel_rfl, by kernel_rfl⟩
theorem nt35 : Tryd.f35.ntmps = 8 := rfl
theorem rs35 : Tryd.f35.results.toList = [Go.ResultVar.tmp 4] := rfl
theorem fn36 {P} (h : PrgOk P) : FnOk P 36 Tryd.f36 := ⟨h.f36, by kernel_rfl, by kernel_rfl⟩
theorem nt36 : Tryd.f36.ntmps = 20 := rfl
theorem rs36 : Tryd.f36.results.toList = [Go.ResultVar.tmp 2] := rfl
theorem fn37 {P} (h : PrgOk P) : FnOk P 37 Tryd.f37 := ⟨h.f37, by kernel_rfl, by kernel_rfl⟩
theorem nt37 : Tryd.f37.ntmps = 109 := rfl
theorem rs37 : Tryd.f37.results.toList = [Go.ResultVar.cell 2 27, Go.ResultVar.tmp 3] := rfl
theorem fn38 {P} (h : PrgOk P) : FnOk P 38 Tryd.f38 := ⟨h.f38, by kernel_rfl, by kernel_rfl⟩
theorem nt38 : Tryd.f38.ntmps = 42 := rfl
theorem rs38 : Tryd.f38.results.toList = [Go.ResultVar.cell 4 31] := rfl
theorem fn39 {P} (h : PrgOk P) : FnOk P 39 Tryd.f39 := ⟨h.f39, by kernel_rfl, by kernel_rfl⟩
theorem nt39 : Tryd.f39.ntmps = 13 := rfl
theorem rs39 : Tryd.f39.results.toList = [Go.ResultVar.cell 4 29] := rfl
theorem fn40 {P} (h : PrgOk P) : FnOk P 40 Tryd.f40 := ⟨h.f40, by kernel_rfl, by kernel_rfl⟩
theorem nt40 : Tryd.f40.ntmps = 63 := rfl
theorem rs40 : Tryd.f40.results.toList = [Go.ResultVar.cell 4 27, Go.ResultVar.cell 5 27, Go.ResultVar.tmp 6] := rfl
theorem fn41 {P} (h : PrgOk P) : FnOk P 41 Tryd.f41 := ⟨h.f41, by kernel_rfl, by kernel_rfl⟩
theorem nt41 : Tryd.f41.ntmps = 11 := rfl
theorem rs41 : Tryd.f41.results.toList = [Go.ResultVar.tmp 2] := rfl
theorem fn42 {P} (h : PrgOk P) : FnOk P 42 Tryd.f42 := ⟨h.f42, by kernel_rfl, by kernel_rfl⟩
theorem nt42 : Tryd.f42.ntmps = 86 := rfl
theorem rs42 : Tryd.f42.results.toList = [Go.ResultVar.cell 4 27] := rfl
theorem fn43 {P} (h : PrgOk P) : FnOk P 43 Tryd.f43 := ⟨h.f43, by kernel_rfl, by kernel_rfl⟩
theorem nt43 : Tryd.f43.ntmps = 2 := rfl
theorem rs43 : Tryd.f43.results.toList = [Go.ResultVar.cell 0 27] := rfl
theorem fn44 {P} (h : PrgOk P) : FnOk P 44 Tryd.f44 := ⟨h.f44, by kernel_rfl, by kernel_rfl⟩
theorem nt44 : Tryd.f44.ntmps = 25 := rfl
theorem rs44 : Tryd.f44.results.toList = [Go.ResultVar.tmp 2] := rfl
theorem fn45 {P} (h : PrgOk P) : FnOk P 45 Tryd.f45 := ⟨h.f45, by kernel_rfl, by kernel_rfl⟩
theorem nt45 : Tryd.f45.ntmps = 14 := rfl
theorem rs45 : Tryd.f45.results.toList = [Go.ResultVar.tmp 2] := rfl
theorem fn46 {P} (h : PrgOk P) : FnOk P 46 Tryd.f46 := ⟨h.f46, by kernel_rfl, by kernel_rfl⟩
theorem nt46 : Tryd.f46.ntmps = 28 := rfl
theorem rs46 : Tryd.f46.results.toList = [Go.ResultVar.tmp 4] := rfl
theorem fn47 {P} (h : PrgOk P) : FnOk P 47 Tryd.f47 := ⟨h.f47, by kernel_rfl, by kernel_rfl⟩
theorem nt47 : Tryd.f47.ntmps = 7 := rfl
theorem rs47 : Tryd.f47.results.toList = [Go.ResultVar.tmp 2] := rfl
theorem fn48 {P} (h : PrgOk P) : FnOk P 48 Tryd.f48 := ⟨h.f48, by kernel_rfl, by kernel_rfl⟩
theorem nt48 : Tryd.f48.ntmps = 28 := rfl
theorem rs48 : Tryd.f48.results.toList = [Go.ResultVar.tmp 4] := rfl
theorem fn49 {P} (h : PrgOk P) : FnOk P 49 Tryd.f49 := ⟨h.f49, by kernel_rfl, by kernel_rfl⟩
theorem nt49 : Tryd.f49.ntmps = 9 := rfl
theorem rs49 : Tryd.f49.results.toList = [Go.ResultVar.cell 4 29] := rfl
theorem fn50 {P} (h : PrgOk P) : FnOk P 50 Tryd.f50 := ⟨h.f50, by kernel_rfl, by kernel_rfl⟩
theorem nt50 : Tryd.f50.ntmps = 49 := rfl
theorem rs50 : Tryd.f50.results.toList = [Go.ResultVar.tmp 4] := rfl
theorem fn51 {P} (h : PrgOk P) : FnOk P 51 Tryd.f51 := ⟨h.f51, by kernel_rfl, by kernel_rfl⟩
theorem nt51 : Tryd.f51.ntmps = 66 := rfl
theorem rs51 : Tryd.f51.results.toList = [Go.ResultVar.cell 4 27, Go.ResultVar.tmp 5] := rfl
theorem fn52 {P} (h : PrgOk P) : FnOk P 52 Tryd.f52 := ⟨h.f52, by kernel_rfl, by kernel_rfl⟩
theorem nt52 : Tryd.f52.ntmps = 5 := rfl
theorem rs52 : Tryd.f52.results.toList = [Go.ResultVar.cell 2 27] := rfl
theorem fn53 {P} (h : PrgOk P) : FnOk P 53 Tryd.f53 := ⟨h.f53, by kernel_rfl, by kernel_rfl⟩
theorem nt53 : Tryd.f53.ntmps = 44 := rfl
theorem rs53 : Tryd.f53.results.toList = [Go.ResultVar.cell 6 31] := rfl
theorem fn54 {P} (h : PrgOk P) : FnOk P 54 Tryd.f54 := ⟨h.f54, by kernel_rfl, by kernel_rfl⟩
theorem nt54 : Tryd.f54.ntmps = 16 := rfl
theorem rs54 : Tryd.f54.results.toList = [Go.ResultVar.cell 4 29] := rfl
theorem fn55 {P} (h : PrgOk P) : FnOk P 55 Tryd.f55 := ⟨h.f55, by kernel_rfl, by kernel_rfl⟩
theorem nt55 : Tryd.f55.ntmps = 111 := rfl
theorem rs55 : Tryd.f55.results.toList = [Go.ResultVar.cell 4 27] := rfl
theorem fn56 {P} (h : PrgOk P) : FnOk P 56 Tryd.f56 := ⟨h.f56, by kernel_rfl, by kernel_rfl⟩
theorem nt56 : Tryd.f56.ntmps = 9 := rfl
theorem rs56 : Tryd.f56.results.toList = [Go.ResultVar.cell 4 29] := rfl
theorem fn65 {P} (h : PrgOk P) : FnOk P 65 Tryd.f65 := ⟨h.f65, by kernel_rfl, by kernel_rfl⟩
theorem nt65 : Tryd.f65.ntmps = 9 := rfl
theorem rs65 : Tryd.f65.results.toList = [Go.ResultVar.cell 2 29] := rfl
theorem fn66 {P} (h : PrgOk P) : FnOk P 66 Tryd.f66 := ⟨h.f66, by kernel_rfl, by kernel_rfl⟩
theorem nt66 : Tryd.f66.ntmps = 23 := rfl
theorem rs66 : Tryd.f66.results.toList = [Go.ResultVar.tmp 4, Go.ResultVar.tmp 5, Go.ResultVar.tmp 6] := rfl
theorem fn67 {P} (h : PrgOk P) : FnOk P 67 Tryd.f67 := ⟨h.f67, by kernel_rfl, by kernel_rfl⟩
theorem nt67 : Tryd.f67.ntmps = 13 := rfl
theorem rs67 : Tryd.f67.results.toList = [Go.ResultVar.tmp 4] := rfl
theorem fn68 {P} (h : PrgOk P) : FnOk P 68 Tryd.f68 := ⟨h.f68, by kernel_rfl, by kernel_rfl⟩
theorem nt68 : Tryd.f68.ntmps = 51 := rfl
theorem rs68 : Tryd.f68.results.toList = [Go.ResultVar.tmp 4, Go.ResultVar.tmp 5] := rfl
theorem fn70 {P} (h : PrgOk P) : FnOk P 70 Tryd.f70 := ⟨h.f70, by kernel_rfl, by kernel_rfl⟩
theorem nt70 : Tryd.f70.ntmps = 33 := rfl
theorem rs70 : Tryd.f70.results.toList = [Go.ResultVar.cell 2 27] := rfl
theorem fn71 {P} (h : PrgOk P) : FnOk P 71 Tryd.f71 := ⟨h.f71, by kernel_rfl, by kernel_rfl⟩
theorem nt71 : Tryd.f71.ntmps = 15 := rfl
theorem rs71 : Tryd.f71.results.toList = [Go.ResultVar.cell 3 27] := rfl
theorem fn72 {P} (h : PrgOk P) : FnOk P 72 Tryd.f72 := ⟨h.f72, by kernel_rfl, by kernel_rfl⟩
theorem nt72 : Tryd.f72.ntmps = 100 := rfl
theorem rs72 : Tryd.f72.results.toList = [Go.ResultVar.cell 4 27, Go.ResultVar.cell 5 27] := rfl
theorem fn73 {P} (h : PrgOk P) : FnOk P 73 Tryd.f73 := ⟨h.f73, by kernel_rfl, by kernel_rfl⟩
theorem nt73 : Tryd.f73.ntmps = 135 := rfl
theorem rs73 : Tryd.f73.results.toList = [Go.ResultVar.tmp 6, Go.ResultVar.tmp 7] := rfl
theorem fn83 {P} (h : PrgOk P) : FnOk P 83 Tryd.f83 := ⟨h.f83, by kernel_rfl, by kernel_rfl⟩
theorem nt83 : Tryd.f83.ntmps = 18 := rfl
theorem rs83 : Tryd.f83.results.toList = [Go.ResultVar.tmp 4] := rfl
theorem fn87 {P} (h : PrgOk P) : FnOk P 87 Tryd.f87 := ⟨h.f87, by kernel_rfl, by kernel_rfl⟩
theorem nt87 : Tryd.f87.ntmps = 6 := rfl
theorem rs87 : Tryd.f87.results.toList = [Go.ResultVar.tmp 2] := rfl
theorem fn88 {P} (h : PrgOk P) : FnOk P 88 Tryd.f88 := ⟨h.f88, by kernel_rfl, by kernel_rfl⟩
theorem nt88 : Tryd.f88.ntmps = 57 := rfl
theorem rs88 : Tryd.f88.results.toList = [Go.ResultVar.tmp 6] := rfl
theorem fn89 {P} (h : PrgOk P) : FnOk P 89 Tryd.f89 := ⟨h.f89, by kernel_rfl, by kernel_rfl⟩
theorem nt89 : Tryd.f89.ntmps = 67 := rfl
theorem rs89 : Tryd.f89.results.toList = [Go.ResultVar.tmp 10] := rfl
theorem fn90 {P} (h : PrgOk P) : FnOk P 90 Tryd.f90 := ⟨h.f90, by kernel_rfl, by kernel_rfl⟩
theorem nt90 : Tryd.f90.ntmps = 56 := rfl
theorem rs90 : Tryd.f90.results.toList = [Go.ResultVar.tmp 6] := rfl
theorem fn91 {P} (h : PrgOk P) : FnOk P 91 Tryd.f91 := ⟨h.f91, by kernel_rfl, by kernel_rfl⟩
theorem nt91 : Tryd.f91.ntmps = 34 := rfl
theorem rs91 : Tryd.f91.results.toList = [] := rfl
theorem fn92 {P} (h : PrgOk P) : FnOk P 92 Tryd.f92 := ⟨h.f92, by kernel_rfl, by kernel_rfl⟩
theorem nt92 : Tryd.f92.ntmps = 50 := rfl
theorem rs92 : Tryd.f92.results.toList = [Go.ResultVar.cell 4 27] := rfl
attribute [go_sem] nt3 rs3 nt4 rs4 nt5 rs5 nt6 rs6 nt7 rs7 nt8 rs8 nt9 rs9 nt10 rs10 nt11 rs11 nt12 rs12 nt13 rs13 nt14 rs14 nt15 rs15 nt16 rs16 nt17 rs17 nt18 rs18 nt19 rs19 nt20 rs20 nt21 rs21 nt22 rs22 nt23 rs23 nt24 rs24 nt25 rs25 nt26 rs26 nt27 rs27 nt28 rs28 nt29 rs29 nt30 rs30 nt31 rs31 nt32 rs32 nt33 rs33 nt34 rs34 nt35 rs35 nt36 rs36 nt37 rs37 nt38 rs38 nt39 rs39 nt40 rs40 nt41 rs41 nt42 rs42 nt43 rs43 nt44 rs44 nt45 rs45 nt46 rs46 nt47 rs47 nt48 rs48 nt49 rs49 nt50 rs50 nt51 rs51 nt52 rs52 nt53 rs53 nt54 rs54 nt55 rs55 nt56 rs56 nt65 rs65 nt66 rs66 nt67 rs67 nt68 rs68 nt70 rs70 nt71 rs71 nt72 rs72 nt73 rs73 nt83 rs83 nt87 rs87 nt88 rs88 nt89 rs89 nt90 rs90 nt91 rs91 nt92 rs92
end Go.Proofs.YtjnhekedclcbfaaDoor.AM
/- The library's functions that the program calls; the program has all that was asked of it. -/
namespace Go.Proofs.YtjnhekedclcbfaaDoor.AM
set_option linter.all false
set_option autoImplicit true
set_option relaxedAutoImplicit true
open Go Go.Proofs Go.Shelf
set_option maxRecDepth 100000
def shl161_ren : Go.Shelf.Ren := ⟨fun | 161 => 58 | 231 => 75 | 227 => 77 | 233 => 78 | 235 => 80 | 228 => 93 | 197 => 94 | 151 => 95 | 260 => 103 | 152 => 104 | 137 => 108 | 119 => 109 | 224 => 101 | 225 => 100 | 217 => 99 | 266 => 106 | n => n, fun | 9 => 9 | 4 => 4 | 3 => 3 | 5 => 5 | 117 => 100 | 116 => 99 | 0 => 0 | 124 => 103 | 105 => 115 | 21 => 21 | 119 => 125 | 46 => 77 | 139 => 128 | 138 => 127 | n => n, fun | 3 => 3 | 4 => 4 | n => n⟩
theorem shl161 : Go.Proofs.Lays.n161 Tryd.prog shl161_ren := {
  mixed := by kernel_rfl
  f119 := Tryd.func109.trans (congrArg some (by kernel_rfl))
  f137 := Tryd.func108.trans (congrArg some (by kernel_rfl))
  f151 := Tryd.func95.trans (congrArg some (by kernel_rfl))
  f152 := Tryd.func104.trans (congrArg some (by kernel_rfl))
  f161 := Tryd.func58.trans (congrArg some (by kernel_rfl))
  f197 := Tryd.func94.trans (congrArg some (by kernel_rfl))
  f217 := Tryd.func99.trans (congrArg some (by kernel_rfl))
  f224 := Tryd.func101.trans (congrArg some (by kernel_rfl))
  f225 := Tryd.func100.trans (congrArg some (by kernel_rfl))
  f227 := Tryd.func77.trans (congrArg some (by kernel_rfl))
  f228 := Tryd.func93.trans (congrArg some (by kernel_rfl))
  f231 := Tryd.func75.trans (congrArg some (by kernel_rfl))
  f233 := Tryd.func78.trans (congrArg some (by kernel_rfl))
  f235 := Tryd.func80.trans (congrArg some (by kernel_rfl))
  f260 := Tryd.func103.trans (congrArg some (by kernel_rfl))
  f266 := Tryd.func106.trans (congrArg some (by kernel_rfl))
  t0 := Tryd.underlying0
  a0 := Tryd.isAgg0
  z0 := Tryd.sizeOf0
  v0 := Tryd.zeroValue0
  t3 := Tryd.underlying3
  a3 := Tryd.isAgg3
  z3 := Tryd.sizeOf3
  v3 := Tryd.zeroValue3
  t4 := Tryd.underlying4
  a4 := Tryd.isAgg4
  z4 := Tryd.sizeOf4
  v4 := Tryd.zeroValue4
  t5 := Tryd.underlying5
  a5 := Tryd.isAgg5
  z5 := Tryd.sizeOf5
  v5 := Tryd.zeroValue5
  t9 := Tryd.underlying9
  a9 := Tryd.isAgg9
  z9 := Tryd.sizeOf9
  v9 := Tryd.zeroValue9
  t21 := Tryd.underlying21
  a21 := Tryd.isAgg21
  z21 := Tryd.sizeOf21
  v21 := Tryd.zeroValue21
  t46 := Tryd.underlying77
  a46 := Tryd.isAgg77
  z46 := Tryd.sizeOf77
  v46 := Tryd.zeroValue77
  t105 := Tryd.underlying115
  a105 := Tryd.isAgg115
  z105 := Tryd.sizeOf115
  v105 := Tryd.zeroValue115
  t116 := Tryd.underlying99
  a116 := Tryd.isAgg99
  z116 := Tryd.sizeOf99
  t117 := Tryd.underlying100
  a117 := Tryd.isAgg100
  z117 := Tryd.sizeOf100
  v117 := Tryd.zeroValue100
  t119 := Tryd.underlying125
  a119 := Tryd.isAgg125
  z119 := Tryd.sizeOf125
  t124 := Tryd.underlying103
  a124 := Tryd.isAgg103
  z124 := Tryd.sizeOf103
  v124 := Tryd.zeroValue103
  t138 := Tryd.underlying127
  a138 := Tryd.isAgg127
  z138 := Tryd.sizeOf127
  v138 := Tryd.zeroValue127
  t139 := Tryd.underlying128
  a139 := Tryd.isAgg128
  z139 := Tryd.sizeOf128
  v139 := Tryd.zeroValue128
  g3 := by kernel_rfl
  g4 := by kernel_rfl }
def shl160_ren : Go.Shelf.Ren := ⟨fun | 160 => 57 | 232 => 76 | 231 => 75 | 227 => 77 | 234 => 79 | 233 => 78 | 236 => 81 | 235 => 80 | 228 => 93 | 271 => 96 | 151 => 95 | 197 => 94 | 120 => 105 | 152 => 104 | 260 => 103 | 137 => 108 | 119 => 109 | 224 => 101 | 225 => 100 | 217 => 99 | 266 => 106 | n => n, fun | 9 => 9 | 4 => 4 | 3 => 3 | 5 => 5 | 117 => 100 | 116 => 99 | 0 => 0 | 124 => 103 | 21 => 21 | 105 => 115 | 46 => 77 | 119 => 125 | 139 => 128 | 138 => 127 | n => n, fun | 3 => 3 | 4 => 4 | n => n⟩
theorem shl160 : Go.Proofs.Lays.n160 Tryd.prog shl160_ren := {
  mixed := by kernel_rfl
  f119 := Tryd.func109.trans (congrArg some (by kernel_rfl))
  f120 := Tryd.func105.trans (congrArg some (by kernel_rfl))
  f137 := Tryd.func108.trans (congrArg some (by kernel_rfl))
  f151 := Tryd.func95.trans (congrArg some (by kernel_rfl))
  f152 := Tryd.func104.trans (congrArg some (by kernel_rfl))
  f160 := Tryd.func57.trans (congrArg some (by kernel_rfl))
  f197 := Tryd.func94.trans (congrArg some (by kernel_rfl))
  f217 := Tryd.func99.trans (congrArg some (by kernel_rfl))
  f224 := Tryd.func101.trans (congrArg some (by kernel_rfl))
  f225 := Tryd.func100.trans (congrArg some (by kernel_rfl))
  f227 := Tryd.func77.trans (congrArg some (by kernel_rfl))
  f228 := Tryd.func93.trans (congrArg some (by kernel_rfl))
  f231 := Tryd.func75.trans (congrArg some (by kernel_rfl))
  f232 := Tryd.func76.trans (congrArg some (by kernel_rfl))
  f233 := Tryd.func78.trans (congrArg some (by kernel_rfl))
  f234 := Tryd.func79.trans (congrArg some (by kernel_rfl))
  f235 := Tryd.func80.trans (congrArg some (by kernel_rfl))
  f236 := Tryd.func81.trans (congrArg some (by kernel_rfl))
  f260 := Tryd.func103.trans (congrArg some (by kernel_rfl))
  f266 := Tryd.func106.trans (congrArg some (by kernel_rfl))
  f271 := Tryd.func96.trans (congrArg some (by kernel_rfl))
  t0 := Tryd.underlying0
  a0 := Tryd.isAgg0
  z0 := Tryd.sizeOf0
  v0 := Tryd.zeroValue0
  t3 := Tryd.underlying3
  a3 := Tryd.isAgg3
  z3 := Tryd.sizeOf3
  v3 := Tryd.zeroValue3
  t4 := Tryd.underlying4
  a4 := Tryd.isAgg4
  z4 := Tryd.sizeOf4
  v4 := Tryd.zeroValue4
  t5 := Tryd.underlying5
  a5 := Tryd.isAgg5
  z5 := Tryd.sizeOf5
  v5 := Tryd.zeroValue5
  t9 := Tryd.underlying9
  a9 := Tryd.isAgg9
  z9 := Tryd.sizeOf9
  v9 := Tryd.zeroValue9
  t21 := Tryd.underlying21
  a21 := Tryd.isAgg21
  z21 := Tryd.sizeOf21
  v21 := Tryd.zeroValue21
  t46 := Tryd.underlying77
  a46 := Tryd.isAgg77
  z46 := Tryd.sizeOf77
  v46 := Tryd.zeroValue77
  t105 := Tryd.underlying115
  a105 := Tryd.isAgg115
  z105 := Tryd.sizeOf115
  v105 := Tryd.zeroValue115
  t116 := Tryd.underlying99
  a116 := Tryd.isAgg99
  z116 := Tryd.sizeOf99
  t117 := Tryd.underlying100
  a117 := Tryd.isAgg100
  z117 := Tryd.sizeOf100
  v117 := Tryd.zeroValue100
  t119 := Tryd.underlying125
  a119 := Tryd.isAgg125
  z119 := Tryd.sizeOf125
  t124 := Tryd.underlying103
  a124 := Tryd.isAgg103
  z124 := Tryd.sizeOf103
  v124 := Tryd.zeroValue103
  t138 := Tryd.underlying127
  a138 := Tryd.isAgg127
  z138 := Tryd.sizeOf127
  v138 := Tryd.zeroValue127
  t139 := Tryd.underlying128
  a139 := Tryd.isAgg128
  z139 := Tryd.sizeOf128
  v139 := Tryd.zeroValue128
  g3 := by kernel_rfl
  g4 := by kernel_rfl }
def shl134_ren : Go.Shelf.Ren := ⟨fun | 134 => 87 | 129 => 44 | n => n, fun | 53 => 24 | 3 => 3 | 4 => 4 | 46 => 77 | 5 => 5 | 9 => 9 | n => n, fun | n => n⟩
theorem shl134 : Go.Proofs.Lays.n134 Tryd.prog shl134_ren := {
  mixed := by kernel_rfl
  f129 := Tryd.func44.trans (congrArg some (by kernel_rfl))
  f134 := Tryd.func87.trans (congrArg some (by kernel_rfl))
  t3 := Tryd.underlying3
  a3 := Tryd.isAgg3
  z3 := Tryd.sizeOf3
  v3 := Tryd.zeroValue3
  t4 := Tryd.underlying4
  a4 := Tryd.isAgg4
  z4 := Tryd.sizeOf4
  v4 := Tryd.zeroValue4
  t5 := Tryd.underlying5
  a5 := Tryd.isAgg5
  z5 := Tryd.sizeOf5
  v5 := Tryd.zeroValue5
  t9 := Tryd.underlying9
  a9 := Tryd.isAgg9
  z9 := Tryd.sizeOf9
  v9 := Tryd.zeroValue9
  t46 := Tryd.underlying77
  a46 := Tryd.isAgg77
  z46 := Tryd.sizeOf77
  v46 := Tryd.zeroValue77
  t53 := Tryd.underlying24
  a53 := Tryd.isAgg24
  z53 := Tryd.sizeOf24
  v53 := Tryd.zeroValue24 }
theorem sh_LeadingZeros64 (x : Int) (w : World) (h0 : 0 ≤ x) (h1 : x ≤ 18446744073709551615) :
    Calls Tryd.prog 87 #[.int .u64 x] w fun e w' => e = .returned (.int .i64 (64 - (Lib.bitLen x.toNat : Int))) ∧ w' = w := Any.bits_LeadingZeros64 shl134 x w h0 h1
def shl129_ren : Go.Shelf.Ren := ⟨fun | 129 => 44 | n => n, fun | 53 => 24 | 3 => 3 | 4 => 4 | 46 => 77 | 5 => 5 | 9 => 9 | n => n, fun | n => n⟩
theorem shl129 : Go.Proofs.Lays.n129 Tryd.prog shl129_ren := {
  mixed := by kernel_rfl
  f129 := Tryd.func44.trans (congrArg some (by kernel_rfl))
  t3 := Tryd.underlying3
  a3 := Tryd.isAgg3
  z3 := Tryd.sizeOf3
  v3 := Tryd.zeroValue3
  t4 := Tryd.underlying4
  a4 := Tryd.isAgg4
  z4 := Tryd.sizeOf4
  v4 := Tryd.zeroValue4
  t5 := Tryd.underlying5
  a5 := Tryd.isAgg5
  z5 := Tryd.sizeOf5
  v5 := Tryd.zeroValue5
  t9 := Tryd.underlying9
  a9 := Tryd.isAgg9
  z9 := Tryd.sizeOf9
  v9 := Tryd.zeroValue9
  t46 := Tryd.underlying77
  a46 := Tryd.isAgg77
  z46 := Tryd.sizeOf77
  v46 := Tryd.zeroValue77
  t53 := Tryd.underlying24
  a53 := Tryd.isAgg24
  z53 := Tryd.sizeOf24
  v53 := Tryd.zeroValue24 }
theorem sh_Len64 (x : Int) (w : World) (h0 : 0 ≤ x) (h1 : x ≤ 18446744073709551615) :
    Calls Tryd.prog 44 #[.int .u64 x] w fun e w' => e = .returned (.int .i64 (Lib.bitLen x.toNat)) ∧ w' = w := Any.bits_Len64 shl129 x w h0 h1
def shl219_ren : Go.Shelf.Ren := ⟨fun | 219 => 86 | 217 => 99 | 225 => 100 | 224 => 101 | 267 => 102 | 266 => 106 | 314 => 107 | n => n, fun | 9 => 9 | 3 => 3 | 4 => 4 | 5 => 5 | 46 => 77 | 146 => 105 | 51 => 104 | n => n, fun | 1 => 2 | n => n⟩
theorem shl219 : Go.Proofs.Lays.n219 Tryd.prog shl219_ren := {
  mixed := by kernel_rfl
  f217 := Tryd.func99.trans (congrArg some (by kernel_rfl))
  f219 := Tryd.func86.trans (congrArg some (by kernel_rfl))
  f224 := Tryd.func101.trans (congrArg some (by kernel_rfl))
  f225 := Tryd.func100.trans (congrArg some (by kernel_rfl))
  f266 := Tryd.func106.trans (congrArg some (by kernel_rfl))
  f267 := Tryd.func102.trans (congrArg some (by kernel_rfl))
  f314 := Tryd.func107.trans (congrArg some (by kernel_rfl))
  t3 := Tryd.underlying3
  a3 := Tryd.isAgg3
  z3 := Tryd.sizeOf3
  v3 := Tryd.zeroValue3
  t4 := Tryd.underlying4
  a4 := Tryd.isAgg4
  z4 := Tryd.sizeOf4
  v4 := Tryd.zeroValue4
  t5 := Tryd.underlying5
  a5 := Tryd.isAgg5
  z5 := Tryd.sizeOf5
  v5 := Tryd.zeroValue5
  t9 := Tryd.underlying9
  a9 := Tryd.isAgg9
  z9 := Tryd.sizeOf9
  v9 := Tryd.zeroValue9
  t46 := Tryd.underlying77
  a46 := Tryd.isAgg77
  z46 := Tryd.sizeOf77
  v46 := Tryd.zeroValue77
  t51 := Tryd.underlying104
  a51 := Tryd.isAgg104
  z51 := Tryd.sizeOf104
  v51 := Tryd.zeroValue104
  t146 := Tryd.underlying105
  a146 := Tryd.isAgg105
  z146 := Tryd.sizeOf105
  v146 := Tryd.zeroValue105
  g1 := by kernel_rfl }
open Go.RowKit Go.Lib in
theorem sh_Index1 (s : ByteArray) (c : UInt8) (w : World) :
    Calls Tryd.prog 86 #[.string s, .string ⟨#[c]⟩] w fun e w' => e = .returned (.int .i64 (Lib.indexByte s.data.toList c)) ∧ w' = w := Any.stringslite_Index_one shl219 s c w
def shl264_ren : Go.Shelf.Ren := ⟨fun | 264 => 68 | n => n, fun | 53 => 24 | 46 => 77 | n => n, fun | n => n⟩
theorem shl264 : Go.Proofs.Lays.n264 Tryd.prog shl264_ren := {
  mixed := by kernel_rfl
  f264 := Tryd.func68.trans (congrArg some (by kernel_rfl))
  t46 := Tryd.underlying77
  a46 := Tryd.isAgg77
  z46 := Tryd.sizeOf77
  v46 := Tryd.zeroValue77
  t53 := Tryd.underlying24
  a53 := Tryd.isAgg24
  z53 := Tryd.sizeOf24
  v53 := Tryd.zeroValue24 }
open Go.RowKit Go.Lib in
theorem sh_Mul64 (x y : Nat) (hx : x < 18446744073709551616) (hy : y < 18446744073709551616) (w : World) :
    Calls Tryd.prog 68 #[.int .u64 x, .int .u64 y] w fun e w' => e = .returned (.tuple #[.int .u64 ((x * y / 18446744073709551616 : Nat) : Int), .int .u64 ((x * y % 18446744073709551616 : Nat) : Int)]) ∧ w' = w := Any.bits_Mul64 shl264 x y hx hy w
theorem enter_of {P : Program} {f fn c} (hf : P.funcs[f]? = some fn) (hb : fn.body = some c) (hn : (fn.name == "runtime.NumGoroutine") = false) {vs w R} (h : Calls P f vs w fun e w' => ∃ v, e = .returned v ∧ R v w') : Invk P f vs w R := by
  unfold Invk; rw [callFunc_enter hf hb hn]; exact h
theorem blen_eq (x : Nat) (h : x < 18446744073709551616) : Lib.bitLen x = blen x := by
  unfold blen
  split
  · rename_i e; subst e; exact Lib.bitLenAux_zero _
  · rename_i e
    obtain ⟨h1, h2, h3⟩ := Lib.bitLenAux_bounds 64 x (by simpa using h) e
    have k1 := Nat.log2_self_le e
    have k2 : x < 2 ^ (x.log2 + 1) := Nat.lt_log2_self
    have a1 : Lib.bitLen x - 1 < x.log2 + 1 := (Nat.pow_lt_pow_iff_right (by decide : 1 < 2)).1 (Nat.lt_of_le_of_lt h2 k2)
    have a2 : x.log2 < Lib.bitLen x := (Nat.pow_lt_pow_iff_right (by decide : 1 < 2)).1 (Nat.lt_of_le_of_lt k1 h3)
    unfold Lib.bitLen at *
    omega
theorem blen_le (x : Nat) (h : x < 18446744073709551616) : blen x ≤ 64 := by
  unfold blen; split
  · omega
  · rename_i e
    have : x.log2 < 64 := (Nat.log2_lt e).2 (by simpa using h)
    omega
theorem Below.rfl' {w : World} : RowKit.Below w.heap.size w w := RowKit.Below.refl _ _
theorem sh_len64 (x : Nat) (h : x < 18446744073709551616) : CSpec Tryd.prog 44 [.int .u64 (x : Int)] (.int .i64 (blen x : Nat)) := by
  intro X φ w vs _ hr
  obtain ⟨v, vs', rfl, h1, h2⟩ := hr.uncons rfl
  obtain rfl := h1.int_inv
  obtain rfl := h2.nil_of
  refine enter_of Tryd.func44 rfl rfl ((sh_Len64 x w (by omega) (by omega)).mono fun e w' he => ⟨_, he.1, ?_⟩)
  obtain ⟨_, rfl⟩ := he
  rw [Int.toNat_natCast, blen_eq x h]
  exact ⟨.int _ _ .nil, Below.rfl'⟩
theorem sh_lz64 (x : Nat) (h : x < 18446744073709551616) : CSpec Tryd.prog 87 [.int .u64 (x : Int)] (.int .i64 ((64 - blen x : Nat) : Int)) := by
  intro X φ w vs _ hr
  obtain ⟨v, vs', rfl, h1, h2⟩ := hr.uncons rfl
  obtain rfl := h1.int_inv
  obtain rfl := h2.nil_of
  refine enter_of Tryd.func87 rfl rfl ((sh_LeadingZeros64 x w (by omega) (by omega)).mono fun e w' he => ⟨_, he.1, ?_⟩)
  obtain ⟨_, rfl⟩ := he
  have := blen_le x h
  rw [Int.toNat_natCast, blen_eq x h, show (64 : Int) - (blen x : Int) = ((64 - blen x : Nat) : Int) by omega]
  exact ⟨.int _ _ .nil, Below.rfl'⟩
theorem sh_mul64 (x y : Nat) (hx : x < 18446744073709551616) (hy : y < 18446744073709551616) : CSpec Tryd.prog 68 [.int .u64 (x : Int), .int .u64 (y : Int)] (.tup [.int .u64 ((mulh x y : Nat) : Int), .int .u64 ((mull x y : Nat) : Int)]) := by
  rw [mulh_eq, mull_eq]
  intro X φ w vs _ hr
  obtain ⟨v, vs', rfl, h1, h2⟩ := hr.uncons rfl
  obtain rfl := h1.int_inv
  obtain ⟨v, vs', rfl, h1, h3⟩ := h2.uncons rfl
  obtain rfl := h1.int_inv
  obtain rfl := h3.nil_of
  refine enter_of Tryd.func68 rfl rfl ((sh_Mul64 x y hx hy w).mono fun e w' he => ⟨_, he.1, ?_⟩)
  obtain ⟨_, rfl⟩ := he
  exact ⟨.tup (.int _ _ (.int _ _ .nil)) .nil, Below.rfl'⟩
theorem sh_add64 (x y c : Nat) (_ : x < 18446744073709551616) (hc : c ≤ 1) : CSpec Tryd.prog 69 [.int .u64 (x : Int), .int .u64 (y : Int), .int .u64 (c : Int)] (.tup [.int .u64 ((addl x y c : Nat) : Int), .int .u64 ((addh x y c : Nat) : Int)]) := by
  rw [addl_eq, addh_eq]
  intro X φ w vs _ hr
  obtain ⟨v, vs', rfl, h1, h2⟩ := hr.uncons rfl
  obtain rfl := h1.int_inv
  obtain ⟨v, vs', rfl, h1, h3⟩ := h2.uncons rfl
  obtain rfl := h1.int_inv
  obtain ⟨v, vs', rfl, h1, h4⟩ := h3.uncons rfl
  obtain rfl := h1.int_inv
  obtain rfl := h4.nil_of
  unfold Invk
  rw [run_callFunc_extern Tryd.func69 (by kernel_rfl) (by kernel_rfl) (by kernel_rfl) (e := add64Entry) (by kernel_rfl), run_add64 x y c (by omega) (by omega) (by omega) (by omega)]
  simp only [Result.andThen]
  rw [show ((x : Int) + y + c) % 18446744073709551616 = (((x + y + c) % 18446744073709551616 : Nat) : Int) by omega, show ((x : Int) + y + c) / 18446744073709551616 = (((x + y + c) / 18446744073709551616 : Nat) : Int) by omega]
  exact ⟨.tup (.int _ _ (.int _ _ .nil)) .nil, Below.rfl'⟩
theorem sh_sub64 (x y c : Nat) (_ : x < 18446744073709551616) (hc : c ≤ 1) : CSpec Tryd.prog 74 [.int .u64 (x : Int), .int .u64 (y : Int), .int .u64 (c : Int)] (.tup [.int .u64 ((subd x y c : Nat) : Int), .int .u64 ((bor x y c : Nat) : Int)]) := by
  intro X φ w vs _ hr
  obtain ⟨v, vs', rfl, h1, h2⟩ := hr.uncons rfl
  obtain rfl := h1.int_inv
  obtain ⟨v, vs', rfl, h1, h3⟩ := h2.uncons rfl
  obtain rfl := h1.int_inv
  obtain ⟨v, vs', rfl, h1, h4⟩ := h3.uncons rfl
  obtain rfl := h1.int_inv
  obtain rfl := h4.nil_of
  unfold Invk
  rw [run_callFunc_extern Tryd.func74 (by kernel_rfl) (by kernel_rfl) (by kernel_rfl) (e := (Extern.find Tryd.f74).getD fun _ => pure (.bool true)) (by kernel_rfl)]
  have key : (((Extern.find Tryd.f74).getD fun _ => pure (.bool true)) #[.int .u64 x, .int .u64 y, .int .u64 c]).run Tryd.prog w =
      .ok (.tuple #[.int .u64 (((x + 18446744073709551616 - y - c) % 18446744073709551616 : Nat) : Int), .int .u64 ((if x < y + c then 1 else 0 : Nat) : Int)]) w := by
    have : c = 0 ∨ c = 1 := by omega
    rcases this with rfl | rfl
    · refine of_eq_true (eq_true ?_); rfl
    · rfl
  rw [show ([Value.int .u64 (x : Int), Value.int .u64 (y : Int), Value.int .u64 (c : Int)].toArray) = #[.int .u64 (x : Int), .int .u64 (y : Int), .int .u64 (c : Int)] from rfl, key]
  rw [subd_eq, bor_eq]
  exact ⟨.tup (.int _ _ (.int _ _ .nil)) .nil, Below.rfl'⟩
theorem ixL_index (c : UInt8) : ∀ l : List UInt8, Lib.indexByte l c = ixL c.toNat (l.map UInt8.toNat)
  | [] => rfl
  | x :: l => by
    have h := ixL_index c l
    unfold Lib.indexByte
    rw [List.map_cons]; unfold ixL
    rw [h]
    by_cases hx : x = c
    · subst hx; simp
    · have : ¬ x.toNat = c.toNat := fun e => hx (UInt8.toNat_inj.1 e)
      simp [hx, this]
theorem sh_ixb (s : ByteArray) (d : UInt8) : CSpec Tryd.prog 86 [.str s, .str ⟨#[d]⟩] (.int .i64 (ixL d.toNat (bz s))) := by
  intro X φ w vs _ hr
  obtain ⟨v, vs', rfl, h1, h2⟩ := hr.uncons rfl
  obtain rfl := h1.str_inv
  obtain ⟨v, vs', rfl, h1, h3⟩ := h2.uncons rfl
  obtain rfl := h1.str_inv
  obtain rfl := h3.nil_of
  refine enter_of Tryd.func86 rfl rfl ((sh_Index1 s d w).mono fun e w' he => ⟨_, he.1, ?_⟩)
  obtain ⟨_, rfl⟩ := he
  rw [ixL_index]
  exact ⟨.int _ _ .nil, Below.rfl'⟩
theorem dw_congr {p q : UInt8 → Bool} (h : ∀ b, p b = q b) (l : List UInt8) : l.dropWhile p = l.dropWhile q := by rw [show p = q from funext h]
theorem has_dg (b : UInt8) : [48, 49, 50, 51, 52, 53, 54, 55, 56, 57].contains b = isDg b := by
  unfold isDg
  have e : ∀ n : UInt8, (b == n) = decide (b.toNat = n.toNat) := fun n => by
    rw [Bool.eq_iff_iff]; simp only [beq_iff_eq, decide_eq_true_eq]; exact UInt8.toNat_inj.symm
  rw [Bool.eq_iff_iff]
  simp only [List.contains_cons, e, Bool.or_eq_true, decide_eq_true_eq, Bool.and_eq_true, List.contains_nil, Bool.false_eq_true, or_false]
  show (b.toNat = 48 ∨ b.toNat = 49 ∨ b.toNat = 50 ∨ b.toNat = 51 ∨ b.toNat = 52 ∨ b.toNat = 53 ∨ b.toNat = 54 ∨ b.toNat = 55 ∨ b.toNat = 56 ∨ b.toNat = 57) ↔ _
  omega
theorem has_zr (b : UInt8) : [48].contains b = isZr b := by unfold isZr; simp; rfl
theorem sh_trm (s : ByteArray) (h : s.size ≤ 9223372036854775807) : CSpec Tryd.prog 57 [.str s, .str ⟨#[48, 49, 50, 51, 52, 53, 54, 55, 56, 57]⟩] (.str (trD s)) := by
  intro X φ w vs _ hr
  obtain ⟨v, vs', rfl, h1, h2⟩ := hr.uncons rfl
  obtain rfl := h1.str_inv
  obtain ⟨v, vs', rfl, h1, h3⟩ := h2.uncons rfl
  obtain rfl := h1.str_inv
  obtain rfl := h3.nil_of
  refine enter_of Tryd.func57 rfl rfl ((Any.strings_Trim_laid shl160 (by kernel_rfl) s ⟨#[48, 49, 50, 51, 52, 53, 54, 55, 56, 57]⟩ w h (by decide) (ascii_of_all (by decide))).mono fun e w' he => ⟨_, he.1, ?_⟩)
  refine ⟨?_, he.2⟩
  have e : (ByteArray.mk (Lib.trimS s.data.toList (ByteArray.mk #[48, 49, 50, 51, 52, 53, 54, 55, 56, 57]).data.toList).toArray) = trD s := by
    unfold trD Lib.trimS Lib.trimLeftS Lib.trimRightS
    show ByteArray.mk ((((s.data.toList.reverse.dropWhile ([48, 49, 50, 51, 52, 53, 54, 55, 56, 57].contains ·)).reverse).dropWhile ([48, 49, 50, 51, 52, 53, 54, 55, 56, 57].contains ·)).toArray) = _
    rw [dw_congr has_dg, dw_congr has_dg]
  rw [e]
  exact .str _ .nil
theorem sh_trl (s : ByteArray) : CSpec Tryd.prog 58 [.str s, .str ⟨#[48]⟩] (.str (trZ s)) := by
  intro X φ w vs _ hr
  obtain ⟨v, vs', rfl, h1, h2⟩ := hr.uncons rfl
  obtain rfl := h1.str_inv
  obtain ⟨v, vs', rfl, h1, h3⟩ := h2.uncons rfl
  obtain rfl := h1.str_inv
  obtain rfl := h3.nil_of
  refine enter_of Tryd.func58 rfl rfl ((Any.strings_TrimLeft_laid shl161 (by kernel_rfl) s ⟨#[48]⟩ w (by decide) (ascii_of_all (by decide))).mono fun e w' he => ⟨_, he.1, ?_⟩)
  refine ⟨?_, he.2⟩
  have e : (ByteArray.mk (Lib.trimLeftS s.data.toList (ByteArray.mk #[48]).data.toList).toArray) = trZ s := by
    unfold trZ Lib.trimLeftS
    show ByteArray.mk ((s.data.toList.dropWhile ([48].contains ·)).toArray) = _
    rw [dw_congr has_zr]
  rw [e]
  exact .str _ .nil
theorem prg_ok : PrgOk Tryd.prog := { mix := by kernel_rfl, t0 := T0_ok, t1 := T1_ok, t2 := T2_ok, tF := TF_ok, len64 := sh_len64, lz64 := sh_lz64, mul64 := sh_mul64, add64 := sh_add64, sub64 := sh_sub64, ixb := sh_ixb, trm := sh_trm, trl := sh_trl, f3 := Tryd.func3, f4 := Tryd.func4, f5 := Tryd.func5, f6 := Tryd.func6, f7 := Tryd.func7, f8 := Tryd.func8, f9 := Tryd.func9, f10 := Tryd.func10, f11 := Tryd.func11, f12 := Tryd.func12, f13 := Tryd.func13, f14 := Tryd.func14, f15 := Tryd.func15, f16 := Tryd.func16, f17 := Tryd.func17, f18 := Tryd.func18, f19 := Tryd.func19, f20 := Tryd.func20, f21 := Tryd.func21, f22 := Tryd.func22, f23 := Tryd.func23, f24 := Tryd.func24, f25 := Tryd.func25, f26 := Tryd.func26, f27 := Tryd.func27, f28 := Tryd.func28, f29 := Tryd.func29, f30 := Tryd.func30, f31 := Tryd.func31, f32 := Tryd.func32, f33 := Tryd.func33, f34 := Tryd.func34, f35 := Tryd.func35, f36 := Tryd.func36, f37 := Tryd.func37, f38 := Tryd.func38, f39 := Tryd.func39, f40 := Tryd.func40, f41 := Tryd.func41, f42 := Tryd.func42, f43 := Tryd.func43, f44 := Tryd.func44, f45 := Tryd.func45, f46 := Tryd.func46, f47 := Tryd.func47, f48 := Tryd.func48, f49 := Tryd.func49, f50 := Tryd.func50, f51 := Tryd.func51, f52 := Tryd.func52, f53 := Tryd.func53, f54 := Tryd.func54, f55 := Tryd.func55, f56 := Tryd.func56, f65 := Tryd.func65, f66 := Tryd.func66, f67 := Tryd.func67, f68 := Tryd.func68, f69 := Tryd.func69, f70 := Tryd.func70, f71 := Tryd.func71, f72 := Tryd.func72, f73 := Tryd.func73, f74 := Tryd.func74, f83 := Tryd.func83, f87 := Tryd.func87, f88 := Tryd.func88, f89 := Tryd.func89, f90 := Tryd.func90, f91 := Tryd.func91, f92 := Tryd.func92, f125 := Tryd.func125 }
end Go.Proofs.YtjnhekedclcbfaaDoor.AM
/- What is handed in az data, az the machine sees it. -/
namespace Go.Proofs.YtjnhekedclcbfaaDoor.AM
set_option linter.all false
set_option autoImplicit true
set_option relaxedAutoImplicit true
open Go

/-- Shapes of data. -/
inductive Sha where
  | bool
  | int (k : IntKind)
  | str
  | slice (e : Sha)
  | row (l : List Sha)
mutual
def Sha.width : Sha → Nat
  | .row l => widthL l
  | _ => 1
def widthL : List Sha → Nat
  | [] => 0
  | s :: l => s.width + widthL l
end
mutual
def Sha.chk (P : Program) : Sha → TypeId → Bool
  | .bool, t => match P.underlying t with
    | some .bool => true
    | _ => false
  | .int k, t => match P.underlying t with
    | some (.int k') => decide (k' = k)
    | _ => false
  | .str, t => match P.underlying t with
    | some .string => true
    | _ => false
  | .slice e, t => match P.underlying t with
    | some (.slice u) => e.chk P u && P.cellsOf u == e.width && Nat.blt 0 e.width
    | _ => false
  | .row l, t => P.cellsOf t == widthL l && match P.underlying t with
    | some (.struct fs) => chkF P l fs.toList 0
    | some (.array n u) => l.length == n && chkA P l u (P.cellsOf u)
    | _ => false
def chkF (P : Program) : List Sha → List Field → Nat → Bool
  | [], [], _ => true
  | s :: l, f :: fs, o => f.offset == o && P.cellsOf f.type == s.width && s.chk P f.type && chkF P l fs (o + s.width)
  | _, _, _ => false
def chkA (P : Program) : List Sha → TypeId → Nat → Bool
  | [], _, _ => true
  | s :: l, u, c => c == s.width && s.chk P u && chkA P l u c
end
mutual
/-- The cells of data of a shape. -/
def Sha.Ok : Sha → List AV → Prop
  | .bool, az => ∃ b, az = [.bool b]
  | .int k, az => ∃ n, (Lit.int k n).wf = true ∧ az = [.int k n]
  | .str, az => ∃ s : ByteArray, s.size ≤ maxLen ∧ az = [.str s]
  | .slice e, az => az = [.nils] ∨ ∃ l : List (List AV), l.length ≤ maxLen ∧ (∀ x ∈ l, e.Ok x) ∧ az = [.imm l.length l.flatten]
  | .row l, az => okL l az
def okL : List Sha → List AV → Prop
  | [], az => az = []
  | s :: l, az => ∃ a b, s.Ok a ∧ okL l b ∧ az = a ++ b
end
section
variable {H : Type} {enc : TypeId × Value → H} {P : Program} {w : World}
abbrev RL0 (w : World) := RL (fun _ => False) (fun _ => none) w
theorem cut_app {vs : List Value} {o k : Nat} (h : o + k ≤ vs.length) : vs.drop o = (vs.drop o).take k ++ vs.drop (o + k) := by
  rw [← List.drop_drop, List.take_append_drop]
theorem rl_slice {e : Sha} {k n : Nat} {a : Addr} {len : Nat} {elems : List (DataW H × List MemPlace)} {u : TypeId} (hk : 0 < k) (hl : elems.length = len)
    (ih : ∀ fuel cs x, DataW.trod enc P w 0 (fun _ => true) true fuel u cs = some x → ∃ az, RL0 w cs az ∧ e.Ok az)
    (hel : ∀ i, i < len → (w.cells? 0 (a.add (i * k)) k).bind (DataW.trod enc P w 0 (fun _ => true) true n u) = elems[i]?) (hlen : 0 < len) :
    a.spot = none ∧ ∀ m, m ≤ len → ∃ (us : List Value) (l : List (List AV)), l.length = m ∧ us.length = m * k ∧ (∀ j v, us[j]? = some v → w.cell? ⟨a.block, a.off + j, none⟩ = some v) ∧ RL0 w us l.flatten ∧ ∀ x ∈ l, e.Ok x := by
  have get : ∀ i, i < len → ∃ cs x, w.cells? 0 (a.add (i * k)) k = some cs ∧ DataW.trod enc P w 0 (fun _ => true) true n u cs = some x := fun i hi => by
    have := hel i hi
    rw [List.getElem?_eq_getElem (by omega), Option.bind_eq_some_iff] at this
    obtain ⟨cs, h1, h2⟩ := this
    exact ⟨cs, _, h1, h2⟩
  have hs : a.spot = none := by
    obtain ⟨cs, x, h1, _⟩ := get 0 hlen
    obtain ⟨_, h2, h3⟩ := World.cells?_some h1
    have := h3 0 hk
    rw [List.getElem?_eq_getElem (by omega)] at this
    have h4 := World.cell?_spot this
    rw [Nat.zero_mul] at h4
    simpa [Addr.add] using h4
  refine ⟨hs, fun m => ?_⟩
  induction m with
  | zero => exact fun _ => ⟨[], [], rfl, by simp, by simp, .nil, by simp⟩
  | succ m im =>
    intro hm
    obtain ⟨us, l, h1, h2, h3, h4, h5⟩ := im (by omega)
    obtain ⟨cs, x, g1, g2⟩ := get m (by omega)
    obtain ⟨az, g3, g4⟩ := ih _ _ _ g2
    obtain ⟨_, g5, g6⟩ := World.cells?_some g1
    refine ⟨us ++ cs, l ++ [az], by simp [h1], by rw [List.length_append, h2, g5, Nat.succ_mul], ?_, ?_, ?_⟩
    · intro j v hj
      rcases Nat.lt_or_ge j us.length with hlt | hge
      · rw [List.getElem?_append_left hlt] at hj; exact h3 j v hj
      · rw [List.getElem?_append_right hge] at hj
        have hlt : j - us.length < k := by have := (List.getElem?_eq_some_iff.1 hj).1; omega
        have g7 := g6 _ hlt
        rw [hj] at g7
        obtain ⟨b, o, sp⟩ := a
        simp only at hs
        subst hs
        rw [Go.WideShapes.add_plain, Go.WideShapes.add_plain] at g7
        rw [← g7]
        have e3 : o + j = o + m * k + (j - us.length) := by rw [← h2, Nat.add_assoc, Nat.add_sub_cancel' hge]
        simp only [e3]
    · rw [List.flatten_append]; simpa using h4.app g3
    · intro y hy
      rcases List.mem_append.1 hy with h | h
      · exact h5 y h
      · simp at h; exact h ▸ g4
mutual
theorem Sha.rl : ∀ (sp : Sha) (t : TypeId), sp.chk P t = true → ∀ fuel cs x, DataW.trod enc P w 0 (fun _ => true) true fuel t cs = some x → ∃ az, RL0 w cs az ∧ sp.Ok az
  | .bool, t, hc, fuel, cs, x, h => by
    have ht : P.underlying t = some .bool := by simp only [Sha.chk] at hc; split at hc <;> simp_all
    cases fuel with
    | zero => simp [DataW.trod] at h
    | succ n =>
      unfold DataW.trod at h
      rw [ht] at h
      split at h <;> simp_all
      exact ⟨_, .bool _ .nil, _, rfl⟩
  | .int k, t, hc, fuel, cs, x, h => by
    have ht : P.underlying t = some (.int k) := by simp only [Sha.chk] at hc; split at hc <;> simp_all
    cases fuel with
    | zero => simp [DataW.trod] at h
    | succ n =>
      unfold DataW.trod at h
      rw [ht] at h
      split at h <;> simp_all
      obtain ⟨⟨rfl, hw⟩, _⟩ := h
      exact ⟨_, .int _ _ .nil, _, hw, rfl⟩
  | .str, t, hc, fuel, cs, x, h => by
    have ht : P.underlying t = some .string := by simp only [Sha.chk] at hc; split at hc <;> simp_all
    cases fuel with
    | zero => simp [DataW.trod] at h
    | succ n =>
      unfold DataW.trod at h
      rw [ht] at h
      split at h <;> simp_all
      exact ⟨_, .str _ .nil, _, h.1, rfl⟩
  | .slice e, t, hc, fuel, cs, x, h => by
    obtain ⟨u, ht, h1, h2, h3⟩ : ∃ u, P.underlying t = some (.slice u) ∧ e.chk P u = true ∧ P.cellsOf u = e.width ∧ 0 < e.width := by
      simp only [Sha.chk] at hc
      split at hc
      · rename_i u hu
        simp only [Bool.and_eq_true, beq_iff_eq] at hc
        exact ⟨u, hu, hc.1.1, hc.1.2, Nat.le_of_ble_eq_true hc.2⟩
      · simp at hc
    have ih := Sha.rl e u h1
    rcases DataW.trod_slice ht h with ⟨rfl, _⟩ | ⟨a, len, cap, elems, rest, n, _, rfl, _, _, hlc, hm, hlen, hel, _, _⟩
    · exact ⟨[.nils], .nils .nil, .inl rfl⟩
    · rw [h2] at hel
      rcases Nat.eq_zero_or_pos len with h0 | h0
      · subst h0; exact ⟨[.imm 0 []], .imm0 _ _ .nil, .inr ⟨[], by simp [maxLen], by simp, rfl⟩⟩
      · obtain ⟨hs, hall⟩ := rl_slice h3 hlen ih hel h0
        obtain ⟨us, l, g1, g2, g3, g4, g5⟩ := hall len (Nat.le_refl _)
        obtain ⟨b, o, sp⟩ := a
        simp only at hs
        subst hs
        exact ⟨[.imm len l.flatten], .imm hlc (fun _ h => h) g3 g4 .nil, .inr ⟨l, by omega, g5, by rw [g1]⟩⟩
  | .row l, t, hc, fuel, cs, x, h => by
    simp only [Sha.chk, Bool.and_eq_true, beq_iff_eq] at hc
    obtain ⟨hw, hc⟩ := hc
    split at hc
    · rename_i fs hu
      obtain ⟨xs, n, _, _, hl, hx, hall⟩ := DataW.trod_struct hu h
      have := rlF l fs.toList 0 hc n cs (fun i f hf => by
        have := hall i f (by simpa using hf)
        rw [this]
        have : i < fs.size := by have := (List.getElem?_eq_some_iff.1 hf).1; simpa using this
        exact ⟨xs[i]'(by omega), List.getElem?_eq_getElem _⟩) (by rw [hl, hw]; omega)
      simpa [Sha.Ok] using this
    · rename_i n u hu
      simp only [Bool.and_eq_true, beq_iff_eq] at hc
      obtain ⟨xs, m, _, _, hl, hx, hall⟩ := DataW.trod_array hu h
      have := rlA l u (P.cellsOf u) hc.2 m cs 0 0 (Nat.zero_mul _).symm (fun i hi => by
        rw [Nat.zero_add, hall i (by omega)]
        exact ⟨xs[i]'(by omega), List.getElem?_eq_getElem _⟩) (by rw [hl, hw]; omega)
      simpa [Sha.Ok] using this
    · simp at hc
theorem rlF : ∀ (l : List Sha) (fs : List Field) (o : Nat), chkF P l fs o = true → ∀ (n : Nat) (cs : List Value), (∀ (i : Nat) (f : Field), fs[i]? = some f → ∃ y, DataW.trod enc P w 0 (fun _ => true) true n f.type ((cs.drop f.offset).take (P.cellsOf f.type)) = some y) → cs.length = o + widthL l → ∃ az, RL0 w (cs.drop o) az ∧ okL l az
  | [], [], o, _, n, cs, _, hl => ⟨[], by rw [List.drop_of_length_le (by simp [widthL] at hl; omega)]; exact .nil, rfl⟩
  | [], _ :: _, _, hc, _, _, _, _ => by simp [chkF] at hc
  | _ :: _, [], _, hc, _, _, _, _ => by simp [chkF] at hc
  | s :: l, f :: fs, o, hc, n, cs, hall, hl => by
    simp only [chkF, Bool.and_eq_true, beq_iff_eq] at hc
    obtain ⟨⟨⟨h1, h2⟩, h3⟩, h4⟩ := hc
    simp only [widthL] at hl
    obtain ⟨y, hy⟩ := hall 0 f rfl
    obtain ⟨a, ha, oa⟩ := Sha.rl s f.type h3 _ _ _ hy
    obtain ⟨b, hb, ob⟩ := rlF l fs (o + s.width) h4 n cs (fun i g hg => hall (i + 1) g (by simpa using hg)) (by omega)
    refine ⟨a ++ b, ?_, a, b, oa, ob, rfl⟩
    rw [cut_app (k := s.width) (by omega)]
    rw [h1, h2] at ha
    exact ha.app hb
theorem rlA : ∀ (l : List Sha) (u : TypeId) (c : Nat), chkA P l u c = true → ∀ (n : Nat) (cs : List Value) (j o : Nat), o = j * c → (∀ i, i < l.length → ∃ y, DataW.trod enc P w 0 (fun _ => true) true n u ((cs.drop ((j + i) * c)).take c) = some y) → cs.length = o + widthL l → ∃ az, RL0 w (cs.drop o) az ∧ okL l az
  | [], _, _, _, _, cs, _, o, _, _, hl => ⟨[], by rw [List.drop_of_length_le (by simp [widthL] at hl; omega)]; exact .nil, rfl⟩
  | s :: l, u, c, hc, n, cs, j, o, ho, hall, hl => by
    simp only [chkA, Bool.and_eq_true, beq_iff_eq] at hc
    obtain ⟨⟨h1, h2⟩, h3⟩ := hc
    simp only [widthL] at hl
    obtain ⟨y, hy⟩ := hall 0 (by simp)
    obtain ⟨a, ha, oa⟩ := Sha.rl s u h2 _ _ _ hy
    obtain ⟨b, hb, ob⟩ := rlA l u c h3 n cs (j + 1) (o + c) (by rw [ho, Nat.succ_mul]) (fun i hi => by
      have := hall (i + 1) (by simp; omega)
      rwa [show j + (i + 1) = j + 1 + i by omega] at this) (by omega)
    refine ⟨a ++ b, ?_, a, b, oa, ob, rfl⟩
    rw [cut_app (k := c) (by omega)]
    rw [Nat.add_zero, ← ho] at ha
    exact ha.app hb
end
/-- An argument. -/
theorem Sha.arg {sp : Sha} {t : TypeId} (hc : sp.chk P t = true) {v : Value} {d : DataW H} {ps : List MemPlace} (h : DataW.Trod enc P w 0 (fun _ => true) true t v d ps) : ∃ az, RL0 w v.cells.toList az ∧ sp.Ok az := by
  obtain ⟨fuel, h⟩ := h
  exact Sha.rl sp t hc fuel _ _ h
/-- .. of several cells, or of one. -/
theorem arg_row {l : List Sha} {t : TypeId} (hc : (Sha.row l).chk P t = true) {v : Value} {d : DataW H} {ps : List MemPlace} {b : Nat} (h : DataW.Trod enc P w 0 (fun _ => true) true t v d ps) (hv : Value.okWide P w .any b t v) : ∃ az, RL0 w [v] [.agg az] ∧ okL l az := by
  obtain ⟨az, h1, h2⟩ := Sha.arg hc h
  have : ∃ cs, v = .agg cs := by
    simp only [Sha.chk, Bool.and_eq_true] at hc
    unfold Value.okWide at hv
    have hc := hc.2
    split at hc
    · rename_i fs hu; rw [hu] at hv; exact ⟨_, hv.choose_spec.1⟩
    · rename_i n u hu; rw [hu] at hv; exact ⟨_, hv.choose_spec.1⟩
    · simp at hc
  obtain ⟨cs, rfl⟩ := this
  exact ⟨az, by simpa using RL.agg (cs := cs.toList) (by simpa [Value.cells] using h1) .nil, by simpa [Sha.Ok] using h2⟩
end
end Go.Proofs.YtjnhekedclcbfaaDoor.AM
/- What all rows share: a call by its specification; arguments that are data. -/
namespace Go.Proofs.YtjnhekedclcbfaaDoor
set_option linter.all false
set_option autoImplicit true
set_option relaxedAutoImplicit true
open Go Go.Proofs Go.ChangeShapes Go.WideShapes Go.ChangeAt Go.RowKit
theorem CSpec.calls {P : Program} {f : Nat} {fn : Func} {c : Code} {args : List AM.AV} {b : Bool} (h : AM.CSpec P f args (.bool b)) (hf : P.funcs[f]? = some fn) (hb : fn.body = some c) (hn : (fn.name == "runtime.NumGoroutine") = false) {vs : List Value} {w : World}
    (hr : AM.RL (fun _ => False) (fun _ => none) w vs args) : Calls P f vs.toArray w fun e w' => e = .returned (.bool b) ∧ Below w.heap.size w w' := by
  have := h (fun _ => False) (fun _ => none) w vs (fun _ h => h.elim) hr
  unfold AM.Invk at this
  rw [AM.callFunc_enter hf hb hn] at this
  simp only [] at this
  refine this.mono fun e w' ⟨v, he, hv, hB⟩ => ?_
  rw [he, hv.bool_inv]; exact ⟨rfl, hB⟩
theorem Tryd.own : ownKnob Tryd.prog.godebug = none := by kernel_rfl
theorem Tryd.laidOut : laidOutB Tryd.prog = true := by kernel_rfl
/-- An argument of one cell. -/
theorem arg_slice {H : Type} {enc : TypeId × Value → H} {P : Program} {w : World} {e : AM.Sha} {t : TypeId} (hc : (AM.Sha.slice e).chk P t = true) {v : Value} {d : DataW H} {ps : List MemPlace} {b : Nat} (h : DataW.Trod enc P w 0 (fun _ => true) true t v d ps) (hv : Value.okWide P w .any b t v) : ∃ a, AM.RL (fun _ => False) (fun _ => none) w [v] [a] ∧ (AM.Sha.slice e).Ok [a] := by
  obtain ⟨cs, h1, h2⟩ := AM.Sha.arg hc h
  have hs : ∃ u, P.underlying t = some (.slice u) := by
    simp only [AM.Sha.chk] at hc
    split at hc
    · exact ⟨_, ‹_›⟩
    · simp at hc
  obtain ⟨u, hu⟩ := hs
  unfold Value.okWide at hv
  rw [hu] at hv
  unfold Cell.okWide at hv
  rw [hu] at hv
  have hv : Cell.ok P w .any b t v := by cases v <;> exact hv
  have hcl : v.cells.toList = [v] := by
    unfold Cell.ok at hv
    rw [hu] at hv
    cases v <;> first | rfl | exact hv.elim
  rw [hcl] at h1
  obtain ⟨a, rfl⟩ : ∃ a, cs = [a] := by
    rcases h2 with rfl | ⟨l, _, _, rfl⟩ <;> exact ⟨_, rfl⟩
  exact ⟨a, h1, h2⟩
end Go.Proofs.YtjnhekedclcbfaaDoor
/- Package nat: making numbers, their digits. -/
namespace Go.Proofs.YtjnhekedclcbfaaDoor.AM
set_option linter.all false
set_option autoImplicit true
set_option relaxedAutoImplicit true
open Go Go.Proofs
set_option maxRecDepth 100000
set_option maxHeartbeats 4000000
set_option linter.unusedSimpArgs false
variable {P : Program}

theorem Of_spec (hP : PrgOk P) (n : Nat) (hn : n < 18446744073709551616) : CSpec P 52 [.int .u64 n] (.agg [.opq (.nat (n)), .pad]) := by
  have HE := EnvOk.no hP.t0
  refine CSpec_vc (E := ⟨T0, noS⟩) (fn52 hP) HE hP.mix rfl (by first | rfl | (simp only [go_sem]; done)) (by first | rfl | (simp only [go_sem]; done)) (Nat.le_of_ble_eq_true rfl) ?_
  simp (maxSteps := 1000000) only [go_sem]
  exact Conv.nat1 hn

theorem cut_spec (hP : PrgOk P) (l : List Nat) (hd : ∀ d ∈ l, d < 18446744073709551616) (hn : l.length < 4611686018427387904) : CSpec P 70 [.imm l.length (List.map (fun d : Nat => AV.int .u64 (d : Int)) (l))] (.agg [.opq (.nat (dOf 18446744073709551616 l)), .pad]) := by
  have HE := EnvOk.no hP.t0
  refine CSpec_vc (E := ⟨T0, noS⟩) (fn70 hP) HE hP.mix rfl (by first | rfl | (simp only [go_sem]; done)) (by first | rfl | (simp only [go_sem]; done)) (Nat.le_of_ble_eq_true rfl) ?_
  simp (maxSteps := 1000000) only [go_sem]
  refine trX_loop HE hP.mix [0] (fun k : Nat => ⟨upd (upd (upd (fun _ => .junk) 0 (.imm l.length (List.map (fun d : Nat => AV.int .u64 (d : Int)) (l)))) 2 (.ref 0 0)) 3 (.int .i64 (k : Int)), upd (fun _ => .unused) 0 (.live [.int .u64 0, .nils]), 33⟩) (fun k => k ≤ l.length ∧ dOf 18446744073709551616 (l.take k) = dOf 18446744073709551616 l) (fun k => k) l.length 1
    (by repeat (first | exact Has.nil | refine Has.upd rfl ?_)) (Kept.of rfl (by repeat (first | exact KT.nil | refine KT.upd rfl (by first | rfl | exact hr | exact hr2 | (simp only [go_sem]; done)) ?_)) (KM.one rfl rfl)) ⟨Nat.le_refl _, by simp⟩ 33 (by kernel_rfl) ?_
  intro k ⟨hk, he⟩
  cases k with
  | zero =>
    simp (maxSteps := 1000000) only [go_sem]
    have : dOf 18446744073709551616 l = 0 := by rw [← he]; rfl
    rw [this]; exact Conv.nat1 (a := 0) (by decide)
  | succ k =>
    have h2 := wi_nat k (by omega)
    have hk' : k < l.length := by omega
    have hk2 : k ≤ l.length := by omega
    have htk := take_snoc hk'
    simp (maxSteps := 1000000) only [go_sem, h2, gU' hk', hk', hk2]
    refine if_split (fun hz => ?_) (fun hz => ?_)
    · simp (maxSteps := 1000000) only [go_sem, h2]
      have hz := eq_of_beq hz
      refine ⟨k, Kept.of rfl (by repeat (first | exact KT.nil | refine KT.upd rfl (by first | rfl | exact hr | exact hr2 | (simp only [go_sem]; done)) ?_)) (KM.one rfl rfl), ⟨by omega, ?_⟩, by omega⟩
      rw [← he, htk, hz, dOf_append]; simp [dOf]
    · have hz : l.getD k 0 ≠ 0 := by simpa using hz
      simp (maxSteps := 1000000) only [go_sem]
      have hcan : Canon (l.take (k + 1)) := by
        intro h; rw [List.getLast_eq_getElem]
        have : (l.take (k + 1)).length - 1 = k := by simp; omega
        simp only [this]
        simpa [hk'] using hz
      refine if_split (fun hk1 => ?_) (fun hk1 => ?_)
      · obtain rfl := eq_of_beq hk1
        have hd0 : dOf 18446744073709551616 l = l.getD 0 0 := by rw [← he, htk]; simp [dOf]
        simp (maxSteps := 1000000) only [go_sem, gU' hk', gU hk', hk']
        rw [hd0]
        exact Conv.nat1 (hd _ (getD_mem hk'))
      · simp (maxSteps := 1000000) only [go_sem, hk]
        rw [← he]
        have hk3 : k ≠ 0 := fun e => by rw [e] at hk1; simp at hk1
        exact Conv.natL (fun d hd' => hd d (List.mem_of_mem_take hd')) hcan (by simp; omega) (by simp; omega)

/-- What `cut` answers. -/
def cutS : List AV → Option (Prop × AV)
  | [.imm n cs] => some (cs = (List.map (fun d : Nat => AV.int .u64 (d : Int)) (cs.map ud)) ∧ n = cs.length ∧ (∀ d ∈ cs.map ud, d < 18446744073709551616) ∧ n < 4611686018427387904, (.agg [.opq (.nat (dOf 18446744073709551616 (cs.map ud))), .pad]))
  | _ => none
theorem cutS_ok (hP : PrgOk P) (args p r) (h : cutS args = some (p, r)) (hp : p) : CSpec P 70 args r := by
  unfold cutS at h
  split at h
  · simp only [Option.some.injEq, Prod.mk.injEq] at h
    obtain ⟨rfl, rfl⟩ := h
    obtain ⟨h1, h2, h3, h4⟩ := hp
    have := cut_spec hP _ h3 (by simp; omega)
    rw [← h1, List.length_map, ← h2] at this
    exact this
  · simp at h

theorem digits_spec (hP : PrgOk P) (a : Nat) : CSpec P 45 [(.agg [.opq (.nat (a)), .pad])] (sv (digs 18446744073709551616 a)) := by
  have HE := EnvOk.no hP.t0
  refine CSpec.cv ?_ (CvL.natIn a .nil)
  by_cases ha : a < 18446744073709551616
  · rw [natC_small ha]
    refine CSpec_vc (E := ⟨T0, noS⟩) (fn45 hP) HE hP.mix rfl (by first | rfl | (simp only [go_sem]; done)) (by first | rfl | (simp only [go_sem]; done)) (Nat.le_of_ble_eq_true rfl) ?_
    simp (maxSteps := 1000000) only [go_sem]
    refine if_split (fun h => ?_) (fun h => ?_)
    · rw [eq_of_beq h, digs_zero, sv_nil]
      simp (maxSteps := 1000000) only [go_sem]
      exact .refl _
    · have h : a ≠ 0 := by simpa using h
      rw [digs_small _ _ (by decide) ha h, sv_ne (by simp)]
      simp (maxSteps := 1000000) only [go_sem]
      exact .refl _
  · have h : a ≠ 0 := by omega
    rw [natC_great ha, sv_ne (by rw [digs_eq _ _ (by decide) h]; simp)]
    refine CSpec_vc (E := ⟨T0, noS⟩) (fn45 hP) HE hP.mix rfl (by first | rfl | (simp only [go_sem]; done)) (by first | rfl | (simp only [go_sem]; done)) (Nat.le_of_ble_eq_true rfl) ?_
    simp (maxSteps := 1000000) only [go_sem]
    exact ⟨by have := digs_length_gt 18446744073709551616 a 1 (by decide) (by omega); omega, .refl _⟩

def digitsS : List AV → Option (Prop × AV) := on1 fun a => (True, sv (digs 18446744073709551616 a))
theorem digitsS_ok (hP : PrgOk P) (args p r) : digitsS args = some (p, r) → p → CSpec P 45 args r := on1_ok (fun a _ => digits_spec hP a) args p r

def OfS : List AV → Option (Prop × AV)
  | [.int .u64 n] => some (0 ≤ n ∧ n < 18446744073709551616, (.agg [.opq (.nat (n.toNat)), .pad]))
  | _ => none
theorem OfS_ok (hP : PrgOk P) (args p r) (h : OfS args = some (p, r)) (hp : p) : CSpec P 52 args r := by
  unfold OfS at h
  split at h
  · simp only [Option.some.injEq, Prod.mk.injEq] at h
    obtain ⟨rfl, rfl⟩ := h
    obtain ⟨n', e⟩ := Int.eq_ofNat_of_zero_le hp.1
    subst e
    have := Of_spec hP n' (by omega)
    exact this
  · simp at h

def Uint64S : List AV → Option (Prop × AV) := on1 fun a => (True, .tup [.int .u64 ((if a < 18446744073709551616 then a else 0 : Nat) : Int), .bool (decide (a < 18446744073709551616))])
attribute [go_sem] cutS digitsS OfS Uint64S
end Go.Proofs.YtjnhekedclcbfaaDoor.AM
/- Package nat: how long, which is greater. -/
namespace Go.Proofs.YtjnhekedclcbfaaDoor.AM
set_option linter.all false
set_option autoImplicit true
set_option relaxedAutoImplicit true
open Go Go.Proofs
set_option maxRecDepth 100000
set_option maxHeartbeats 4000000
set_option linter.unusedSimpArgs false
variable {P : Program}

def len64S : List AV → Option (Prop × AV)
  | [.int .u64 x] => some (0 ≤ x ∧ x.toNat < 18446744073709551616, .int .i64 (blen x.toNat : Nat))
  | _ => none
theorem len64S_ok (hP : PrgOk P) (args p r) (h : len64S args = some (p, r)) (hp : p) : CSpec P 44 args r := by
  unfold len64S at h
  split at h
  · simp only [Option.some.injEq, Prod.mk.injEq] at h
    obtain ⟨rfl, rfl⟩ := h
    exact (by have := hP.len64 _ hp.2; rw [nn hp.1] at this; exact this)
  · simp at h
def lz64S : List AV → Option (Prop × AV)
  | [.int .u64 x] => some (0 ≤ x ∧ x.toNat < 18446744073709551616, .int .i64 ((64 - blen x.toNat : Nat) : Int))
  | _ => none
theorem lz64S_ok (hP : PrgOk P) (args p r) (h : lz64S args = some (p, r)) (hp : p) : CSpec P 87 args r := by
  unfold lz64S at h
  split at h
  · simp only [Option.some.injEq, Prod.mk.injEq] at h
    obtain ⟨rfl, rfl⟩ := h
    exact (by have := hP.lz64 _ hp.2; rw [nn hp.1] at this; exact this)
  · simp at h
noncomputable def mul64S : List AV → Option (Prop × AV)
  | [.int .u64 x, .int .u64 y] => some ((0 ≤ x ∧ 0 ≤ y) ∧ x.toNat < 18446744073709551616 ∧ y.toNat < 18446744073709551616, .tup [.int .u64 ((mulh x.toNat y.toNat : Nat) : Int), .int .u64 ((mull x.toNat y.toNat : Nat) : Int)])
  | _ => none
theorem mul64S_ok (hP : PrgOk P) (args p r) (h : mul64S args = some (p, r)) (hp : p) : CSpec P 68 args r := by
  unfold mul64S at h
  split at h
  · simp only [Option.some.injEq, Prod.mk.injEq] at h
    obtain ⟨rfl, rfl⟩ := h
    exact (by have := hP.mul64 _ _ hp.2.1 hp.2.2; rw [nn hp.1.1, nn hp.1.2] at this; exact this)
  · simp at h
noncomputable def add64S : List AV → Option (Prop × AV)
  | [.int .u64 x, .int .u64 y, .int .u64 c] => some ((0 ≤ x ∧ 0 ≤ y ∧ 0 ≤ c) ∧ x.toNat < 18446744073709551616 ∧ c.toNat ≤ 1, .tup [.int .u64 ((addl x.toNat y.toNat c.toNat : Nat) : Int), .int .u64 ((addh x.toNat y.toNat c.toNat : Nat) : Int)])
  | _ => none
theorem add64S_ok (hP : PrgOk P) (args p r) (h : add64S args = some (p, r)) (hp : p) : CSpec P 69 args r := by
  unfold add64S at h
  split at h
  · simp only [Option.some.injEq, Prod.mk.injEq] at h
    obtain ⟨rfl, rfl⟩ := h
    exact (by rename_i x y c; have := hP.add64 x.toNat y.toNat c.toNat hp.2.1 hp.2.2; rw [nn hp.1.1, nn hp.1.2.1, nn hp.1.2.2] at this; exact this)
  · simp at h
noncomputable def sub64S : List AV → Option (Prop × AV)
  | [.int .u64 x, .int .u64 y, .int .u64 c] => some ((0 ≤ x ∧ 0 ≤ y ∧ 0 ≤ c) ∧ x.toNat < 18446744073709551616 ∧ c.toNat ≤ 1, .tup [.int .u64 ((subd x.toNat y.toNat c.toNat : Nat) : Int), .int .u64 ((bor x.toNat y.toNat c.toNat : Nat) : Int)])
  | _ => none
theorem sub64S_ok (hP : PrgOk P) (args p r) (h : sub64S args = some (p, r)) (hp : p) : CSpec P 74 args r := by
  unfold sub64S at h
  split at h
  · simp only [Option.some.injEq, Prod.mk.injEq] at h
    obtain ⟨rfl, rfl⟩ := h
    exact (by rename_i x y c; have := hP.sub64 x.toNat y.toNat c.toNat hp.2.1 hp.2.2; rw [nn hp.1.1, nn hp.1.2.1, nn hp.1.2.2] at this; exact this)
  · simp at h
attribute [go_sem] len64S lz64S mul64S add64S sub64S
noncomputable def Sa : Nat → List AV → Option (Prop × AV) := addS (addS (addS (addS (addS (addS (addS (addS noS 70 cutS) 45 digitsS) 52 OfS) 44 len64S) 87 lz64S) 68 mul64S) 69 add64S) 74 sub64S
theorem Sa_ok (hP : PrgOk P) : EnvOk P ⟨T0, Sa⟩ := (((((((((EnvOk.no hP.t0).add (cutS_ok hP)).add (digitsS_ok hP)).add (OfS_ok hP)).add (len64S_ok hP)).add (lz64S_ok hP)).add (mul64S_ok hP)).add (add64S_ok hP)).add (sub64S_ok hP))
theorem Sa_at (f a) : Sa f a = (addS (addS (addS (addS (addS (addS (addS (addS noS 70 cutS) 45 digitsS) 52 OfS) 44 len64S) 87 lz64S) 68 mul64S) 69 add64S) 74 sub64S) f a := rfl
attribute [go_sem] Sa_at
theorem Bits_spec (hP : PrgOk P) (a : Nat) (hb : blen a ≤ 68719476736) : CSpec P 13 [(.agg [.opq (.nat (a)), .pad])] (.int .i64 (blen a : Nat)) := by
  have HE := Sa_ok hP
  refine CSpec.cv ?_ (CvL.natIn a .nil)
  by_cases ha : a < 18446744073709551616
  · rw [natC_small ha]
    refine CSpec_vc (E := ⟨T0, Sa⟩) (fn13 hP) HE hP.mix rfl (by first | rfl | (simp only [go_sem]; done)) (by first | rfl | (simp only [go_sem]; done)) (Nat.le_of_ble_eq_true rfl) ?_
    simp (maxSteps := 1000000) only [go_sem, ha]
    exact .refl _
  · have h : a ≠ 0 := by omega
    have hl := digs_length_gt 18446744073709551616 a 1 (by decide) (by omega)
    have hl2 := digs_len_blen a
    have he := blen_digs a h
    have hd : ∀ d ∈ digs 18446744073709551616 a, d < 18446744073709551616 := digs_lt 18446744073709551616 a (by decide)
    obtain ⟨k, hk⟩ : ∃ k, (digs 18446744073709551616 a).length = k + 1 := ⟨(digs 18446744073709551616 a).length - 1, by omega⟩
    rw [hk, Nat.add_sub_cancel] at he
    have hkl : k < (digs 18446744073709551616 a).length := by omega
    rw [natC_great ha, hk]
    refine CSpec_vc (E := ⟨T0, Sa⟩) (fn13 hP) HE hP.mix rfl (by first | rfl | (simp only [go_sem]; done)) (by first | rfl | (simp only [go_sem]; done)) (Nat.le_of_ble_eq_true rfl) ?_
    have h2 := wi_nat k (by omega)
    have h3 : IntKind.i64.wrap (64 * (k : Int)) = ((64 * k : Nat) : Int) := by rw [IntKind.wrap_i64]; omega
    have h4 : IntKind.i64.wrap (((64 * k : Nat) : Int) + ((blen ((digs 18446744073709551616 a).getD k 0) : Nat) : Int)) = ((blen a : Nat) : Int) := by rw [IntKind.wrap_i64]; omega
    have hd1 := hd _ (getD_mem hkl)
    have hd2 : k ≤ (digs 18446744073709551616 a).length := by omega
    have hd3 : k < k + 1 := by omega
    simp (maxSteps := 1000000) only [go_sem, h2, h3, h4, gU' hkl, hkl, hd1, hd2, hd3]
    exact ⟨by omega, .refl _⟩
def BitsS : List AV → Option (Prop × AV) := on1 fun a => (blen a ≤ 68719476736, .int .i64 (blen a : Nat))
theorem BitsS_ok (hP : PrgOk P) (args p r) : BitsS args = some (p, r) → p → CSpec P 13 args r := on1_ok (fun a h => Bits_spec hP a h) args p r

theorem Cmp_spec (hP : PrgOk P) (a b : Nat) (ha : blen a ≤ 68719476736) (hb : blen b ≤ 68719476736) : CSpec P 50 [(.agg [.opq (.nat (a)), .pad]), (.agg [.opq (.nat (b)), .pad])] (.int .i64 (cmpI a b)) := by
  have HE := Sa_ok hP
  have hxd : ∀ d ∈ digs 18446744073709551616 a, d < 18446744073709551616 := digs_lt 18446744073709551616 a (by decide)
  have hyd : ∀ d ∈ digs 18446744073709551616 b, d < 18446744073709551616 := digs_lt 18446744073709551616 b (by decide)
  have hx := dOf_digs 18446744073709551616 a (by decide)
  have hy := dOf_digs 18446744073709551616 b (by decide)
  have hlx := digs_len_blen a
  have hly := digs_len_blen b
  have hlt := digs_len_lt 18446744073709551616 a b (by decide)
  have hgt := digs_len_lt 18446744073709551616 b a (by decide)
  refine CSpec_vc (E := ⟨T0, Sa⟩) (fn50 hP) HE hP.mix rfl (by first | rfl | (simp only [go_sem]; done)) (by first | rfl | (simp only [go_sem]; done)) (Nat.le_of_ble_eq_true rfl) ?_
  simp (maxSteps := 1000000) only [go_sem]
  generalize digs 18446744073709551616 a = x at *
  generalize digs 18446744073709551616 b = y at *
  refine if_split (fun h => ?_) (fun h => ?_)
  · simp (maxSteps := 1000000) only [go_sem]
    refine if_split (fun h => ?_) (fun h' => ?_)
    · simp (maxSteps := 1000000) only [go_sem]
      rw [cmpI_lt (hlt (of_decide_eq_true h))]; exact .refl _
    · simp (maxSteps := 1000000) only [go_sem]
      have h' := of_decide_eq_false h'
      have h : x.length ≠ y.length := by simpa using h
      rw [cmpI_gt (hgt (by omega))]; exact .refl _
  · have hxy : y.length = x.length := by simpa using Eq.symm (by simpa using h)
    have hw := wi_pred' x.length (by omega)
    simp (maxSteps := 1000000) only [go_sem, hw]
    refine trX_loop HE hP.mix [0, 1] (fun k : Nat => ⟨upd (upd (upd (upd (fun _ => .junk) 4 (.int .i64 0)) 5 (sv x)) 6 (sv y)) 7 (.int .i64 ((k : Int) - 1)), upd (upd (fun _ => .unused) 0 (.live [.opq (.nat a), .pad])) 1 (.live [.opq (.nat b), .pad]), 49⟩) (fun k => k ≤ x.length ∧ x.drop k = y.drop k) (fun k => k) x.length 2
      (by repeat (first | exact Has.nil | refine Has.upd rfl ?_)) (Kept.of rfl (by repeat (first | exact KT.nil | refine KT.upd rfl (by first | rfl | exact hr | exact hr2 | (simp only [go_sem]; done)) ?_)) (KM.two rfl rfl rfl rfl rfl)) ⟨Nat.le_refl _, by rw [List.drop_length, ← hxy, List.drop_length]⟩ 49 (by kernel_rfl) ?_
    intro k ⟨hk, he⟩
    cases k with
    | zero =>
      have h0 : ((0 : Int) ≤ ((0 : Nat) : Int) - 1) = False := by simp
      simp (maxSteps := 1000000) only [go_sem, h0]
      have : a = b := by rw [← hx, ← hy]; simp at he; rw [he]
      rw [this, cmpI_eq]; exact .refl _
    | succ k =>
      have k1 : k < x.length := by omega
      have k2 : k < y.length := by omega
      have k3 : k ≤ x.length := by omega
      have k4 : k ≤ y.length := by omega
      have e1 : x ≠ [] := by intro e; rw [e] at k1; simp at k1
      have e2 : y ≠ [] := by intro e; rw [e] at k2; simp at k2
      simp (maxSteps := 1000000) only [go_sem, sv_ia e1, sv_ia e2, k1, k2, k3, k4, gU' k1, gU' k2]
      refine if_split (fun h => ?_) (fun h => ?_)
      · simp (maxSteps := 1000000) only [go_sem]
        have := dOf_cmp 18446744073709551616 x y hxd k k1 k2 he (of_decide_eq_true h)
        rw [cmpI_lt (by omega)]; exact .refl _
      · simp (maxSteps := 1000000) only [go_sem, sv_ia e1, sv_ia e2, k1, k2, k3, k4, gU' k1, gU' k2]
        refine if_split (fun h' => ?_) (fun h' => ?_)
        · simp (maxSteps := 1000000) only [go_sem]
          have := dOf_cmp 18446744073709551616 y x hyd k k2 k1 he.symm (of_decide_eq_true h')
          rw [cmpI_gt (by omega)]; exact .refl _
        · have hw := wi_pred' k (by omega)
          simp (maxSteps := 1000000) only [go_sem, hw]
          refine ⟨k, Kept.of rfl (by repeat (first | exact KT.nil | refine KT.upd rfl (by first | rfl | exact hr | exact hr2 | (simp only [go_sem]; done)) ?_)) (KM.two rfl rfl rfl rfl rfl), ⟨by omega, ?_⟩, by omega⟩
          have e1 := List.drop_eq_getElem_cons k1
          have e2 := List.drop_eq_getElem_cons k2
          have h := of_decide_eq_false h
          have h' := of_decide_eq_false h'
          rw [getD_get k1, getD_get k2] at h
          rw [getD_get k1, getD_get k2] at h'
          rw [e1, e2, he, show x[k] = y[k] by omega]
def CmpS : List AV → Option (Prop × AV) := on2 fun a b => (blen a ≤ 68719476736 ∧ blen b ≤ 68719476736, .int .i64 (cmpI a b))
theorem CmpS_ok (hP : PrgOk P) (args p r) : CmpS args = some (p, r) → p → CSpec P 50 args r := on2_ok (fun a b h => by exact Cmp_spec hP a b h.1 h.2) args p r
attribute [go_sem] BitsS CmpS
end Go.Proofs.YtjnhekedclcbfaaDoor.AM
/- Package nat: sums. -/
namespace Go.Proofs.YtjnhekedclcbfaaDoor.AM
set_option linter.all false
set_option autoImplicit true
set_option relaxedAutoImplicit true
open Go Go.Proofs
set_option maxRecDepth 100000
set_option maxHeartbeats 8000000
set_option linter.unusedSimpArgs false
variable {P : Program}

noncomputable def Sb : Nat → List AV → Option (Prop × AV) := addS (addS Sa 13 BitsS) 50 CmpS
theorem Sb_ok (hP : PrgOk P) : EnvOk P ⟨T0, Sb⟩ := (((Sa_ok hP).add (BitsS_ok hP)).add (CmpS_ok hP))
theorem Sb_at (f a) : Sb f a = (addS (addS Sa 13 BitsS) 50 CmpS) f a := rfl
attribute [go_sem] Sb_at
theorem Add_small (hP : PrgOk P) (a b : Nat) (ha : a < 18446744073709551616) (hb : b < 18446744073709551616) : CSpec P 42 [.agg [.int .u64 (a : Int), .nils], .agg [.int .u64 (b : Int), .nils]] (.agg [.opq (.nat (a + b)), .pad]) := by
  have HE := Sb_ok hP
  refine CSpec_vc (E := ⟨T0, Sb⟩) (fn42 hP) HE hP.mix rfl (by first | rfl | (simp only [go_sem]; done)) (by first | rfl | (simp only [go_sem]; done)) (Nat.le_of_ble_eq_true rfl) ?_
  simp (maxSteps := 1000000) only [go_sem, ha]
  have h2 := add_all a b 0
  have h3 := addl_lt a b 0
  have h4 := addh_le ha hb (c := 0) (by decide)
  refine if_split (fun h => ?_) (fun h => ?_)
  · simp (maxSteps := 1000000) only [go_sem]
    have h := eq_of_beq h
    have e : addl a b 0 = a + b := by omega
    rw [e]; exact Conv.nat1 (by omega)
  · simp (maxSteps := 1000000) only [go_sem]
    have h : addh a b 0 ≠ 0 := by simpa using h
    have e : dOf 18446744073709551616 [addl a b 0, addh a b 0] = a + b := by simp only [dOf]; omega
    have := Conv.natL (l := [addl a b 0, addh a b 0]) (n := 2) ?_ ?_ (by simp) rfl
    · rw [e] at this; exact this
    · intro d hd
      simp only [List.mem_cons, List.not_mem_nil, or_false] at hd
      rcases hd with rfl | rfl <;> omega
    · intro _; simpa using h

theorem Add_great (hP : PrgOk P) (a b : Nat) (ha : blen a ≤ 68719476736) (hb : blen b ≤ 68719476736) (hg : ¬ (a < 18446744073709551616 ∧ b < 18446744073709551616)) : CSpec P 42 [.agg (natC a), .agg (natC b)] (.agg [.opq (.nat (a + b)), .pad]) := by
  have HE := Sb_ok hP
  have hxd : ∀ d ∈ digs 18446744073709551616 a, d < 18446744073709551616 := digs_lt 18446744073709551616 a (by decide)
  have hyd : ∀ d ∈ digs 18446744073709551616 b, d < 18446744073709551616 := digs_lt 18446744073709551616 b (by decide)
  have hx := dOf_digs 18446744073709551616 a (by decide)
  have hy := dOf_digs 18446744073709551616 b (by decide)
  have hlx := digs_len_blen a
  have hly := digs_len_blen b
  have hlt := digs_len_lt 18446744073709551616 a b (by decide)
  have hgt := digs_len_lt 18446744073709551616 b a (by decide)
  by_cases h1 : a < 18446744073709551616
  · rw [natC_small h1, natC_great (by omega)]
    have hl := digs_length_gt 18446744073709551616 b 1 (by decide) (by omega)
    have hl1 := digs_length_le 18446744073709551616 a 1 (by decide) (by omega)
    have hl' : (digs 18446744073709551616 a).length < (digs 18446744073709551616 b).length := by omega
    have hl2 : 2 ≤ (digs 18446744073709551616 b).length := by omega
    have hl3 : ((digs 18446744073709551616 b).length ≠ 0) = True := eq_true (by omega)
    refine CSpec_vc (E := ⟨T0, Sb⟩) (fn42 hP) HE hP.mix rfl (by first | rfl | (simp only [go_sem]; done)) (by first | rfl | (simp only [go_sem]; done)) (Nat.le_of_ble_eq_true rfl) ?_
    simp (maxSteps := 1000000) only [go_sem, h1, hl', hl2, hl3]
    generalize digs 18446744073709551616 a = x at *
    generalize digs 18446744073709551616 b = y at *
    have hi := wi_add1 y.length (by omega)
    have hi2 : y.length + 1 ≤ 1099511627776 := by omega
    have hi3 : y.length ≤ y.length + 1 := by omega
    simp (maxSteps := 1000000) only [go_sem, hi, hi2, hi3]
    have hyx : x.length ≤ y.length := by omega
    refine trX_loop HE hP.mix [29, 2, 1, 0] (fun q : Nat × List Nat × Nat => ⟨upd (upd (upd (upd (upd (upd (fun _ => .junk) 4 (.ref 2 0)) 8 (sv x)) 9 (.sl 29 0 (y.length + 1) 1)) 10 (.int .u64 (q.2.2 : Int))) 56 (.int .i64 ((y.length + 1 : Nat) : Int))) 57 (.int .i64 (q.1 : Int)), upd (upd (upd (upd (fun _ => .unused) 0 (.live [.int .u64 (a : Int), .nils])) 1 (.live [.int .u64 0, .imm y.length (List.map (fun d : Nat => AV.int .u64 (d : Int)) (y))])) 2 (.live [.int .u64 0, .nils])) 29 (.live (List.map (fun d : Nat => AV.int .u64 (d : Int)) (q.2.1))), 86⟩)
      (fun q => q.1 ≤ y.length + 1 ∧ q.2.1.length = y.length + 1 ∧ (∀ d ∈ q.2.1, d < 18446744073709551616) ∧ q.2.2 ≤ 1 ∧ dOf 18446744073709551616 q.2.1 + 18446744073709551616 ^ q.1 * q.2.2 = dOf 18446744073709551616 y + dOf 18446744073709551616 (x.take q.1)) (fun q => y.length + 1 - q.1) (0, y ++ [0], 0) 40
      (by repeat (first | exact Has.nil | refine Has.upd rfl ?_)) (Kept.of rfl (by repeat (first | exact KT.nil | refine KT.upd rfl (by first | rfl | exact hr | exact hr2 | (simp only [go_sem]; done)) ?_)) (KM.p (by repeat (first | exact KMp.nil | refine KMp.upd rfl (by first | rfl | (simp only [go_sem]; done)) ?_)))) ⟨by simp, by simp, by intro d hd; rcases List.mem_append.1 hd with hd | hd; exact (hyd d hd); simp at hd; omega, by simp, by simp [dOf_append, dOf]⟩ 86 (by kernel_rfl) ?_
    rintro ⟨k, z, c⟩ ⟨q1, q2, q3, q4, q5⟩
    simp only [] at q1 q2 q3 q4 q5
    have fin : dOf 18446744073709551616 z = a + b → CSpec P 70 [.imm z.length (List.map (fun d : Nat => AV.int .u64 (d : Int)) (z))] (.agg [.opq (.nat (a + b)), .pad]) := fun h => h ▸ cut_spec hP z q3 (by omega)
    have htk : z.take (y.length + 1) = z := List.take_of_length_le (by omega)
    have hsl : y.length + 1 < 4611686018427387904 := by omega
    have hz3 : (∀ d ∈ z, d < 18446744073709551616) = True := eq_true q3
    have hall := hyd
    by_cases hk : k < y.length + 1
    · have hkz : k < z.length := by omega
      have hzd := q3 _ (getD_mem hkz)
      have hw := wi_add1 k (by omega)
      have hset := dOf_set 18446744073709551616 z k
      by_cases hky : k < x.length
      · have e1 : x ≠ [] := by intro e; rw [e] at hky; simp at hky
        have hky' : k ≤ x.length := by omega
        simp (maxSteps := 1000000) only [go_sem, hk, hky, hky', hkz, gU hkz, gU' hky, q4, hzd, hw, sv_ia e1]
        have hs := hset (addl (z.getD k 0) (x.getD k 0) c) hkz
        have hst := add_step (18446744073709551616 ^ k) (z.getD k 0) (x.getD k 0) c _ _ _ q5 hs
        have hyk := hxd _ (getD_mem hky)
        refine ⟨(k + 1, z.set k (addl (z.getD k 0) (x.getD k 0) c), addh (z.getD k 0) (x.getD k 0) c), Kept.of rfl (by repeat (first | exact KT.nil | refine KT.upd rfl (by first | rfl | exact hr | exact hr2 | (simp only [go_sem]; done)) ?_)) (KM.p (by repeat (first | exact KMp.nil | refine KMp.upd rfl (by first | rfl | (simp only [go_sem]; done)) ?_))), ⟨by simp only []; omega, by simp only [List.length_set]; omega, ?_, addh_le hzd hyk q4, ?_⟩, by simp only []; omega⟩
        · intro d hd
          rcases List.mem_or_eq_of_mem_set hd with hd | rfl
          · exact q3 d hd
          · exact addl_lt _ _ _
        · simp only []
          rw [dOf_take_succ 18446744073709551616 x k hky, Nat.pow_succ]; exact hst
      · have htke : x.take k = x := List.take_of_length_le (by omega)
        have htke1 : x.take (k + 1) = x := List.take_of_length_le (by omega)
        by_cases hc : c = 0
        · have hc' : (c == 0) = true := by rw [hc]; rfl
          simp (maxSteps := 1000000) only [go_sem, hk, hky, hc', htk, q2, hz3, hsl]
          rw [hc, htke, hy, hx] at q5
          have e : dOf 18446744073709551616 z = a + b := by simp only [Nat.mul_zero, Nat.add_zero] at q5; omega
          rw [e]; exact .refl _
        · have hc' : (c == 0) = false := by simpa using hc
          simp (maxSteps := 1000000) only [go_sem, hk, hky, hc', hkz, gU hkz, q4, hzd, hw]
          have hs := hset (addl (z.getD k 0) 0 c) hkz
          have hst := add_step (18446744073709551616 ^ k) (z.getD k 0) 0 c _ _ _ q5 hs
          refine ⟨(k + 1, z.set k (addl (z.getD k 0) 0 c), addh (z.getD k 0) 0 c), Kept.of rfl (by repeat (first | exact KT.nil | refine KT.upd rfl (by first | rfl | exact hr | exact hr2 | (simp only [go_sem]; done)) ?_)) (KM.p (by repeat (first | exact KMp.nil | refine KMp.upd rfl (by first | rfl | (simp only [go_sem]; done)) ?_))), ⟨by simp only []; omega, by simp only [List.length_set]; omega, ?_, addh_le hzd (by decide) q4, ?_⟩, by simp only []; omega⟩
          · intro d hd
            rcases List.mem_or_eq_of_mem_set hd with hd | rfl
            · exact q3 d hd
            · exact addl_lt _ _ _
          · simp only []
            rw [htke] at hst
            rw [htke1, Nat.pow_succ]; exact hst
    · simp (maxSteps := 1000000) only [go_sem, hk, htk, q2, hz3, hsl]
      have hkn : k = y.length + 1 := by omega
      have htke : x.take k = x := List.take_of_length_le (by omega)
      rw [htke] at q5
      have l1 := dOf_lt 18446744073709551616 y hyd
      have l2 := dOf_lt 18446744073709551616 x hxd
      have l3 := Nat.pow_le_pow_right (by decide : 0 < 18446744073709551616) hyx
      have l4 : 18446744073709551616 ^ k = 18446744073709551616 ^ y.length * 18446744073709551616 := by rw [hkn, Nat.pow_succ]
      have hc : c = 0 := by
        rcases Nat.eq_zero_or_pos c with h | h
        · exact h
        · obtain rfl : c = 1 := by omega
          omega
      have e : dOf 18446744073709551616 z = a + b := by rw [hc, hy, hx] at q5; simp only [Nat.mul_zero, Nat.add_zero] at q5; omega
      rw [e]; exact .refl _
  · have hl := digs_length_gt 18446744073709551616 a 1 (by decide) (by omega)
    have hl2 : 2 ≤ (digs 18446744073709551616 a).length := by omega
    have hl3 : ((digs 18446744073709551616 a).length ≠ 0) = True := eq_true (by omega)
    by_cases h2 : b < 18446744073709551616
    · rw [natC_great h1, natC_small h2]
      have hl1 := digs_length_le 18446744073709551616 b 1 (by decide) (by omega)
      have hl' : ¬ (digs 18446744073709551616 a).length < (digs 18446744073709551616 b).length := by omega
      refine CSpec_vc (E := ⟨T0, Sb⟩) (fn42 hP) HE hP.mix rfl (by first | rfl | (simp only [go_sem]; done)) (by first | rfl | (simp only [go_sem]; done)) (Nat.le_of_ble_eq_true rfl) ?_
      simp (maxSteps := 1000000) only [go_sem, h2, hl', hl2, hl3]
      generalize digs 18446744073709551616 a = x at *
      generalize digs 18446744073709551616 b = y at *
      have hi := wi_add1 x.length (by omega)
      have hi2 : x.length + 1 ≤ 1099511627776 := by omega
      have hi3 : x.length ≤ x.length + 1 := by omega
      simp (maxSteps := 1000000) only [go_sem, hi, hi2, hi3]
      have hyx : y.length ≤ x.length := by omega
      refine trX_loop HE hP.mix [22, 2, 1, 0] (fun q : Nat × List Nat × Nat => ⟨upd (upd (upd (upd (upd (upd (fun _ => .junk) 4 (.ref 2 0)) 8 (sv y)) 9 (.sl 22 0 (x.length + 1) 1)) 10 (.int .u64 (q.2.2 : Int))) 56 (.int .i64 ((x.length + 1 : Nat) : Int))) 57 (.int .i64 (q.1 : Int)), upd (upd (upd (upd (fun _ => .unused) 0 (.live [.int .u64 0, .imm x.length (List.map (fun d : Nat => AV.int .u64 (d : Int)) (x))])) 1 (.live [.int .u64 (b : Int), .nils])) 2 (.live [.int .u64 0, .nils])) 22 (.live (List.map (fun d : Nat => AV.int .u64 (d : Int)) (q.2.1))), 86⟩)
        (fun q => q.1 ≤ x.length + 1 ∧ q.2.1.length = x.length + 1 ∧ (∀ d ∈ q.2.1, d < 18446744073709551616) ∧ q.2.2 ≤ 1 ∧ dOf 18446744073709551616 q.2.1 + 18446744073709551616 ^ q.1 * q.2.2 = dOf 18446744073709551616 x + dOf 18446744073709551616 (y.take q.1)) (fun q => x.length + 1 - q.1) (0, x ++ [0], 0) 40
        (by repeat (first | exact Has.nil | refine Has.upd rfl ?_)) (Kept.of rfl (by repeat (first | exact KT.nil | refine KT.upd rfl (by first | rfl | exact hr | exact hr2 | (simp only [go_sem]; done)) ?_)) (KM.p (by repeat (first | exact KMp.nil | refine KMp.upd rfl (by first | rfl | (simp only [go_sem]; done)) ?_)))) ⟨by simp, by simp, by intro d hd; rcases List.mem_append.1 hd with hd | hd; exact (hxd d hd); simp at hd; omega, by simp, by simp [dOf_append, dOf]⟩ 86 (by kernel_rfl) ?_
      rintro ⟨k, z, c⟩ ⟨q1, q2, q3, q4, q5⟩
      simp only [] at q1 q2 q3 q4 q5
      have fin : dOf 18446744073709551616 z = a + b → CSpec P 70 [.imm z.length (List.map (fun d : Nat => AV.int .u64 (d : Int)) (z))] (.agg [.opq (.nat (a + b)), .pad]) := fun h => h ▸ cut_spec hP z q3 (by omega)
      have htk : z.take (x.length + 1) = z := List.take_of_length_le (by omega)
      have hsl : x.length + 1 < 4611686018427387904 := by omega
      have hz3 : (∀ d ∈ z, d < 18446744073709551616) = True := eq_true q3
      have hall := hxd
      by_cases hk : k < x.length + 1
      · have hkz : k < z.length := by omega
        have hzd := q3 _ (getD_mem hkz)
        have hw := wi_add1 k (by omega)
        have hset := dOf_set 18446744073709551616 z k
        by_cases hky : k < y.length
        · have e1 : y ≠ [] := by intro e; rw [e] at hky; simp at hky
          have hky' : k ≤ y.length := by omega
          simp (maxSteps := 1000000) only [go_sem, hk, hky, hky', hkz, gU hkz, gU' hky, q4, hzd, hw, sv_ia e1]
          have hs := hset (addl (z.getD k 0) (y.getD k 0) c) hkz
          have hst := add_step (18446744073709551616 ^ k) (z.getD k 0) (y.getD k 0) c _ _ _ q5 hs
          have hyk := hyd _ (getD_mem hky)
          refine ⟨(k + 1, z.set k (addl (z.getD k 0) (y.getD k 0) c), addh (z.getD k 0) (y.getD k 0) c), Kept.of rfl (by repeat (first | exact KT.nil | refine KT.upd rfl (by first | rfl | exact hr | exact hr2 | (simp only [go_sem]; done)) ?_)) (KM.p (by repeat (first | exact KMp.nil | refine KMp.upd rfl (by first | rfl | (simp only [go_sem]; done)) ?_))), ⟨by simp only []; omega, by simp only [List.length_set]; omega, ?_, addh_le hzd hyk q4, ?_⟩, by simp only []; omega⟩
          · intro d hd
            rcases List.mem_or_eq_of_mem_set hd with hd | rfl
            · exact q3 d hd
            · exact addl_lt _ _ _
          · simp only []
            rw [dOf_take_succ 18446744073709551616 y k hky, Nat.pow_succ]; exact hst
        · have htke : y.take k = y := List.take_of_length_le (by omega)
          have htke1 : y.take (k + 1) = y := List.take_of_length_le (by omega)
          by_cases hc : c = 0
          · have hc' : (c == 0) = true := by rw [hc]; rfl
            simp (maxSteps := 1000000) only [go_sem, hk, hky, hc', htk, q2, hz3, hsl]
            rw [hc, htke, hx, hy] at q5
            have e : dOf 18446744073709551616 z = a + b := by simp only [Nat.mul_zero, Nat.add_zero] at q5; omega
            rw [e]; exact .refl _
          · have hc' : (c == 0) = false := by simpa using hc
            simp (maxSteps := 1000000) only [go_sem, hk, hky, hc', hkz, gU hkz, q4, hzd, hw]
            have hs := hset (addl (z.getD k 0) 0 c) hkz
            have hst := add_step (18446744073709551616 ^ k) (z.getD k 0) 0 c _ _ _ q5 hs
            refine ⟨(k + 1, z.set k (addl (z.getD k 0) 0 c), addh (z.getD k 0) 0 c), Kept.of rfl (by repeat (first | exact KT.nil | refine KT.upd rfl (by first | rfl | exact hr | exact hr2 | (simp only [go_sem]; done)) ?_)) (KM.p (by repeat (first | exact KMp.nil | refine KMp.upd rfl (by first | rfl | (simp only [go_sem]; done)) ?_))), ⟨by simp only []; omega, by simp only [List.length_set]; omega, ?_, addh_le hzd (by decide) q4, ?_⟩, by simp only []; omega⟩
            · intro d hd
              rcases List.mem_or_eq_of_mem_set hd with hd | rfl
              · exact q3 d hd
              · exact addl_lt _ _ _
            · simp only []
              rw [htke] at hst
              rw [htke1, Nat.pow_succ]; exact hst
      · simp (maxSteps := 1000000) only [go_sem, hk, htk, q2, hz3, hsl]
        have hkn : k = x.length + 1 := by omega
        have htke : y.take k = y := List.take_of_length_le (by omega)
        rw [htke] at q5
        have l1 := dOf_lt 18446744073709551616 x hxd
        have l2 := dOf_lt 18446744073709551616 y hyd
        have l3 := Nat.pow_le_pow_right (by decide : 0 < 18446744073709551616) hyx
        have l4 : 18446744073709551616 ^ k = 18446744073709551616 ^ x.length * 18446744073709551616 := by rw [hkn, Nat.pow_succ]
        have hc : c = 0 := by
          rcases Nat.eq_zero_or_pos c with h | h
          · exact h
          · obtain rfl : c = 1 := by omega
            omega
        have e : dOf 18446744073709551616 z = a + b := by rw [hc, hx, hy] at q5; simp only [Nat.mul_zero, Nat.add_zero] at q5; omega
        rw [e]; exact .refl _
    · rw [natC_great h1, natC_great h2]
      have hl4 := digs_length_gt 18446744073709551616 b 1 (by decide) (by omega)
      have hl5 : 2 ≤ (digs 18446744073709551616 b).length := by omega
      have hl6 : ((digs 18446744073709551616 b).length ≠ 0) = True := eq_true (by omega)
      by_cases hl' : (digs 18446744073709551616 a).length < (digs 18446744073709551616 b).length
      · refine CSpec_vc (E := ⟨T0, Sb⟩) (fn42 hP) HE hP.mix rfl (by first | rfl | (simp only [go_sem]; done)) (by first | rfl | (simp only [go_sem]; done)) (Nat.le_of_ble_eq_true rfl) ?_
        simp (maxSteps := 1000000) only [go_sem, hl', hl2, hl3, hl5, hl6]
        generalize digs 18446744073709551616 a = x at *
        generalize digs 18446744073709551616 b = y at *
        have hi := wi_add1 y.length (by omega)
        have hi2 : y.length + 1 ≤ 1099511627776 := by omega
        have hi3 : y.length ≤ y.length + 1 := by omega
        simp (maxSteps := 1000000) only [go_sem, hi, hi2, hi3]
        have hyx : x.length ≤ y.length := by omega
        refine trX_loop HE hP.mix [26, 2, 1, 0] (fun q : Nat × List Nat × Nat => ⟨upd (upd (upd (upd (upd (upd (fun _ => .junk) 4 (.ref 2 0)) 8 (sv x)) 9 (.sl 26 0 (y.length + 1) 1)) 10 (.int .u64 (q.2.2 : Int))) 56 (.int .i64 ((y.length + 1 : Nat) : Int))) 57 (.int .i64 (q.1 : Int)), upd (upd (upd (upd (fun _ => .unused) 0 (.live [.int .u64 0, .imm x.length (List.map (fun d : Nat => AV.int .u64 (d : Int)) (x))])) 1 (.live [.int .u64 0, .imm y.length (List.map (fun d : Nat => AV.int .u64 (d : Int)) (y))])) 2 (.live [.int .u64 0, .nils])) 26 (.live (List.map (fun d : Nat => AV.int .u64 (d : Int)) (q.2.1))), 86⟩)
          (fun q => q.1 ≤ y.length + 1 ∧ q.2.1.length = y.length + 1 ∧ (∀ d ∈ q.2.1, d < 18446744073709551616) ∧ q.2.2 ≤ 1 ∧ dOf 18446744073709551616 q.2.1 + 18446744073709551616 ^ q.1 * q.2.2 = dOf 18446744073709551616 y + dOf 18446744073709551616 (x.take q.1)) (fun q => y.length + 1 - q.1) (0, y ++ [0], 0) 40
          (by repeat (first | exact Has.nil | refine Has.upd rfl ?_)) (Kept.of rfl (by repeat (first | exact KT.nil | refine KT.upd rfl (by first | rfl | exact hr | exact hr2 | (simp only [go_sem]; done)) ?_)) (KM.p (by repeat (first | exact KMp.nil | refine KMp.upd rfl (by first | rfl | (simp only [go_sem]; done)) ?_)))) ⟨by simp, by simp, by intro d hd; rcases List.mem_append.1 hd with hd | hd; exact (hyd d hd); simp at hd; omega, by simp, by simp [dOf_append, dOf]⟩ 86 (by kernel_rfl) ?_
        rintro ⟨k, z, c⟩ ⟨q1, q2, q3, q4, q5⟩
        simp only [] at q1 q2 q3 q4 q5
        have fin : dOf 18446744073709551616 z = a + b → CSpec P 70 [.imm z.length (List.map (fun d : Nat => AV.int .u64 (d : Int)) (z))] (.agg [.opq (.nat (a + b)), .pad]) := fun h => h ▸ cut_spec hP z q3 (by omega)
        have htk : z.take (y.length + 1) = z := List.take_of_length_le (by omega)
        have hsl : y.length + 1 < 4611686018427387904 := by omega
        have hz3 : (∀ d ∈ z, d < 18446744073709551616) = True := eq_true q3
        have hall := hyd
        by_cases hk : k < y.length + 1
        · have hkz : k < z.length := by omega
          have hzd := q3 _ (getD_mem hkz)
          have hw := wi_add1 k (by omega)
          have hset := dOf_set 18446744073709551616 z k
          by_cases hky : k < x.length
          · have e1 : x ≠ [] := by intro e; rw [e] at hky; simp at hky
            have hky' : k ≤ x.length := by omega
            simp (maxSteps := 1000000) only [go_sem, hk, hky, hky', hkz, gU hkz, gU' hky, q4, hzd, hw, sv_ia e1]
            have hs := hset (addl (z.getD k 0) (x.getD k 0) c) hkz
            have hst := add_step (18446744073709551616 ^ k) (z.getD k 0) (x.getD k 0) c _ _ _ q5 hs
            have hyk := hxd _ (getD_mem hky)
            refine ⟨(k + 1, z.set k (addl (z.getD k 0) (x.getD k 0) c), addh (z.getD k 0) (x.getD k 0) c), Kept.of rfl (by repeat (first | exact KT.nil | refine KT.upd rfl (by first | rfl | exact hr | exact hr2 | (simp only [go_sem]; done)) ?_)) (KM.p (by repeat (first | exact KMp.nil | refine KMp.upd rfl (by first | rfl | (simp only [go_sem]; done)) ?_))), ⟨by simp only []; omega, by simp only [List.length_set]; omega, ?_, addh_le hzd hyk q4, ?_⟩, by simp only []; omega⟩
            · intro d hd
              rcases List.mem_or_eq_of_mem_set hd with hd | rfl
              · exact q3 d hd
              · exact addl_lt _ _ _
            · simp only []
              rw [dOf_take_succ 18446744073709551616 x k hky, Nat.pow_succ]; exact hst
          · have htke : x.take k = x := List.take_of_length_le (by omega)
            have htke1 : x.take (k + 1) = x := List.take_of_length_le (by omega)
            by_cases hc : c = 0
            · have hc' : (c == 0) = true := by rw [hc]; rfl
              simp (maxSteps := 1000000) only [go_sem, hk, hky, hc', htk, q2, hz3, hsl]
              rw [hc, htke, hy, hx] at q5
              have e : dOf 18446744073709551616 z = a + b := by simp only [Nat.mul_zero, Nat.add_zero] at q5; omega
              rw [e]; exact .refl _
            · have hc' : (c == 0) = false := by simpa using hc
              simp (maxSteps := 1000000) only [go_sem, hk, hky, hc', hkz, gU hkz, q4, hzd, hw]
              have hs := hset (addl (z.getD k 0) 0 c) hkz
              have hst := add_step (18446744073709551616 ^ k) (z.getD k 0) 0 c _ _ _ q5 hs
              refine ⟨(k + 1, z.set k (addl (z.getD k 0) 0 c), addh (z.getD k 0) 0 c), Kept.of rfl (by repeat (first | exact KT.nil | refine KT.upd rfl (by first | rfl | exact hr | exact hr2 | (simp only [go_sem]; done)) ?_)) (KM.p (by repeat (first | exact KMp.nil | refine KMp.upd rfl (by first | rfl | (simp only [go_sem]; done)) ?_))), ⟨by simp only []; omega, by simp only [List.length_set]; omega, ?_, addh_le hzd (by decide) q4, ?_⟩, by simp only []; omega⟩
              · intro d hd
                rcases List.mem_or_eq_of_mem_set hd with hd | rfl
                · exact q3 d hd
                · exact addl_lt _ _ _
              · simp only []
                rw [htke] at hst
                rw [htke1, Nat.pow_succ]; exact hst
        · simp (maxSteps := 1000000) only [go_sem, hk, htk, q2, hz3, hsl]
          have hkn : k = y.length + 1 := by omega
          have htke : x.take k = x := List.take_of_length_le (by omega)
          rw [htke] at q5
          have l1 := dOf_lt 18446744073709551616 y hyd
          have l2 := dOf_lt 18446744073709551616 x hxd
          have l3 := Nat.pow_le_pow_right (by decide : 0 < 18446744073709551616) hyx
          have l4 : 18446744073709551616 ^ k = 18446744073709551616 ^ y.length * 18446744073709551616 := by rw [hkn, Nat.pow_succ]
          have hc : c = 0 := by
            rcases Nat.eq_zero_or_pos c with h | h
            · exact h
            · obtain rfl : c = 1 := by omega
              omega
          have e : dOf 18446744073709551616 z = a + b := by rw [hc, hy, hx] at q5; simp only [Nat.mul_zero, Nat.add_zero] at q5; omega
          rw [e]; exact .refl _
      · refine CSpec_vc (E := ⟨T0, Sb⟩) (fn42 hP) HE hP.mix rfl (by first | rfl | (simp only [go_sem]; done)) (by first | rfl | (simp only [go_sem]; done)) (Nat.le_of_ble_eq_true rfl) ?_
        simp (maxSteps := 1000000) only [go_sem, hl', hl2, hl3, hl5, hl6]
        generalize digs 18446744073709551616 a = x at *
        generalize digs 18446744073709551616 b = y at *
        have hi := wi_add1 x.length (by omega)
        have hi2 : x.length + 1 ≤ 1099511627776 := by omega
        have hi3 : x.length ≤ x.length + 1 := by omega
        simp (maxSteps := 1000000) only [go_sem, hi, hi2, hi3]
        have hyx : y.length ≤ x.length := by omega
        refine trX_loop HE hP.mix [22, 2, 1, 0] (fun q : Nat × List Nat × Nat => ⟨upd (upd (upd (upd (upd (upd (fun _ => .junk) 4 (.ref 2 0)) 8 (sv y)) 9 (.sl 22 0 (x.length + 1) 1)) 10 (.int .u64 (q.2.2 : Int))) 56 (.int .i64 ((x.length + 1 : Nat) : Int))) 57 (.int .i64 (q.1 : Int)), upd (upd (upd (upd (fun _ => .unused) 0 (.live [.int .u64 0, .imm x.length (List.map (fun d : Nat => AV.int .u64 (d : Int)) (x))])) 1 (.live [.int .u64 0, .imm y.length (List.map (fun d : Nat => AV.int .u64 (d : Int)) (y))])) 2 (.live [.int .u64 0, .nils])) 22 (.live (List.map (fun d : Nat => AV.int .u64 (d : Int)) (q.2.1))), 86⟩)
          (fun q => q.1 ≤ x.length + 1 ∧ q.2.1.length = x.length + 1 ∧ (∀ d ∈ q.2.1, d < 18446744073709551616) ∧ q.2.2 ≤ 1 ∧ dOf 18446744073709551616 q.2.1 + 18446744073709551616 ^ q.1 * q.2.2 = dOf 18446744073709551616 x + dOf 18446744073709551616 (y.take q.1)) (fun q => x.length + 1 - q.1) (0, x ++ [0], 0) 40
          (by repeat (first | exact Has.nil | refine Has.upd rfl ?_)) (Kept.of rfl (by repeat (first | exact KT.nil | refine KT.upd rfl (by first | rfl | exact hr | exact hr2 | (simp only [go_sem]; done)) ?_)) (KM.p (by repeat (first | exact KMp.nil | refine KMp.upd rfl (by first | rfl | (simp only [go_sem]; done)) ?_)))) ⟨by simp, by simp, by intro d hd; rcases List.mem_append.1 hd with hd | hd; exact (hxd d hd); simp at hd; omega, by simp, by simp [dOf_append, dOf]⟩ 86 (by kernel_rfl) ?_
        rintro ⟨k, z, c⟩ ⟨q1, q2, q3, q4, q5⟩
        simp only [] at q1 q2 q3 q4 q5
        have fin : dOf 18446744073709551616 z = a + b → CSpec P 70 [.imm z.length (List.map (fun d : Nat => AV.int .u64 (d : Int)) (z))] (.agg [.opq (.nat (a + b)), .pad]) := fun h => h ▸ cut_spec hP z q3 (by omega)
        have htk : z.take (x.length + 1) = z := List.take_of_length_le (by omega)
        have hsl : x.length + 1 < 4611686018427387904 := by omega
        have hz3 : (∀ d ∈ z, d < 18446744073709551616) = True := eq_true q3
        have hall := hxd
        by_cases hk : k < x.length + 1
        · have hkz : k < z.length := by omega
          have hzd := q3 _ (getD_mem hkz)
          have hw := wi_add1 k (by omega)
          have hset := dOf_set 18446744073709551616 z k
          by_cases hky : k < y.length
          · have e1 : y ≠ [] := by intro e; rw [e] at hky; simp at hky
            have hky' : k ≤ y.length := by omega
            simp (maxSteps := 1000000) only [go_sem, hk, hky, hky', hkz, gU hkz, gU' hky, q4, hzd, hw, sv_ia e1]
            have hs := hset (addl (z.getD k 0) (y.getD k 0) c) hkz
            have hst := add_step (18446744073709551616 ^ k) (z.getD k 0) (y.getD k 0) c _ _ _ q5 hs
            have hyk := hyd _ (getD_mem hky)
            refine ⟨(k + 1, z.set k (addl (z.getD k 0) (y.getD k 0) c), addh (z.getD k 0) (y.getD k 0) c), Kept.of rfl (by repeat (first | exact KT.nil | refine KT.upd rfl (by first | rfl | exact hr | exact hr2 | (simp only [go_sem]; done)) ?_)) (KM.p (by repeat (first | exact KMp.nil | refine KMp.upd rfl (by first | rfl | (simp only [go_sem]; done)) ?_))), ⟨by simp only []; omega, by simp only [List.length_set]; omega, ?_, addh_le hzd hyk q4, ?_⟩, by simp only []; omega⟩
            · intro d hd
              rcases List.mem_or_eq_of_mem_set hd with hd | rfl
              · exact q3 d hd
              · exact addl_lt _ _ _
            · simp only []
              rw [dOf_take_succ 18446744073709551616 y k hky, Nat.pow_succ]; exact hst
          · have htke : y.take k = y := List.take_of_length_le (by omega)
            have htke1 : y.take (k + 1) = y := List.take_of_length_le (by omega)
            by_cases hc : c = 0
            · have hc' : (c == 0) = true := by rw [hc]; rfl
              simp (maxSteps := 1000000) only [go_sem, hk, hky, hc', htk, q2, hz3, hsl]
              rw [hc, htke, hx, hy] at q5
              have e : dOf 18446744073709551616 z = a + b := by simp only [Nat.mul_zero, Nat.add_zero] at q5; omega
              rw [e]; exact .refl _
            · have hc' : (c == 0) = false := by simpa using hc
              simp (maxSteps := 1000000) only [go_sem, hk, hky, hc', hkz, gU hkz, q4, hzd, hw]
              have hs := hset (addl (z.getD k 0) 0 c) hkz
              have hst := add_step (18446744073709551616 ^ k) (z.getD k 0) 0 c _ _ _ q5 hs
              refine ⟨(k + 1, z.set k (addl (z.getD k 0) 0 c), addh (z.getD k 0) 0 c), Kept.of rfl (by repeat (first | exact KT.nil | refine KT.upd rfl (by first | rfl | exact hr | exact hr2 | (simp only [go_sem]; done)) ?_)) (KM.p (by repeat (first | exact KMp.nil | refine KMp.upd rfl (by first | rfl | (simp only [go_sem]; done)) ?_))), ⟨by simp only []; omega, by simp only [List.length_set]; omega, ?_, addh_le hzd (by decide) q4, ?_⟩, by simp only []; omega⟩
              · intro d hd
                rcases List.mem_or_eq_of_mem_set hd with hd | rfl
                · exact q3 d hd
                · exact addl_lt _ _ _
              · simp only []
                rw [htke] at hst
                rw [htke1, Nat.pow_succ]; exact hst
        · simp (maxSteps := 1000000) only [go_sem, hk, htk, q2, hz3, hsl]
          have hkn : k = x.length + 1 := by omega
          have htke : y.take k = y := List.take_of_length_le (by omega)
          rw [htke] at q5
          have l1 := dOf_lt 18446744073709551616 x hxd
          have l2 := dOf_lt 18446744073709551616 y hyd
          have l3 := Nat.pow_le_pow_right (by decide : 0 < 18446744073709551616) hyx
          have l4 : 18446744073709551616 ^ k = 18446744073709551616 ^ x.length * 18446744073709551616 := by rw [hkn, Nat.pow_succ]
          have hc : c = 0 := by
            rcases Nat.eq_zero_or_pos c with h | h
            · exact h
            · obtain rfl : c = 1 := by omega
              omega
          have e : dOf 18446744073709551616 z = a + b := by rw [hc, hx, hy] at q5; simp only [Nat.mul_zero, Nat.add_zero] at q5; omega
          rw [e]; exact .refl _

theorem Add_spec (hP : PrgOk P) (a b : Nat) (ha : blen a ≤ 68719476736) (hb : blen b ≤ 68719476736) : CSpec P 42 [(.agg [.opq (.nat (a)), .pad]), (.agg [.opq (.nat (b)), .pad])] (.agg [.opq (.nat (a + b)), .pad]) := by
  refine CSpec.cv ?_ (CvL.natIn a (CvL.natIn b .nil))
  by_cases h : a < 18446744073709551616 ∧ b < 18446744073709551616
  · rw [natC_small h.1, natC_small h.2]; exact Add_small hP a b h.1 h.2
  · exact Add_great hP a b ha hb h
def AddS : List AV → Option (Prop × AV) := on2 fun a b => (blen a ≤ 68719476736 ∧ blen b ≤ 68719476736, (.agg [.opq (.nat (a + b)), .pad]))
theorem AddS_ok (hP : PrgOk P) (args p r) : AddS args = some (p, r) → p → CSpec P 42 args r := on2_ok (fun a b h => by exact Add_spec hP a b h.1 h.2) args p r
attribute [go_sem] AddS
end Go.Proofs.YtjnhekedclcbfaaDoor.AM
/- Package nat: differences. -/
namespace Go.Proofs.YtjnhekedclcbfaaDoor.AM
set_option linter.all false
set_option autoImplicit true
set_option relaxedAutoImplicit true
open Go Go.Proofs
set_option maxRecDepth 100000
set_option maxHeartbeats 8000000
set_option linter.unusedSimpArgs false
variable {P : Program}

theorem Sub_less (hP : PrgOk P) (a b : Nat) (ha : blen a ≤ 68719476736) (hb : blen b ≤ 68719476736) (h : a < b) : CSpec P 51 [(.agg [.opq (.nat (a)), .pad]), (.agg [.opq (.nat (b)), .pad])] (.tup [(.agg [.opq (.nat (0)), .pad]), .int .i64 10]) := by
  have HE := Sb_ok hP
  refine CSpec_vc (E := ⟨T0, Sb⟩) (fn51 hP) HE hP.mix rfl (by first | rfl | (simp only [go_sem]; done)) (by first | rfl | (simp only [go_sem]; done)) (Nat.le_of_ble_eq_true rfl) ?_
  have hc : decide (cmpI a b < 0) = true := by rw [cmpI_lt h]; rfl
  simp (maxSteps := 1000000) only [go_sem, ha, hb, hc]
  exact CvL.conv (CvL.tup (by have := CvL.natOut 0 (xs := [.int .i64 10]) (CvL.refl _); rw [natC_small (by decide)] at this; exact this) .nil)

theorem Sub_ok (hP : PrgOk P) (a b : Nat) (ha : blen a ≤ 68719476736) (hb : blen b ≤ 68719476736) (h : b ≤ a) : CSpec P 51 [(.agg [.opq (.nat (a)), .pad]), (.agg [.opq (.nat (b)), .pad])] (.tup [(.agg [.opq (.nat (a - b)), .pad]), .int .i64 0]) := by
  have HE := Sb_ok hP
  have hc : decide (cmpI a b < 0) = false := by
    rcases Nat.lt_or_ge b a with h' | h'
    · rw [cmpI_gt h']; rfl
    · rw [Nat.le_antisymm h h', cmpI_eq]; rfl
  refine CSpec.cv ?_ (CvL.natIn a (CvL.natIn b .nil))
  by_cases h1 : a < 18446744073709551616
  · have h2 : b < 18446744073709551616 := by omega
    rw [natC_small h1, natC_small h2]
    have hs := wu_sub a b h h1
    refine CSpec_vc (E := ⟨T0, Sb⟩) (fn51 hP) HE hP.mix rfl (by first | rfl | (simp only [go_sem]; done)) (by first | rfl | (simp only [go_sem]; done)) (Nat.le_of_ble_eq_true rfl) ?_
    simp (maxSteps := 1000000) only [go_sem, ha, hb, hc, h1, h2, hs]
    exact CvL.conv (CvL.tup (by have := CvL.natOut (a - b) (xs := [.int .i64 0]) (CvL.refl _); rw [natC_small (by omega)] at this; exact this) .nil)
  · rw [natC_great h1]
    have hxd : ∀ d ∈ digs 18446744073709551616 a, d < 18446744073709551616 := digs_lt 18446744073709551616 a (by decide)
    have hyd : ∀ d ∈ digs 18446744073709551616 b, d < 18446744073709551616 := digs_lt 18446744073709551616 b (by decide)
    have hx := dOf_digs 18446744073709551616 a (by decide)
    have hy := dOf_digs 18446744073709551616 b (by decide)
    have hlx := digs_len_blen a
    have hgt := digs_len_lt 18446744073709551616 a b (by decide)
    have hyx : (digs 18446744073709551616 b).length ≤ (digs 18446744073709551616 a).length := by omega
    have hl := digs_length_gt 18446744073709551616 a 1 (by decide) (by omega)
    have hl2 : 2 ≤ (digs 18446744073709551616 a).length := by omega
    have hl3 : ((digs 18446744073709551616 a).length ≠ 0) = True := eq_true (by omega)
    have hl4 : (digs 18446744073709551616 a).length ≤ 1099511627776 := by omega
    by_cases h2 : b < 18446744073709551616
    · rw [natC_small h2]
      refine CSpec_vc (E := ⟨T0, Sb⟩) (fn51 hP) HE hP.mix rfl (by first | rfl | (simp only [go_sem]; done)) (by first | rfl | (simp only [go_sem]; done)) (Nat.le_of_ble_eq_true rfl) ?_
      simp (maxSteps := 1000000) only [go_sem, ha, hb, hc, h2, hl2, hl3, hl4]
      generalize digs 18446744073709551616 a = x at *
      generalize digs 18446744073709551616 b = y at *
      refine trX_loop HE hP.mix [14, 2, 1, 0] (fun q : Nat × List Nat × Nat => ⟨upd (upd (upd (upd (upd (upd (fun _ => .junk) 4 (.ref 2 0)) 7 (sv y)) 6 (.sl 14 0 x.length 1)) 8 (.int .u64 (q.2.2 : Int))) 36 (.int .i64 (x.length : Int))) 37 (.int .i64 (q.1 : Int)), upd (upd (upd (upd (fun _ => .unused) 0 (.live [.int .u64 0, .imm x.length (List.map (fun d : Nat => AV.int .u64 (d : Int)) (x))])) 1 (.live [.int .u64 (b : Int), .nils])) 2 (.live [.int .u64 0, .nils])) 14 (.live (List.map (fun d : Nat => AV.int .u64 (d : Int)) (q.2.1))), 66⟩)
        (fun q => q.1 ≤ x.length ∧ q.2.1.length = x.length ∧ (∀ d ∈ q.2.1, d < 18446744073709551616) ∧ q.2.2 ≤ 1 ∧ dOf 18446744073709551616 q.2.1 + dOf 18446744073709551616 (y.take q.1) = dOf 18446744073709551616 x + 18446744073709551616 ^ q.1 * q.2.2) (fun q => x.length - q.1) (0, x, 0) 40
        (by repeat (first | exact Has.nil | refine Has.upd rfl ?_)) (Kept.of rfl (by repeat (first | exact KT.nil | refine KT.upd rfl (by first | rfl | exact hr | exact hr2 | (simp only [go_sem]; done)) ?_)) (KM.p (by repeat (first | exact KMp.nil | refine KMp.upd rfl (by first | rfl | (simp only [go_sem]; done)) ?_)))) ⟨by simp, by simp, hxd, by simp, by simp [dOf]⟩ 66 (by kernel_rfl) ?_
      rintro ⟨k, z, c⟩ ⟨q1, q2, q3, q4, q5⟩
      simp only [] at q1 q2 q3 q4 q5
      have htk : z.take x.length = z := List.take_of_length_le (by omega)
      have hsl : x.length < 4611686018427387904 := by omega
      have hz3 : (∀ d ∈ z, d < 18446744073709551616) = True := eq_true q3
      by_cases hk : k < x.length
      · have hkz : k < z.length := by omega
        have hzd := q3 _ (getD_mem hkz)
        have hw := wi_add1 k (by omega)
        have hset := dOf_set 18446744073709551616 z k
        by_cases hky : k < y.length
        · have e1 : y ≠ [] := by intro e; rw [e] at hky; simp at hky
          have hky' : k ≤ y.length := by omega
          have hyk := hyd _ (getD_mem hky)
          simp (maxSteps := 1000000) only [go_sem, hk, hky, hky', hkz, gU hkz, gU' hky, q4, hzd, hw, sv_ia e1]
          have hs := hset (subd (z.getD k 0) (y.getD k 0) c) hkz
          have hst := sub_step (18446744073709551616 ^ k) (z.getD k 0) (y.getD k 0) c _ _ _ hzd hyk q4 q5 hs
          refine ⟨(k + 1, z.set k (subd (z.getD k 0) (y.getD k 0) c), bor (z.getD k 0) (y.getD k 0) c), Kept.of rfl (by repeat (first | exact KT.nil | refine KT.upd rfl (by first | rfl | exact hr | exact hr2 | (simp only [go_sem]; done)) ?_)) (KM.p (by repeat (first | exact KMp.nil | refine KMp.upd rfl (by first | rfl | (simp only [go_sem]; done)) ?_))), ⟨by simp only []; omega, by simp only [List.length_set]; omega, ?_, bor_le _ _ _, ?_⟩, by simp only []; omega⟩
          · intro d hd
            rcases List.mem_or_eq_of_mem_set hd with hd | rfl
            · exact q3 d hd
            · exact subd_lt _ _ _
          · simp only []
            rw [dOf_take_succ 18446744073709551616 y k hky, Nat.pow_succ]; exact hst
        · have htke : y.take k = y := List.take_of_length_le (by omega)
          have htke1 : y.take (k + 1) = y := List.take_of_length_le (by omega)
          by_cases hc0 : c = 0
          · have hc' : (c == 0) = true := by rw [hc0]; rfl
            simp (maxSteps := 1000000) only [go_sem, hk, hky, hc', htk, q2, hz3, hsl]
            rw [hc0, htke, hx, hy] at q5
            have e : dOf 18446744073709551616 z = a - b := by simp only [Nat.mul_zero, Nat.add_zero] at q5; omega
            rw [e]; exact .refl _
          · have hc' : (c == 0) = false := by simpa using hc0
            simp (maxSteps := 1000000) only [go_sem, hk, hky, hc', hkz, gU hkz, q4, hzd, hw]
            have hs := hset (subd (z.getD k 0) 0 c) hkz
            have hst := sub_step (18446744073709551616 ^ k) (z.getD k 0) 0 c _ _ _ hzd (by decide) q4 q5 hs
            refine ⟨(k + 1, z.set k (subd (z.getD k 0) 0 c), bor (z.getD k 0) 0 c), Kept.of rfl (by repeat (first | exact KT.nil | refine KT.upd rfl (by first | rfl | exact hr | exact hr2 | (simp only [go_sem]; done)) ?_)) (KM.p (by repeat (first | exact KMp.nil | refine KMp.upd rfl (by first | rfl | (simp only [go_sem]; done)) ?_))), ⟨by simp only []; omega, by simp only [List.length_set]; omega, ?_, bor_le _ _ _, ?_⟩, by simp only []; omega⟩
            · intro d hd
              rcases List.mem_or_eq_of_mem_set hd with hd | rfl
              · exact q3 d hd
              · exact subd_lt _ _ _
            · simp only []
              rw [htke] at hst
              rw [htke1, Nat.pow_succ]; exact hst
      · simp (maxSteps := 1000000) only [go_sem, hk, htk, q2, hz3, hsl]
        have hkn : k = x.length := by omega
        have htke : y.take k = y := List.take_of_length_le (by omega)
        rw [htke] at q5
        have l1 := dOf_lt 18446744073709551616 z q3
        rw [q2, ← hkn] at l1
        have hc0 : c = 0 := by
          rcases Nat.eq_zero_or_pos c with h | h
          · exact h
          · obtain rfl : c = 1 := by omega
            omega
        have e : dOf 18446744073709551616 z = a - b := by rw [hc0, hx, hy] at q5; simp only [Nat.mul_zero, Nat.add_zero] at q5; omega
        rw [e]; exact .refl _
    · rw [natC_great h2]
      have hl4' := digs_length_gt 18446744073709551616 b 1 (by decide) (by omega)
      have hl5 : 2 ≤ (digs 18446744073709551616 b).length := by omega
      have hl6 : ((digs 18446744073709551616 b).length ≠ 0) = True := eq_true (by omega)
      refine CSpec_vc (E := ⟨T0, Sb⟩) (fn51 hP) HE hP.mix rfl (by first | rfl | (simp only [go_sem]; done)) (by first | rfl | (simp only [go_sem]; done)) (Nat.le_of_ble_eq_true rfl) ?_
      simp (maxSteps := 1000000) only [go_sem, ha, hb, hc, hl2, hl3, hl4, hl5, hl6]
      generalize digs 18446744073709551616 a = x at *
      generalize digs 18446744073709551616 b = y at *
      refine trX_loop HE hP.mix [14, 2, 1, 0] (fun q : Nat × List Nat × Nat => ⟨upd (upd (upd (upd (upd (upd (fun _ => .junk) 4 (.ref 2 0)) 7 (sv y)) 6 (.sl 14 0 x.length 1)) 8 (.int .u64 (q.2.2 : Int))) 36 (.int .i64 (x.length : Int))) 37 (.int .i64 (q.1 : Int)), upd (upd (upd (upd (fun _ => .unused) 0 (.live [.int .u64 0, .imm x.length (List.map (fun d : Nat => AV.int .u64 (d : Int)) (x))])) 1 (.live [.int .u64 0, .imm y.length (List.map (fun d : Nat => AV.int .u64 (d : Int)) (y))])) 2 (.live [.int .u64 0, .nils])) 14 (.live (List.map (fun d : Nat => AV.int .u64 (d : Int)) (q.2.1))), 66⟩)
        (fun q => q.1 ≤ x.length ∧ q.2.1.length = x.length ∧ (∀ d ∈ q.2.1, d < 18446744073709551616) ∧ q.2.2 ≤ 1 ∧ dOf 18446744073709551616 q.2.1 + dOf 18446744073709551616 (y.take q.1) = dOf 18446744073709551616 x + 18446744073709551616 ^ q.1 * q.2.2) (fun q => x.length - q.1) (0, x, 0) 40
        (by repeat (first | exact Has.nil | refine Has.upd rfl ?_)) (Kept.of rfl (by repeat (first | exact KT.nil | refine KT.upd rfl (by first | rfl | exact hr | exact hr2 | (simp only [go_sem]; done)) ?_)) (KM.p (by repeat (first | exact KMp.nil | refine KMp.upd rfl (by first | rfl | (simp only [go_sem]; done)) ?_)))) ⟨by simp, by simp, hxd, by simp, by simp [dOf]⟩ 66 (by kernel_rfl) ?_
      rintro ⟨k, z, c⟩ ⟨q1, q2, q3, q4, q5⟩
      simp only [] at q1 q2 q3 q4 q5
      have htk : z.take x.length = z := List.take_of_length_le (by omega)
      have hsl : x.length < 4611686018427387904 := by omega
      have hz3 : (∀ d ∈ z, d < 18446744073709551616) = True := eq_true q3
      by_cases hk : k < x.length
      · have hkz : k < z.length := by omega
        have hzd := q3 _ (getD_mem hkz)
        have hw := wi_add1 k (by omega)
        have hset := dOf_set 18446744073709551616 z k
        by_cases hky : k < y.length
        · have e1 : y ≠ [] := by intro e; rw [e] at hky; simp at hky
          have hky' : k ≤ y.length := by omega
          have hyk := hyd _ (getD_mem hky)
          simp (maxSteps := 1000000) only [go_sem, hk, hky, hky', hkz, gU hkz, gU' hky, q4, hzd, hw, sv_ia e1]
          have hs := hset (subd (z.getD k 0) (y.getD k 0) c) hkz
          have hst := sub_step (18446744073709551616 ^ k) (z.getD k 0) (y.getD k 0) c _ _ _ hzd hyk q4 q5 hs
          refine ⟨(k + 1, z.set k (subd (z.getD k 0) (y.getD k 0) c), bor (z.getD k 0) (y.getD k 0) c), Kept.of rfl (by repeat (first | exact KT.nil | refine KT.upd rfl (by first | rfl | exact hr | exact hr2 | (simp only [go_sem]; done)) ?_)) (KM.p (by repeat (first | exact KMp.nil | refine KMp.upd rfl (by first | rfl | (simp only [go_sem]; done)) ?_))), ⟨by simp only []; omega, by simp only [List.length_set]; omega, ?_, bor_le _ _ _, ?_⟩, by simp only []; omega⟩
          · intro d hd
            rcases List.mem_or_eq_of_mem_set hd with hd | rfl
            · exact q3 d hd
            · exact subd_lt _ _ _
          · simp only []
            rw [dOf_take_succ 18446744073709551616 y k hky, Nat.pow_succ]; exact hst
        · have htke : y.take k = y := List.take_of_length_le (by omega)
          have htke1 : y.take (k + 1) = y := List.take_of_length_le (by omega)
          by_cases hc0 : c = 0
          · have hc' : (c == 0) = true := by rw [hc0]; rfl
            simp (maxSteps := 1000000) only [go_sem, hk, hky, hc', htk, q2, hz3, hsl]
            rw [hc0, htke, hx, hy] at q5
            have e : dOf 18446744073709551616 z = a - b := by simp only [Nat.mul_zero, Nat.add_zero] at q5; omega
            rw [e]; exact .refl _
          · have hc' : (c == 0) = false := by simpa using hc0
            simp (maxSteps := 1000000) only [go_sem, hk, hky, hc', hkz, gU hkz, q4, hzd, hw]
            have hs := hset (subd (z.getD k 0) 0 c) hkz
            have hst := sub_step (18446744073709551616 ^ k) (z.getD k 0) 0 c _ _ _ hzd (by decide) q4 q5 hs
            refine ⟨(k + 1, z.set k (subd (z.getD k 0) 0 c), bor (z.getD k 0) 0 c), Kept.of rfl (by repeat (first | exact KT.nil | refine KT.upd rfl (by first | rfl | exact hr | exact hr2 | (simp only [go_sem]; done)) ?_)) (KM.p (by repeat (first | exact KMp.nil | refine KMp.upd rfl (by first | rfl | (simp only [go_sem]; done)) ?_))), ⟨by simp only []; omega, by simp only [List.length_set]; omega, ?_, bor_le _ _ _, ?_⟩, by simp only []; omega⟩
            · intro d hd
              rcases List.mem_or_eq_of_mem_set hd with hd | rfl
              · exact q3 d hd
              · exact subd_lt _ _ _
            · simp only []
              rw [htke] at hst
              rw [htke1, Nat.pow_succ]; exact hst
      · simp (maxSteps := 1000000) only [go_sem, hk, htk, q2, hz3, hsl]
        have hkn : k = x.length := by omega
        have htke : y.take k = y := List.take_of_length_le (by omega)
        rw [htke] at q5
        have l1 := dOf_lt 18446744073709551616 z q3
        rw [q2, ← hkn] at l1
        have hc0 : c = 0 := by
          rcases Nat.eq_zero_or_pos c with h | h
          · exact h
          · obtain rfl : c = 1 := by omega
            omega
        have e : dOf 18446744073709551616 z = a - b := by rw [hc0, hx, hy] at q5; simp only [Nat.mul_zero, Nat.add_zero] at q5; omega
        rw [e]; exact .refl _
def SubS : List AV → Option (Prop × AV) := on2 fun a b => (blen a ≤ 68719476736 ∧ blen b ≤ 68719476736, if a < b then .tup [(.agg [.opq (.nat (0)), .pad]), .int .i64 10] else .tup [(.agg [.opq (.nat (a - b)), .pad]), .int .i64 0])
theorem SubS_ok (hP : PrgOk P) (args p r) : SubS args = some (p, r) → p → CSpec P 51 args r := on2_ok (fun a b h => by
  by_cases hlt : a < b
  · simp only [if_pos hlt]; exact Sub_less hP a b h.1 h.2 hlt
  · simp only [if_neg hlt]; exact Sub_ok hP a b h.1 h.2 (by omega)) args p r
attribute [go_sem] SubS
end Go.Proofs.YtjnhekedclcbfaaDoor.AM
/- Package nat: products. -/
namespace Go.Proofs.YtjnhekedclcbfaaDoor.AM
set_option linter.all false
set_option autoImplicit true
set_option relaxedAutoImplicit true
open Go Go.Proofs
set_option maxRecDepth 100000
set_option maxHeartbeats 8000000
set_option linter.unusedSimpArgs false
variable {P : Program}

theorem Mul_small (hP : PrgOk P) (a b : Nat) (ha : a < 18446744073709551616) (hb : b < 18446744073709551616) : CSpec P 55 [.agg [.int .u64 (a : Int), .nils], .agg [.int .u64 (b : Int), .nils]] (.agg [.opq (.nat (a * b)), .pad]) := by
  have HE := Sb_ok hP
  refine CSpec_vc (E := ⟨T0, Sb⟩) (fn55 hP) HE hP.mix rfl (by first | rfl | (simp only [go_sem]; done)) (by first | rfl | (simp only [go_sem]; done)) (Nat.le_of_ble_eq_true rfl) ?_
  simp (maxSteps := 1000000) only [go_sem, ha, hb]
  have h2 := mul_all a b
  have h3 := mull_lt a b
  have h4 := mulh_lt ha hb
  refine if_split (fun h => ?_) (fun h => ?_)
  · simp (maxSteps := 1000000) only [go_sem]
    have h := eq_of_beq h
    have e : mull a b = a * b := by rw [h] at h2; omega
    rw [e]; exact Conv.nat1 (by omega)
  · simp (maxSteps := 1000000) only [go_sem]
    have h : mulh a b ≠ 0 := by simpa using h
    have e : dOf 18446744073709551616 [mull a b, mulh a b] = a * b := by simp only [dOf]; omega
    have := Conv.natL (l := [mull a b, mulh a b]) (n := 2) ?_ ?_ (by simp) rfl
    · rw [e] at this; exact this
    · intro d hd
      simp only [List.mem_cons, List.not_mem_nil, or_false] at hd
      rcases hd with rfl | rfl <;> omega
    · intro _; simpa using h

theorem Mul_great (hP : PrgOk P) (a b : Nat) (ha : blen a ≤ 68719476736) (hb : blen b ≤ 68719476736) (hg : ¬ (a < 18446744073709551616 ∧ b < 18446744073709551616)) : CSpec P 55 [.agg (natC a), .agg (natC b)] (.agg [.opq (.nat (a * b)), .pad]) := by
  have HE := Sb_ok hP
  have hxd : ∀ d ∈ digs 18446744073709551616 a, d < 18446744073709551616 := digs_lt 18446744073709551616 a (by decide)
  have hyd : ∀ d ∈ digs 18446744073709551616 b, d < 18446744073709551616 := digs_lt 18446744073709551616 b (by decide)
  have hx := dOf_digs 18446744073709551616 a (by decide)
  have hy := dOf_digs 18446744073709551616 b (by decide)
  have hlx := digs_len_blen a
  have hly := digs_len_blen b
  by_cases h1 : a < 18446744073709551616
  · rw [natC_small h1, natC_great (by omega)]
    have hl := digs_length_gt 18446744073709551616 b 1 (by decide) (by omega)
    have hl2 : 2 ≤ (digs 18446744073709551616 b).length := by omega
    have hl3 : ((digs 18446744073709551616 b).length ≠ 0) = True := eq_true (by omega)
    refine CSpec_vc (E := ⟨T0, Sb⟩) (fn55 hP) HE hP.mix rfl (by first | rfl | (simp only [go_sem]; done)) (by first | rfl | (simp only [go_sem]; done)) (Nat.le_of_ble_eq_true rfl) ?_
    simp (maxSteps := 1000000) only [go_sem, h1, hl2, hl3]
    generalize digs 18446744073709551616 a = x at *
    generalize digs 18446744073709551616 b = y at *
    have hi := wi_add x.length y.length (by omega)
    have hi2 : x.length + y.length ≤ 1099511627776 := by omega
    simp (maxSteps := 1000000) only [go_sem, hi, hi2]
    refine trX_loop HE hP.mix [22, 2, 1, 0] (fun q : Nat × List Nat => ⟨upd (upd (upd (upd (upd (upd (fun _ => .junk) 4 (.ref 2 0)) 7 (sv x)) 8 (sv y)) 9 (.sl 22 0 (x.length + y.length) 1)) 51 (.int .i64 (x.length : Int))) 52 (.int .i64 (q.1 : Int)), upd (upd (upd (upd (fun _ => .unused) 0 (.live [.int .u64 (a : Int), .nils])) 1 (.live [.int .u64 0, .imm y.length (List.map (fun d : Nat => AV.int .u64 (d : Int)) (y))])) 2 (.live [.int .u64 0, .nils])) 22 (.live (List.map (fun d : Nat => AV.int .u64 (d : Int)) (q.2))), 111⟩)
      (fun q => q.1 ≤ x.length ∧ q.2.length = x.length + y.length ∧ (∀ d ∈ q.2, d < 18446744073709551616) ∧ (∀ j, q.1 + y.length ≤ j → q.2.getD j 0 = 0) ∧ dOf 18446744073709551616 q.2 = dOf 18446744073709551616 (x.take q.1) * dOf 18446744073709551616 y) (fun q => x.length - q.1) (0, List.replicate (x.length + y.length) 0) 60
      (by repeat (first | exact Has.nil | refine Has.upd rfl ?_)) (Kept.of rfl (by repeat (first | exact KT.nil | refine KT.upd rfl (by first | rfl | exact hr | exact hr2 | (simp only [go_sem]; done)) ?_)) (KM.p (by repeat (first | exact KMp.nil | refine KMp.upd rfl (by first | rfl | (simp only [go_sem]; done)) ?_)))) ⟨by simp, by simp, by intro d hd; rw [List.eq_of_mem_replicate hd]; decide, by intro j _; simp [List.getD_eq_getElem?_getD, List.getElem?_replicate]; split <;> rfl, by simp [dOf, dOf_zeros]⟩ 111 (by kernel_rfl) ?_
    rintro ⟨i, z⟩ ⟨q1, q2, q3, q4, q5⟩
    simp only [] at q1 q2 q3 q4 q5
    by_cases hk : i < x.length
    · have hxi := hxd _ (getD_mem hk)
      simp (maxSteps := 1000000) only [go_sem, hk]
      refine trX_loop HE hP.mix [22, 2, 1, 0] (fun q : Nat × List Nat × Nat => ⟨upd (upd (upd (upd (upd (upd (upd (upd (upd (upd (fun _ => .junk) 4 (.ref 2 0)) 7 (sv x)) 8 (sv y)) 9 (.sl 22 0 (x.length + y.length) 1)) 51 (.int .i64 (x.length : Int))) 52 (.int .i64 (i : Int))) 10 (.int .i64 (i : Int))) 11 (.int .u64 (q.2.2 : Int))) 56 (.int .i64 (y.length : Int))) 57 (.int .i64 (q.1 : Int)), upd (upd (upd (upd (fun _ => .unused) 0 (.live [.int .u64 (a : Int), .nils])) 1 (.live [.int .u64 0, .imm y.length (List.map (fun d : Nat => AV.int .u64 (d : Int)) (y))])) 2 (.live [.int .u64 0, .nils])) 22 (.live (List.map (fun d : Nat => AV.int .u64 (d : Int)) (q.2.1))), 111⟩)
        (fun q => q.1 ≤ y.length ∧ q.2.1.length = x.length + y.length ∧ (∀ d ∈ q.2.1, d < 18446744073709551616) ∧ q.2.2 < 18446744073709551616 ∧ (∀ j, i + y.length ≤ j → q.2.1.getD j 0 = 0) ∧ dOf 18446744073709551616 q.2.1 + 18446744073709551616 ^ (i + q.1) * q.2.2 = dOf 18446744073709551616 z + 18446744073709551616 ^ i * x.getD i 0 * dOf 18446744073709551616 (y.take q.1)) (fun q => y.length - q.1) (0, z, 0) 60
        (by repeat (first | exact Has.nil | refine Has.upd rfl ?_)) (Kept.of rfl (by repeat (first | exact KT.nil | refine KT.upd rfl (by first | rfl | exact hr | exact hr2 | (simp only [go_sem]; done)) ?_)) (KM.p (by repeat (first | exact KMp.nil | refine KMp.upd rfl (by first | rfl | (simp only [go_sem]; done)) ?_)))) ⟨by simp, q2, q3, by simp, q4, by simp [dOf]⟩ 111 (by kernel_rfl) ?_
      rintro ⟨j, z', c⟩ ⟨r1, r2, r3, r4, r5, r6⟩
      simp only [] at r1 r2 r3 r4 r5 r6
      by_cases hj : j < y.length
      · have e1 : x ≠ [] := by intro e; rw [e] at hk; simp at hk
        have e2 : y ≠ [] := by intro e; rw [e] at hj; simp at hj
        have hyj := hyd _ (getD_mem hj)
        have hij : i + j < x.length + y.length := by omega
        have hz : i + j < z'.length := by omega
        have hzd := r3 _ (getD_mem hz)
        have hm := mull_lt (x.getD i 0) (y.getD j 0)
        have hal := addl_lt (mull (x.getD i 0) (y.getD j 0)) c 0
        have hcar := mul_carry hxi hyj r4 hzd
        have hw1 := wu_add' (mulh (x.getD i 0) (y.getD j 0)) (addh (mull (x.getD i 0) (y.getD j 0)) c 0) (by omega)
        have hw2 := wu_add' (mulh (x.getD i 0) (y.getD j 0) + addh (mull (x.getD i 0) (y.getD j 0)) c 0) (addh (z'.getD (i + j) 0) (addl (mull (x.getD i 0) (y.getD j 0)) c 0) 0) hcar
        have hw3 := wi_add i j (by omega)
        have hw4 := wi_add1 j (by omega)
        have hki : i ≤ x.length := by omega
        have hkj : j ≤ y.length := by omega
        simp (maxSteps := 1000000) only [go_sem, hj, hk, hki, hkj, sv_ia e1, sv_ia e2, gU' hk, gU' hj, hxi, hyj, hm, hal, hw1, hw2, hw3, hw4, hij, hz, gU hz, hzd]
        have hs := dOf_set 18446744073709551616 z' (i + j) (addl (z'.getD (i + j) 0) (addl (mull (x.getD i 0) (y.getD j 0)) c 0) 0) hz
        have hst := mul_step (18446744073709551616 ^ (i + j)) (x.getD i 0) (y.getD j 0) c (z'.getD (i + j) 0) _ _ _ r6 hs
        refine ⟨(j + 1, z'.set (i + j) (addl (z'.getD (i + j) 0) (addl (mull (x.getD i 0) (y.getD j 0)) c 0) 0), mulh (x.getD i 0) (y.getD j 0) + addh (mull (x.getD i 0) (y.getD j 0)) c 0 + addh (z'.getD (i + j) 0) (addl (mull (x.getD i 0) (y.getD j 0)) c 0) 0), Kept.of rfl (by repeat (first | exact KT.nil | refine KT.upd rfl (by first | rfl | exact hr | exact hr2 | (simp only [go_sem]; done)) ?_)) (KM.p (by repeat (first | exact KMp.nil | refine KMp.upd rfl (by first | rfl | (simp only [go_sem]; done)) ?_))), ⟨by simp only []; omega, by simp only [List.length_set]; omega, ?_, hcar, ?_, ?_⟩, by simp only []; omega⟩
        · intro d hd
          rcases List.mem_or_eq_of_mem_set hd with hd | rfl
          · exact r3 d hd
          · exact addl_lt _ _ _
        · intro j' hj'
          simp only []
          rw [getD_set_ne _ _ _ _ (by omega)]; exact r5 j' hj'
        · simp only []
          rw [dOf_take_succ 18446744073709551616 y j hj, ← Nat.add_assoc, Nat.pow_succ]
          refine hst.trans ?_
          rw [Nat.mul_add (18446744073709551616 ^ i * x.getD i 0)]
          congr 2
          rw [Nat.pow_add]
          generalize x.getD i 0 = u; generalize y.getD j 0 = v; generalize 18446744073709551616 ^ i = p1; generalize 18446744073709551616 ^ j = p2
          simp only [Nat.mul_assoc]; congr 1; rw [← Nat.mul_assoc, ← Nat.mul_assoc, Nat.mul_comm p2 u]
      · have hw1 := wi_add i y.length (by omega)
        have hz : i + y.length < z'.length := by omega
        have hij : i + y.length < x.length + y.length := by omega
        have hw2 := wi_add1 i (by omega)
        simp (maxSteps := 1000000) only [go_sem, hj, hw1, hw2, hz, hij, gU hz]
        have htj : y.take j = y := List.take_of_length_le (by omega)
        have hjl : j = y.length := by omega
        rw [htj, hjl] at r6
        refine ⟨(i + 1, z'.set (i + y.length) c), Kept.of rfl (by repeat (first | exact KT.nil | refine KT.upd rfl (by first | rfl | exact hr | exact hr2 | (simp only [go_sem]; done)) ?_)) (KM.p (by repeat (first | exact KMp.nil | refine KMp.upd rfl (by first | rfl | (simp only [go_sem]; done)) ?_))), ⟨by simp only []; omega, by simp only [List.length_set]; omega, ?_, ?_, ?_⟩, by simp only []; omega⟩
        · intro d hd
          rcases List.mem_or_eq_of_mem_set hd with hd | rfl
          · exact r3 d hd
          · exact r4
        · intro j' hj'
          simp only [] at hj' ⊢
          rw [getD_set_ne _ _ _ _ (by omega)]; exact r5 j' (by omega)
        · simp only []
          have hs := dOf_set 18446744073709551616 z' (i + y.length) c hz
          rw [r5 _ (Nat.le_refl _), Nat.mul_zero, Nat.add_zero] at hs
          rw [hs, r6, q5, dOf_take_succ 18446744073709551616 x i hk, Nat.add_mul]
    · have htk : z.take (x.length + y.length) = z := List.take_of_length_le (by omega)
      have hsl : x.length + y.length < 4611686018427387904 := by omega
      have hz3 : (∀ d ∈ z, d < 18446744073709551616) = True := eq_true q3
      have hti : x.take i = x := List.take_of_length_le (by omega)
      simp (maxSteps := 1000000) only [go_sem, hk, htk, q2, hz3, hsl]
      rw [q5, hti, hx, hy]; exact .refl _
  · have hl := digs_length_gt 18446744073709551616 a 1 (by decide) (by omega)
    have hl2 : 2 ≤ (digs 18446744073709551616 a).length := by omega
    have hl3 : ((digs 18446744073709551616 a).length ≠ 0) = True := eq_true (by omega)
    by_cases h2 : b < 18446744073709551616
    · rw [natC_great h1, natC_small h2]
      refine CSpec_vc (E := ⟨T0, Sb⟩) (fn55 hP) HE hP.mix rfl (by first | rfl | (simp only [go_sem]; done)) (by first | rfl | (simp only [go_sem]; done)) (Nat.le_of_ble_eq_true rfl) ?_
      simp (maxSteps := 1000000) only [go_sem, h2, hl2, hl3]
      generalize digs 18446744073709551616 a = x at *
      generalize digs 18446744073709551616 b = y at *
      have hi := wi_add x.length y.length (by omega)
      have hi2 : x.length + y.length ≤ 1099511627776 := by omega
      simp (maxSteps := 1000000) only [go_sem, hi, hi2]
      refine trX_loop HE hP.mix [19, 2, 1, 0] (fun q : Nat × List Nat => ⟨upd (upd (upd (upd (upd (upd (fun _ => .junk) 4 (.ref 2 0)) 7 (sv x)) 8 (sv y)) 9 (.sl 19 0 (x.length + y.length) 1)) 51 (.int .i64 (x.length : Int))) 52 (.int .i64 (q.1 : Int)), upd (upd (upd (upd (fun _ => .unused) 0 (.live [.int .u64 0, .imm x.length (List.map (fun d : Nat => AV.int .u64 (d : Int)) (x))])) 1 (.live [.int .u64 (b : Int), .nils])) 2 (.live [.int .u64 0, .nils])) 19 (.live (List.map (fun d : Nat => AV.int .u64 (d : Int)) (q.2))), 111⟩)
        (fun q => q.1 ≤ x.length ∧ q.2.length = x.length + y.length ∧ (∀ d ∈ q.2, d < 18446744073709551616) ∧ (∀ j, q.1 + y.length ≤ j → q.2.getD j 0 = 0) ∧ dOf 18446744073709551616 q.2 = dOf 18446744073709551616 (x.take q.1) * dOf 18446744073709551616 y) (fun q => x.length - q.1) (0, List.replicate (x.length + y.length) 0) 60
        (by repeat (first | exact Has.nil | refine Has.upd rfl ?_)) (Kept.of rfl (by repeat (first | exact KT.nil | refine KT.upd rfl (by first | rfl | exact hr | exact hr2 | (simp only [go_sem]; done)) ?_)) (KM.p (by repeat (first | exact KMp.nil | refine KMp.upd rfl (by first | rfl | (simp only [go_sem]; done)) ?_)))) ⟨by simp, by simp, by intro d hd; rw [List.eq_of_mem_replicate hd]; decide, by intro j _; simp [List.getD_eq_getElem?_getD, List.getElem?_replicate]; split <;> rfl, by simp [dOf, dOf_zeros]⟩ 111 (by kernel_rfl) ?_
      rintro ⟨i, z⟩ ⟨q1, q2, q3, q4, q5⟩
      simp only [] at q1 q2 q3 q4 q5
      by_cases hk : i < x.length
      · have hxi := hxd _ (getD_mem hk)
        simp (maxSteps := 1000000) only [go_sem, hk]
        refine trX_loop HE hP.mix [19, 2, 1, 0] (fun q : Nat × List Nat × Nat => ⟨upd (upd (upd (upd (upd (upd (upd (upd (upd (upd (fun _ => .junk) 4 (.ref 2 0)) 7 (sv x)) 8 (sv y)) 9 (.sl 19 0 (x.length + y.length) 1)) 51 (.int .i64 (x.length : Int))) 52 (.int .i64 (i : Int))) 10 (.int .i64 (i : Int))) 11 (.int .u64 (q.2.2 : Int))) 56 (.int .i64 (y.length : Int))) 57 (.int .i64 (q.1 : Int)), upd (upd (upd (upd (fun _ => .unused) 0 (.live [.int .u64 0, .imm x.length (List.map (fun d : Nat => AV.int .u64 (d : Int)) (x))])) 1 (.live [.int .u64 (b : Int), .nils])) 2 (.live [.int .u64 0, .nils])) 19 (.live (List.map (fun d : Nat => AV.int .u64 (d : Int)) (q.2.1))), 111⟩)
          (fun q => q.1 ≤ y.length ∧ q.2.1.length = x.length + y.length ∧ (∀ d ∈ q.2.1, d < 18446744073709551616) ∧ q.2.2 < 18446744073709551616 ∧ (∀ j, i + y.length ≤ j → q.2.1.getD j 0 = 0) ∧ dOf 18446744073709551616 q.2.1 + 18446744073709551616 ^ (i + q.1) * q.2.2 = dOf 18446744073709551616 z + 18446744073709551616 ^ i * x.getD i 0 * dOf 18446744073709551616 (y.take q.1)) (fun q => y.length - q.1) (0, z, 0) 60
          (by repeat (first | exact Has.nil | refine Has.upd rfl ?_)) (Kept.of rfl (by repeat (first | exact KT.nil | refine KT.upd rfl (by first | rfl | exact hr | exact hr2 | (simp only [go_sem]; done)) ?_)) (KM.p (by repeat (first | exact KMp.nil | refine KMp.upd rfl (by first | rfl | (simp only [go_sem]; done)) ?_)))) ⟨by simp, q2, q3, by simp, q4, by simp [dOf]⟩ 111 (by kernel_rfl) ?_
        rintro ⟨j, z', c⟩ ⟨r1, r2, r3, r4, r5, r6⟩
        simp only [] at r1 r2 r3 r4 r5 r6
        by_cases hj : j < y.length
        · have e1 : x ≠ [] := by intro e; rw [e] at hk; simp at hk
          have e2 : y ≠ [] := by intro e; rw [e] at hj; simp at hj
          have hyj := hyd _ (getD_mem hj)
          have hij : i + j < x.length + y.length := by omega
          have hz : i + j < z'.length := by omega
          have hzd := r3 _ (getD_mem hz)
          have hm := mull_lt (x.getD i 0) (y.getD j 0)
          have hal := addl_lt (mull (x.getD i 0) (y.getD j 0)) c 0
          have hcar := mul_carry hxi hyj r4 hzd
          have hw1 := wu_add' (mulh (x.getD i 0) (y.getD j 0)) (addh (mull (x.getD i 0) (y.getD j 0)) c 0) (by omega)
          have hw2 := wu_add' (mulh (x.getD i 0) (y.getD j 0) + addh (mull (x.getD i 0) (y.getD j 0)) c 0) (addh (z'.getD (i + j) 0) (addl (mull (x.getD i 0) (y.getD j 0)) c 0) 0) hcar
          have hw3 := wi_add i j (by omega)
          have hw4 := wi_add1 j (by omega)
          have hki : i ≤ x.length := by omega
          have hkj : j ≤ y.length := by omega
          simp (maxSteps := 1000000) only [go_sem, hj, hk, hki, hkj, sv_ia e1, sv_ia e2, gU' hk, gU' hj, hxi, hyj, hm, hal, hw1, hw2, hw3, hw4, hij, hz, gU hz, hzd]
          have hs := dOf_set 18446744073709551616 z' (i + j) (addl (z'.getD (i + j) 0) (addl (mull (x.getD i 0) (y.getD j 0)) c 0) 0) hz
          have hst := mul_step (18446744073709551616 ^ (i + j)) (x.getD i 0) (y.getD j 0) c (z'.getD (i + j) 0) _ _ _ r6 hs
          refine ⟨(j + 1, z'.set (i + j) (addl (z'.getD (i + j) 0) (addl (mull (x.getD i 0) (y.getD j 0)) c 0) 0), mulh (x.getD i 0) (y.getD j 0) + addh (mull (x.getD i 0) (y.getD j 0)) c 0 + addh (z'.getD (i + j) 0) (addl (mull (x.getD i 0) (y.getD j 0)) c 0) 0), Kept.of rfl (by repeat (first | exact KT.nil | refine KT.upd rfl (by first | rfl | exact hr | exact hr2 | (simp only [go_sem]; done)) ?_)) (KM.p (by repeat (first | exact KMp.nil | refine KMp.upd rfl (by first | rfl | (simp only [go_sem]; done)) ?_))), ⟨by simp only []; omega, by simp only [List.length_set]; omega, ?_, hcar, ?_, ?_⟩, by simp only []; omega⟩
          · intro d hd
            rcases List.mem_or_eq_of_mem_set hd with hd | rfl
            · exact r3 d hd
            · exact addl_lt _ _ _
          · intro j' hj'
            simp only []
            rw [getD_set_ne _ _ _ _ (by omega)]; exact r5 j' hj'
          · simp only []
            rw [dOf_take_succ 18446744073709551616 y j hj, ← Nat.add_assoc, Nat.pow_succ]
            refine hst.trans ?_
            rw [Nat.mul_add (18446744073709551616 ^ i * x.getD i 0)]
            congr 2
            rw [Nat.pow_add]
            generalize x.getD i 0 = u; generalize y.getD j 0 = v; generalize 18446744073709551616 ^ i = p1; generalize 18446744073709551616 ^ j = p2
            simp only [Nat.mul_assoc]; congr 1; rw [← Nat.mul_assoc, ← Nat.mul_assoc, Nat.mul_comm p2 u]
        · have hw1 := wi_add i y.length (by omega)
          have hz : i + y.length < z'.length := by omega
          have hij : i + y.length < x.length + y.length := by omega
          have hw2 := wi_add1 i (by omega)
          simp (maxSteps := 1000000) only [go_sem, hj, hw1, hw2, hz, hij, gU hz]
          have htj : y.take j = y := List.take_of_length_le (by omega)
          have hjl : j = y.length := by omega
          rw [htj, hjl] at r6
          refine ⟨(i + 1, z'.set (i + y.length) c), Kept.of rfl (by repeat (first | exact KT.nil | refine KT.upd rfl (by first | rfl | exact hr | exact hr2 | (simp only [go_sem]; done)) ?_)) (KM.p (by repeat (first | exact KMp.nil | refine KMp.upd rfl (by first | rfl | (simp only [go_sem]; done)) ?_))), ⟨by simp only []; omega, by simp only [List.length_set]; omega, ?_, ?_, ?_⟩, by simp only []; omega⟩
          · intro d hd
            rcases List.mem_or_eq_of_mem_set hd with hd | rfl
            · exact r3 d hd
            · exact r4
          · intro j' hj'
            simp only [] at hj' ⊢
            rw [getD_set_ne _ _ _ _ (by omega)]; exact r5 j' (by omega)
          · simp only []
            have hs := dOf_set 18446744073709551616 z' (i + y.length) c hz
            rw [r5 _ (Nat.le_refl _), Nat.mul_zero, Nat.add_zero] at hs
            rw [hs, r6, q5, dOf_take_succ 18446744073709551616 x i hk, Nat.add_mul]
      · have htk : z.take (x.length + y.length) = z := List.take_of_length_le (by omega)
        have hsl : x.length + y.length < 4611686018427387904 := by omega
        have hz3 : (∀ d ∈ z, d < 18446744073709551616) = True := eq_true q3
        have hti : x.take i = x := List.take_of_length_le (by omega)
        simp (maxSteps := 1000000) only [go_sem, hk, htk, q2, hz3, hsl]
        rw [q5, hti, hx, hy]; exact .refl _
    · rw [natC_great h1, natC_great h2]
      have hl4 := digs_length_gt 18446744073709551616 b 1 (by decide) (by omega)
      have hl5 : 2 ≤ (digs 18446744073709551616 b).length := by omega
      have hl6 : ((digs 18446744073709551616 b).length ≠ 0) = True := eq_true (by omega)
      refine CSpec_vc (E := ⟨T0, Sb⟩) (fn55 hP) HE hP.mix rfl (by first | rfl | (simp only [go_sem]; done)) (by first | rfl | (simp only [go_sem]; done)) (Nat.le_of_ble_eq_true rfl) ?_
      simp (maxSteps := 1000000) only [go_sem, hl2, hl3, hl5, hl6]
      generalize digs 18446744073709551616 a = x at *
      generalize digs 18446744073709551616 b = y at *
      have hi := wi_add x.length y.length (by omega)
      have hi2 : x.length + y.length ≤ 1099511627776 := by omega
      simp (maxSteps := 1000000) only [go_sem, hi, hi2]
      refine trX_loop HE hP.mix [19, 2, 1, 0] (fun q : Nat × List Nat => ⟨upd (upd (upd (upd (upd (upd (fun _ => .junk) 4 (.ref 2 0)) 7 (sv x)) 8 (sv y)) 9 (.sl 19 0 (x.length + y.length) 1)) 51 (.int .i64 (x.length : Int))) 52 (.int .i64 (q.1 : Int)), upd (upd (upd (upd (fun _ => .unused) 0 (.live [.int .u64 0, .imm x.length (List.map (fun d : Nat => AV.int .u64 (d : Int)) (x))])) 1 (.live [.int .u64 0, .imm y.length (List.map (fun d : Nat => AV.int .u64 (d : Int)) (y))])) 2 (.live [.int .u64 0, .nils])) 19 (.live (List.map (fun d : Nat => AV.int .u64 (d : Int)) (q.2))), 111⟩)
        (fun q => q.1 ≤ x.length ∧ q.2.length = x.length + y.length ∧ (∀ d ∈ q.2, d < 18446744073709551616) ∧ (∀ j, q.1 + y.length ≤ j → q.2.getD j 0 = 0) ∧ dOf 18446744073709551616 q.2 = dOf 18446744073709551616 (x.take q.1) * dOf 18446744073709551616 y) (fun q => x.length - q.1) (0, List.replicate (x.length + y.length) 0) 60
        (by repeat (first | exact Has.nil | refine Has.upd rfl ?_)) (Kept.of rfl (by repeat (first | exact KT.nil | refine KT.upd rfl (by first | rfl | exact hr | exact hr2 | (simp only [go_sem]; done)) ?_)) (KM.p (by repeat (first | exact KMp.nil | refine KMp.upd rfl (by first | rfl | (simp only [go_sem]; done)) ?_)))) ⟨by simp, by simp, by intro d hd; rw [List.eq_of_mem_replicate hd]; decide, by intro j _; simp [List.getD_eq_getElem?_getD, List.getElem?_replicate]; split <;> rfl, by simp [dOf, dOf_zeros]⟩ 111 (by kernel_rfl) ?_
      rintro ⟨i, z⟩ ⟨q1, q2, q3, q4, q5⟩
      simp only [] at q1 q2 q3 q4 q5
      by_cases hk : i < x.length
      · have hxi := hxd _ (getD_mem hk)
        simp (maxSteps := 1000000) only [go_sem, hk]
        refine trX_loop HE hP.mix [19, 2, 1, 0] (fun q : Nat × List Nat × Nat => ⟨upd (upd (upd (upd (upd (upd (upd (upd (upd (upd (fun _ => .junk) 4 (.ref 2 0)) 7 (sv x)) 8 (sv y)) 9 (.sl 19 0 (x.length + y.length) 1)) 51 (.int .i64 (x.length : Int))) 52 (.int .i64 (i : Int))) 10 (.int .i64 (i : Int))) 11 (.int .u64 (q.2.2 : Int))) 56 (.int .i64 (y.length : Int))) 57 (.int .i64 (q.1 : Int)), upd (upd (upd (upd (fun _ => .unused) 0 (.live [.int .u64 0, .imm x.length (List.map (fun d : Nat => AV.int .u64 (d : Int)) (x))])) 1 (.live [.int .u64 0, .imm y.length (List.map (fun d : Nat => AV.int .u64 (d : Int)) (y))])) 2 (.live [.int .u64 0, .nils])) 19 (.live (List.map (fun d : Nat => AV.int .u64 (d : Int)) (q.2.1))), 111⟩)
          (fun q => q.1 ≤ y.length ∧ q.2.1.length = x.length + y.length ∧ (∀ d ∈ q.2.1, d < 18446744073709551616) ∧ q.2.2 < 18446744073709551616 ∧ (∀ j, i + y.length ≤ j → q.2.1.getD j 0 = 0) ∧ dOf 18446744073709551616 q.2.1 + 18446744073709551616 ^ (i + q.1) * q.2.2 = dOf 18446744073709551616 z + 18446744073709551616 ^ i * x.getD i 0 * dOf 18446744073709551616 (y.take q.1)) (fun q => y.length - q.1) (0, z, 0) 60
          (by repeat (first | exact Has.nil | refine Has.upd rfl ?_)) (Kept.of rfl (by repeat (first | exact KT.nil | refine KT.upd rfl (by first | rfl | exact hr | exact hr2 | (simp only [go_sem]; done)) ?_)) (KM.p (by repeat (first | exact KMp.nil | refine KMp.upd rfl (by first | rfl | (simp only [go_sem]; done)) ?_)))) ⟨by simp, q2, q3, by simp, q4, by simp [dOf]⟩ 111 (by kernel_rfl) ?_
        rintro ⟨j, z', c⟩ ⟨r1, r2, r3, r4, r5, r6⟩
        simp only [] at r1 r2 r3 r4 r5 r6
        by_cases hj : j < y.length
        · have e1 : x ≠ [] := by intro e; rw [e] at hk; simp at hk
          have e2 : y ≠ [] := by intro e; rw [e] at hj; simp at hj
          have hyj := hyd _ (getD_mem hj)
          have hij : i + j < x.length + y.length := by omega
          have hz : i + j < z'.length := by omega
          have hzd := r3 _ (getD_mem hz)
          have hm := mull_lt (x.getD i 0) (y.getD j 0)
          have hal := addl_lt (mull (x.getD i 0) (y.getD j 0)) c 0
          have hcar := mul_carry hxi hyj r4 hzd
          have hw1 := wu_add' (mulh (x.getD i 0) (y.getD j 0)) (addh (mull (x.getD i 0) (y.getD j 0)) c 0) (by omega)
          have hw2 := wu_add' (mulh (x.getD i 0) (y.getD j 0) + addh (mull (x.getD i 0) (y.getD j 0)) c 0) (addh (z'.getD (i + j) 0) (addl (mull (x.getD i 0) (y.getD j 0)) c 0) 0) hcar
          have hw3 := wi_add i j (by omega)
          have hw4 := wi_add1 j (by omega)
          have hki : i ≤ x.length := by omega
          have hkj : j ≤ y.length := by omega
          simp (maxSteps := 1000000) only [go_sem, hj, hk, hki, hkj, sv_ia e1, sv_ia e2, gU' hk, gU' hj, hxi, hyj, hm, hal, hw1, hw2, hw3, hw4, hij, hz, gU hz, hzd]
          have hs := dOf_set 18446744073709551616 z' (i + j) (addl (z'.getD (i + j) 0) (addl (mull (x.getD i 0) (y.getD j 0)) c 0) 0) hz
          have hst := mul_step (18446744073709551616 ^ (i + j)) (x.getD i 0) (y.getD j 0) c (z'.getD (i + j) 0) _ _ _ r6 hs
          refine ⟨(j + 1, z'.set (i + j) (addl (z'.getD (i + j) 0) (addl (mull (x.getD i 0) (y.getD j 0)) c 0) 0), mulh (x.getD i 0) (y.getD j 0) + addh (mull (x.getD i 0) (y.getD j 0)) c 0 + addh (z'.getD (i + j) 0) (addl (mull (x.getD i 0) (y.getD j 0)) c 0) 0), Kept.of rfl (by repeat (first | exact KT.nil | refine KT.upd rfl (by first | rfl | exact hr | exact hr2 | (simp only [go_sem]; done)) ?_)) (KM.p (by repeat (first | exact KMp.nil | refine KMp.upd rfl (by first | rfl | (simp only [go_sem]; done)) ?_))), ⟨by simp only []; omega, by simp only [List.length_set]; omega, ?_, hcar, ?_, ?_⟩, by simp only []; omega⟩
          · intro d hd
            rcases List.mem_or_eq_of_mem_set hd with hd | rfl
            · exact r3 d hd
            · exact addl_lt _ _ _
          · intro j' hj'
            simp only []
            rw [getD_set_ne _ _ _ _ (by omega)]; exact r5 j' hj'
          · simp only []
            rw [dOf_take_succ 18446744073709551616 y j hj, ← Nat.add_assoc, Nat.pow_succ]
            refine hst.trans ?_
            rw [Nat.mul_add (18446744073709551616 ^ i * x.getD i 0)]
            congr 2
            rw [Nat.pow_add]
            generalize x.getD i 0 = u; generalize y.getD j 0 = v; generalize 18446744073709551616 ^ i = p1; generalize 18446744073709551616 ^ j = p2
            simp only [Nat.mul_assoc]; congr 1; rw [← Nat.mul_assoc, ← Nat.mul_assoc, Nat.mul_comm p2 u]
        · have hw1 := wi_add i y.length (by omega)
          have hz : i + y.length < z'.length := by omega
          have hij : i + y.length < x.length + y.length := by omega
          have hw2 := wi_add1 i (by omega)
          simp (maxSteps := 1000000) only [go_sem, hj, hw1, hw2, hz, hij, gU hz]
          have htj : y.take j = y := List.take_of_length_le (by omega)
          have hjl : j = y.length := by omega
          rw [htj, hjl] at r6
          refine ⟨(i + 1, z'.set (i + y.length) c), Kept.of rfl (by repeat (first | exact KT.nil | refine KT.upd rfl (by first | rfl | exact hr | exact hr2 | (simp only [go_sem]; done)) ?_)) (KM.p (by repeat (first | exact KMp.nil | refine KMp.upd rfl (by first | rfl | (simp only [go_sem]; done)) ?_))), ⟨by simp only []; omega, by simp only [List.length_set]; omega, ?_, ?_, ?_⟩, by simp only []; omega⟩
          · intro d hd
            rcases List.mem_or_eq_of_mem_set hd with hd | rfl
            · exact r3 d hd
            · exact r4
          · intro j' hj'
            simp only [] at hj' ⊢
            rw [getD_set_ne _ _ _ _ (by omega)]; exact r5 j' (by omega)
          · simp only []
            have hs := dOf_set 18446744073709551616 z' (i + y.length) c hz
            rw [r5 _ (Nat.le_refl _), Nat.mul_zero, Nat.add_zero] at hs
            rw [hs, r6, q5, dOf_take_succ 18446744073709551616 x i hk, Nat.add_mul]
      · have htk : z.take (x.length + y.length) = z := List.take_of_length_le (by omega)
        have hsl : x.length + y.length < 4611686018427387904 := by omega
        have hz3 : (∀ d ∈ z, d < 18446744073709551616) = True := eq_true q3
        have hti : x.take i = x := List.take_of_length_le (by omega)
        simp (maxSteps := 1000000) only [go_sem, hk, htk, q2, hz3, hsl]
        rw [q5, hti, hx, hy]; exact .refl _

theorem Mul_spec (hP : PrgOk P) (a b : Nat) (ha : blen a ≤ 68719476736) (hb : blen b ≤ 68719476736) : CSpec P 55 [(.agg [.opq (.nat (a)), .pad]), (.agg [.opq (.nat (b)), .pad])] (.agg [.opq (.nat (a * b)), .pad]) := by
  refine CSpec.cv ?_ (CvL.natIn a (CvL.natIn b .nil))
  by_cases h : a < 18446744073709551616 ∧ b < 18446744073709551616
  · rw [natC_small h.1, natC_small h.2]; exact Mul_small hP a b h.1 h.2
  · exact Mul_great hP a b ha hb h
def MulS : List AV → Option (Prop × AV) := on2 fun a b => (blen a ≤ 68719476736 ∧ blen b ≤ 68719476736, (.agg [.opq (.nat (a * b)), .pad]))
theorem MulS_ok (hP : PrgOk P) (args p r) : MulS args = some (p, r) → p → CSpec P 55 args r := on2_ok (fun a b h => by exact Mul_spec hP a b h.1 h.2) args p r
attribute [go_sem] MulS
end Go.Proofs.YtjnhekedclcbfaaDoor.AM
