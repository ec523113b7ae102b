/- The program, as a fact about any program that has these functions. -/
import Derived.Test.YtlgimmafejbmgaaTy
import Derived.Test.YtlgimmafejbmgaaWs
namespace Go.Proofs.Ytlgimmafejbmgaa.AM
set_option linter.all false
set_option autoImplicit true
set_option relaxedAutoImplicit true
open Go Go.Proofs
structure PrgOk (P : Program) : Prop where
  mix : P.follows .mixedOrders = true
  t0 : TyOk P T0
  t1 : TyOk P T1
  len64 : ∀ x : Nat, x < 18446744073709551616 → CSpec P 39 [.int .u64 (x : Int)] (.int .i64 (blen x : Nat))
  lz64 : ∀ x : Nat, x < 18446744073709551616 → CSpec P 56 [.int .u64 (x : Int)] (.int .i64 ((64 - blen x : Nat) : Int))
  mul64 : ∀ x y : Nat, x < 18446744073709551616 → y < 18446744073709551616 → CSpec P 41 [.int .u64 (x : Int), .int .u64 (y : Int)] (.tup [.int .u64 ((mulh x y : Nat) : Int), .int .u64 ((mull x y : Nat) : Int)])
  add64 : ∀ x y c : Nat, x < 18446744073709551616 → c ≤ 1 → CSpec P 42 [.int .u64 (x : Int), .int .u64 (y : Int), .int .u64 (c : Int)] (.tup [.int .u64 ((addl x y c : Nat) : Int), .int .u64 ((addh x y c : Nat) : Int)])
  sub64 : ∀ x y c : Nat, x < 18446744073709551616 → c ≤ 1 → CSpec P 48 [.int .u64 (x : Int), .int .u64 (y : Int), .int .u64 (c : Int)] (.tup [.int .u64 ((subd x y c : Nat) : Int), .int .u64 ((bor x y c : Nat) : Int)])
  f3 : P.funcs[(3 : Nat)]? = some Try.f3
  f4 : P.funcs[(4 : Nat)]? = some Try.f4
  f5 : P.funcs[(5 : Nat)]? = some Try.f5
  f6 : P.funcs[(6 : Nat)]? = some Try.f6
  f7 : P.funcs[(7 : Nat)]? = some Try.f7
  f8 : P.funcs[(8 : Nat)]? = some Try.f8
  f9 : P.funcs[(9 : Nat)]? = some Try.f9
  f10 : P.funcs[(10 : Nat)]? = some Try.f10
  f11 : P.funcs[(11 : Nat)]? = some Try.f11
  f12 : P.funcs[(12 : Nat)]? = some Try.f12
  f13 : P.funcs[(13 : Nat)]? = some Try.f13
  f14 : P.funcs[(14 : Nat)]? = some Try.f14
  f15 : P.funcs[(15 : Nat)]? = some Try.f15
  f16 : P.funcs[(16 : Nat)]? = some Try.f16
  f17 : P.funcs[(17 : Nat)]? = some Try.f17
  f18 : P.funcs[(18 : Nat)]? = some Try.f18
  f19 : P.funcs[(19 : Nat)]? = some Try.f19
  f20 : P.funcs[(20 : Nat)]? = some Try.f20
  f21 : P.funcs[(21 : Nat)]? = some Try.f21
  f22 : P.funcs[(22 : Nat)]? = some Try.f22
  f23 : P.funcs[(23 : Nat)]? = some Try.f23
  f24 : P.funcs[(24 : Nat)]? = some Try.f24
  f25 : P.funcs[(25 : Nat)]? = some Try.f25
  f26 : P.funcs[(26 : Nat)]? = some Try.f26
  f27 : P.funcs[(27 : Nat)]? = some Try.f27
  f28 : P.funcs[(28 : Nat)]? = some Try.f28
  f29 : P.funcs[(29 : Nat)]? = some Try.f29
  f30 : P.funcs[(30 : Nat)]? = some Try.f30
  f31 : P.funcs[(31 : Nat)]? = some Try.f31
  f32 : P.funcs[(32 : Nat)]? = some Try.f32
  f33 : P.funcs[(33 : Nat)]? = some Try.f33
  f34 : P.funcs[(34 : Nat)]? = some Try.f34
  f35 : P.funcs[(35 : Nat)]? = some Try.f35
  f36 : P.funcs[(36 : Nat)]? = some Try.f36
  f37 : P.funcs[(37 : Nat)]? = some Try.f37
  f38 : P.funcs[(38 : Nat)]? = some Try.f38
  f39 : P.funcs[(39 : Nat)]? = some Try.f39
  f40 : P.funcs[(40 : Nat)]? = some Try.f40
  f41 : P.funcs[(41 : Nat)]? = some Try.f41
  f42 : P.funcs[(42 : Nat)]? = some Try.f42
  f43 : P.funcs[(43 : Nat)]? = some Try.f43
  f44 : P.funcs[(44 : Nat)]? = some Try.f44
  f45 : P.funcs[(45 : Nat)]? = some Try.f45
  f46 : P.funcs[(46 : Nat)]? = some Try.f46
  f47 : P.funcs[(47 : Nat)]? = some Try.f47
  f48 : P.funcs[(48 : Nat)]? = some Try.f48
  f55 : P.funcs[(55 : Nat)]? = some Try.f55
  f56 : P.funcs[(56 : Nat)]? = some Try.f56
  f57 : P.funcs[(57 : Nat)]? = some Try.f57
  f58 : P.funcs[(58 : Nat)]? = some Try.f58
  f59 : P.funcs[(59 : Nat)]? = some Try.f59
  f60 : P.funcs[(60 : Nat)]? = some Try.f60
  f61 : P.funcs[(61 : Nat)]? = some Try.f61
  f83 : P.funcs[(83 : Nat)]? = some Try.f83
theorem fn3 {P} (h : PrgOk P) : FnOk P 3 Try.f3 := ⟨h.f3, by kernel_rfl, by kernel_rfl⟩
theorem nt3 : Try.f3.ntmps = 82 := rfl
theorem rs3 : Try.f3.results.toList = [Go.ResultVar.tmp 4] := rfl
theorem fn4 {P} (h : PrgOk P) : FnOk P 4 Try.f4 := ⟨h.f4, by kernel_rfl, by kernel_rfl⟩
theorem nt4 : Try.f4.ntmps = 74 := rfl
theorem rs4 : Try.f4.results.toList = [Go.ResultVar.tmp 4] := rfl
theorem fn5 {P} (h : PrgOk P) : FnOk P 5 Try.f5 := ⟨h.f5, by kernel_rfl, by kernel_rfl⟩
theorem nt5 : Try.f5.ntmps = 139 := rfl
theorem rs5 : Try.f5.results.toList = [Go.ResultVar.tmp 8] := rfl
theorem fn6 {P} (h : PrgOk P) : FnOk P 6 Try.f6 := ⟨h.f6, by kernel_rfl, by kernel_rfl⟩
theorem nt6 : Try.f6.ntmps = 124 := rfl
theorem rs6 : Try.f6.results.toList = [Go.ResultVar.tmp 6] := rfl
theorem fn7 {P} (h : PrgOk P) : FnOk P 7 Try.f7 := ⟨h.f7, by kernel_rfl, by kernel_rfl⟩
theorem nt7 : Try.f7.ntmps = 158 := rfl
theorem rs7 : Try.f7.results.toList = [Go.ResultVar.tmp 4] := rfl
theorem fn8 {P} (h : PrgOk P) : FnOk P 8 Try.f8 := ⟨h.f8, by kernel_rfl, by kernel_rfl⟩
theorem nt8 : Try.f8.ntmps = 131 := rfl
theorem rs8 : Try.f8.results.toList = [Go.ResultVar.tmp 6] := rfl
theorem fn9 {P} (h : PrgOk P) : FnOk P 9 Try.f9 := ⟨h.f9, by kernel_rfl, by kernel_rfl⟩
theorem nt9 : Try.f9.ntmps = 111 := rfl
theorem rs9 : Try.f9.results.toList = [Go.ResultVar.tmp 0] := rfl
theorem fn10 {P} (h : PrgOk P) : FnOk P 10 Try.f10 := ⟨h.f10, by kernel_rfl, by kernel_rfl⟩
theorem nt10 : Try.f10.ntmps = 62 := rfl
theorem rs10 : Try.f10.results.toList = [Go.ResultVar.tmp 0] := rfl
theorem fn11 {P} (h : PrgOk P) : FnOk P 11 Try.f11 := ⟨h.f11, by kernel_rfl, by kernel_rfl⟩
theorem nt11 : Try.f11.ntmps = 16 := rfl
theorem rs11 : Try.f11.results.toList = [Go.ResultVar.tmp 2] := rfl
theorem fn12 {P} (h : PrgOk P) : FnOk P 12 Try.f12 := ⟨h.f12, by kernel_rfl, by kernel_rfl⟩
theorem nt12 : Try.f12.ntmps = 41 := rfl
theorem rs12 : Try.f12.results.toList = [Go.ResultVar.cell 2 27, Go.ResultVar.tmp 3, Go.ResultVar.tmp 4] := rfl
theorem fn13 {P} (h : PrgOk P) : FnOk P 13 Try.f13 := ⟨h.f13, by kernel_rfl, by kernel_rfl⟩
theorem nt13 : Try.f13.ntmps = 9 := rfl
theorem rs13 : Try.f13.results.toList = [Go.ResultVar.tmp 2, Go.ResultVar.tmp 3] := rfl
theorem fn14 {P} (h : PrgOk P) : FnOk P 14 Try.f14 := ⟨h.f14, by kernel_rfl, by kernel_rfl⟩
theorem nt14 : Try.f14.ntmps = 25 := rfl
theorem rs14 : Try.f14.results.toList = [Go.ResultVar.tmp 2, Go.ResultVar.tmp 3] := rfl
theorem fn15 {P} (h : PrgOk P) : FnOk P 15 Try.f15 := ⟨h.f15, by kernel_rfl, by kernel_rfl⟩
theorem nt15 : Try.f15.ntmps = 5 := rfl
theorem rs15 : Try.f15.results.toList = [Go.ResultVar.cell 2 27] := rfl
theorem fn16 {P} (h : PrgOk P) : FnOk P 16 Try.f16 := ⟨h.f16, by kernel_rfl, by kernel_rfl⟩
theorem nt16 : Try.f16.ntmps = 24 := rfl
theorem rs16 : Try.f16.results.toList = [Go.ResultVar.tmp 2] := rfl
theorem fn17 {P} (h : PrgOk P) : FnOk P 17 Try.f17 := ⟨h.f17, by kernel_rfl, by kernel_rfl⟩
theorem nt17 : Try.f17.ntmps = 25 := rfl
theorem rs17 : Try.f17.results.toList = [Go.ResultVar.tmp 2] := rfl
theorem fn18 {P} (h : PrgOk P) : FnOk P 18 Try.f18 := ⟨h.f18, by kernel_rfl, by kernel_rfl⟩
theorem nt18 : Try.f18.ntmps = 10 := rfl
theorem rs18 : Try.f18.results.toList = [Go.ResultVar.tmp 4] := rfl
theorem fn19 {P} (h : PrgOk P) : FnOk P 19 Try.f19 := ⟨h.f19, by kernel_rfl, by kernel_rfl⟩
theorem nt19 : Try.f19.ntmps = 15 := rfl
theorem rs19 : Try.f19.results.toList = [Go.ResultVar.tmp 2] := rfl
theorem fn20 {P} (h : PrgOk P) : FnOk P 20 Try.f20 := ⟨h.f20, by kernel_rfl, by kernel_rfl⟩
theorem nt20 : Try.f20.ntmps = 109 := rfl
theorem rs20 : Try.f20.results.toList = [Go.ResultVar.cell 2 27, Go.ResultVar.tmp 3] := rfl
theorem fn21 {P} (h : PrgOk P) : FnOk P 21 Try.f21 := ⟨h.f21, by kernel_rfl, by kernel_rfl⟩
theorem nt21 : Try.f21.ntmps = 85 := rfl
theorem rs21 : Try.f21.results.toList = [Go.ResultVar.tmp 2] := rfl
theorem fn22 {P} (h : PrgOk P) : FnOk P 22 Try.f22 := ⟨h.f22, by kernel_rfl, by kernel_rfl⟩
theorem nt22 : Try.f22.ntmps = 49 := rfl
theorem rs22 : Try.f22.results.toList = [Go.ResultVar.tmp 4] := rfl
theorem fn23 {P} (h : PrgOk P) : FnOk P 23 Try.f23 := ⟨h.f23, by kernel_rfl, by kernel_rfl⟩
theorem nt23 : Try.f23.ntmps = 111 := rfl
theorem rs23 : Try.f23.results.toList = [Go.ResultVar.cell 4 27] := rfl
theorem fn24 {P} (h : PrgOk P) : FnOk P 24 Try.f24 := ⟨h.f24, by kernel_rfl, by kernel_rfl⟩
theorem nt24 : Try.f24.ntmps = 70 := rfl
theorem rs24 : Try.f24.results.toList = [Go.ResultVar.tmp 4] := rfl
theorem fn25 {P} (h : PrgOk P) : FnOk P 25 Try.f25 := ⟨h.f25, by kernel_rfl, by kernel_rfl⟩
theorem nt25 : Try.f25.ntmps = 86 := rfl
theorem rs25 : Try.f25.results.toList = [Go.ResultVar.cell 4 27] := rfl
theorem fn26 {P} (h : PrgOk P) : FnOk P 26 Try.f26 := ⟨h.f26, by kernel_rfl, by kernel_rfl⟩
theorem nt26 : Try.f26.ntmps = 55 := rfl
theorem rs26 : Try.f26.results.toList = [Go.ResultVar.tmp 4] := rfl
theorem fn27 {P} (h : PrgOk P) : FnOk P 27 Try.f27 := ⟨h.f27, by kernel_rfl, by kernel_rfl⟩
theorem nt27 : Try.f27.ntmps = 63 := rfl
theorem rs27 : Try.f27.results.toList = [Go.ResultVar.cell 4 27, Go.ResultVar.cell 5 27, Go.ResultVar.tmp 6] := rfl
theorem fn28 {P} (h : PrgOk P) : FnOk P 28 Try.f28 := ⟨h.f28, by kernel_rfl, by kernel_rfl⟩
theorem nt28 : Try.f28.ntmps = 63 := rfl
theorem rs28 : Try.f28.results.toList = [Go.ResultVar.tmp 4, Go.ResultVar.tmp 5] := rfl
theorem fn29 {P} (h : PrgOk P) : FnOk P 29 Try.f29 := ⟨h.f29, by kernel_rfl, by kernel_rfl⟩
theorem nt29 : Try.f29.ntmps = 29 := rfl
theorem rs29 : Try.f29.results.toList = [Go.ResultVar.tmp 2, Go.ResultVar.tmp 3] := rfl
theorem fn30 {P} (h : PrgOk P) : FnOk P 30 Try.f30 := ⟨h.f30, by kernel_rfl, by kernel_rfl⟩
theorem nt30 : Try.f30.ntmps = 16 := rfl
theorem rs30 : Try.f30.results.toList = [Go.ResultVar.tmp 4] := rfl
theorem fn31 {P} (h : PrgOk P) : FnOk P 31 Try.f31 := ⟨h.f31, by kernel_rfl, by kernel_rfl⟩
theorem nt31 : Try.f31.ntmps = 66 := rfl
theorem rs31 : Try.f31.results.toList = [Go.ResultVar.cell 4 27, Go.ResultVar.tmp 5] := rfl
theorem fn32 {P} (h : PrgOk P) : FnOk P 32 Try.f32 := ⟨h.f32, by kernel_rfl, by kernel_rfl⟩
theorem nt32 : Try.f32.ntmps = 43 := rfl
theorem rs32 : Try.f32.results.toList = [Go.ResultVar.cell 4 27] := rfl
theorem fn33 {P} (h : PrgOk P) : FnOk P 33 Try.f33 := ⟨h.f33, by kernel_rfl, by kernel_rfl⟩
theorem nt33 : Try.f33.ntmps = 19 := rfl
theorem rs33 : Try.f33.results.toList = [Go.ResultVar.tmp 4] := rfl
theorem fn34 {P} (h : PrgOk P) : FnOk P 34 Try.f34 := ⟨h.f34, by kernel_rfl, by kernel_rfl⟩
theorem nt34 : Try.f34.ntmps = 41 := rfl
theorem rs34 : Try.f34.results.toList = [Go.ResultVar.tmp 4] := rfl
theorem fn35 {P} (h : PrgOk P) : FnOk P 35 Try.f35 := ⟨h.f35, by kernel_rfl, by kernel_rfl⟩
theorem nt35 : Try.f35.ntmps = 42 := rfl
theorem rs35 : Try.f35.results.toList = [Go.ResultVar.tmp 4] := rfl
theorem fn36 {P} (h : PrgOk P) : FnOk P 36 Try.f36 := ⟨h.f36, by kernel_rfl, by kernel_rfl⟩
theorem nt36 : Try.f36.ntmps = 125 := rfl
theorem rs36 : Try.f36.results.toList = [Go.ResultVar.tmp 4] := rfl
theorem fn37 {P} (h : PrgOk P) : FnOk P 37 Try.f37 := ⟨h.f37, by kernel_rfl, by kernel_rfl⟩
theorem nt37 : Try.f37.ntmps = 33 := rfl
theorem rs37 : Try.f37.results.toList = [Go.ResultVar.tmp 2] := rfl
theorem fn38 {P} (h : PrgOk P) : FnOk P 38 Try.f38 := ⟨h.f38, by kernel_rfl, by kernel_rfl⟩
theorem nt38 : Try.f38.ntmps = 22 := rfl
theorem rs38 : Try.f38.results.toList = [Go.ResultVar.tmp 2] := rfl
theorem fn39 {P} (h : PrgOk P) : FnOk P 39 Try.f39 := ⟨h.f39, by kernel_rfl, by kernel_rfl⟩
theorem nt39 : Try.f39.ntmps = 25 := rfl
theorem rs39 : Try.f39.results.toList = [Go.ResultVar.tmp 2] := rfl
theorem fn40 {P} (h : PrgOk P) : FnOk P 40 Try.f40 := ⟨h.f40, by kernel_rfl, by kernel_rfl⟩
theorem nt40 : Try.f40.ntmps = 51 := rfl
theorem rs40 : Try.f40.results.toList = [Go.ResultVar.tmp 2] := rfl
theorem fn41 {P} (h : PrgOk P) : FnOk P 41 Try.f41 := ⟨h.f41, by kernel_rfl, by kernel_rfl⟩
theorem nt41 : Try.f41.ntmps = 51 := rfl
theorem rs41 : Try.f41.results.toList = [Go.ResultVar.tmp 4, Go.ResultVar.tmp 5] := rfl
theorem fn43 {P} (h : PrgOk P) : FnOk P 43 Try.f43 := ⟨h.f43, by kernel_rfl, by kernel_rfl⟩
theorem nt43 : Try.f43.ntmps = 33 := rfl
theorem rs43 : Try.f43.results.toList = [Go.ResultVar.cell 2 27] := rfl
theorem fn44 {P} (h : PrgOk P) : FnOk P 44 Try.f44 := ⟨h.f44, by kernel_rfl, by kernel_rfl⟩
theorem nt44 : Try.f44.ntmps = 14 := rfl
theorem rs44 : Try.f44.results.toList = [Go.ResultVar.tmp 2] := rfl
theorem fn45 {P} (h : PrgOk P) : FnOk P 45 Try.f45 := ⟨h.f45, by kernel_rfl, by kernel_rfl⟩
theorem nt45 : Try.f45.ntmps = 28 := rfl
theorem rs45 : Try.f45.results.toList = [Go.ResultVar.tmp 4] := rfl
theorem fn46 {P} (h : PrgOk P) : FnOk P 46 Try.f46 := ⟨h.f46, by kernel_rfl, by kernel_rfl⟩
theorem nt46 : Try.f46.ntmps = 21 := rfl
theorem rs46 : Try.f46.results.toList = [Go.ResultVar.tmp 2] := rfl
theorem fn47 {P} (h : PrgOk P) : FnOk P 47 Try.f47 := ⟨h.f47, by kernel_rfl, by kernel_rfl⟩
theorem nt47 : Try.f47.ntmps = 100 := rfl
theorem rs47 : Try.f47.results.toList = [Go.ResultVar.cell 4 27, Go.ResultVar.cell 5 27] := rfl
theorem fn55 {P} (h : PrgOk P) : FnOk P 55 Try.f55 := ⟨h.f55, by kernel_rfl, by kernel_rfl⟩
theorem nt55 : Try.f55.ntmps = 135 := rfl
theorem rs55 : Try.f55.results.toList = [Go.ResultVar.tmp 6, Go.ResultVar.tmp 7] := rfl
theorem fn56 {P} (h : PrgOk P) : FnOk P 56 Try.f56 := ⟨h.f56, by kernel_rfl, by kernel_rfl⟩
theorem nt56 : Try.f56.ntmps = 6 := rfl
theorem rs56 : Try.f56.results.toList = [Go.ResultVar.tmp 2] := rfl
theorem fn57 {P} (h : PrgOk P) : FnOk P 57 Try.f57 := ⟨h.f57, by kernel_rfl, by kernel_rfl⟩
theorem nt57 : Try.f57.ntmps = 57 := rfl
theorem rs57 : Try.f57.results.toList = [Go.ResultVar.tmp 6] := rfl
theorem fn58 {P} (h : PrgOk P) : FnOk P 58 Try.f58 := ⟨h.f58, by kernel_rfl, by kernel_rfl⟩
theorem nt58 : Try.f58.ntmps = 67 := rfl
theorem rs58 : Try.f58.results.toList = [Go.ResultVar.tmp 10] := rfl
theorem fn59 {P} (h : PrgOk P) : FnOk P 59 Try.f59 := ⟨h.f59, by kernel_rfl, by kernel_rfl⟩
theorem nt59 : Try.f59.ntmps = 56 := rfl
theorem rs59 : Try.f59.results.toList = [Go.ResultVar.tmp 6] := rfl
theorem fn60 {P} (h : PrgOk P) : FnOk P 60 Try.f60 := ⟨h.f60, by kernel_rfl, by kernel_rfl⟩
theorem nt60 : Try.f60.ntmps = 34 := rfl
theorem rs60 : Try.f60.results.toList = [] := rfl
theorem fn61 {P} (h : PrgOk P) : FnOk P 61 Try.f61 := ⟨h.f61, by kernel_rfl, by kernel_rfl⟩
theorem nt61 : Try.f61.ntmps = 50 := rfl
theorem rs61 : Try.f61.results.toList = [Go.ResultVar.cell 4 27] := rfl
attribute [go_sem] nt3 rs3 nt4 rs4 nt5 rs5 nt6 rs6 nt7 rs7 nt8 rs8 nt9 rs9 nt10 rs10 nt11 rs11 nt12 rs12 nt13 rs13 nt14 rs14 nt15 rs15 nt16 rs16 nt17 rs17 nt18 rs18 nt19 rs19 nt20 rs20 nt21 rs21 nt22 rs22 nt23 rs23 nt24 rs24 nt25 rs25 nt26 rs26 nt27 rs27 nt28 rs28 nt29 rs29 nt30 rs30 nt31 rs31 nt32 rs32 nt33 rs33 nt34 rs34 nt35 rs35 nt36 rs36 nt37 rs37 nt38 rs38 nt39 rs39 nt40 rs40 nt41 rs41 nt43 rs43 nt44 rs44 nt45 rs45 nt46 rs46 nt47 rs47 nt55 rs55 nt56 rs56 nt57 rs57 nt58 rs58 nt59 rs59 nt60 rs60 nt61 rs61
end Go.Proofs.Ytlgimmafejbmgaa.AM
