/- The program, az a fact about any program that has these functions. -/
import Derived.Test.YtmahhmdeocnlgaaB2
import Derived.Shelf.Small.Bits
import Derived.Shelf.Strconv.Itoa0
import Derived.Shelf.Bits.Mul64
import Derived.Laws.Externs
import Derived.Lib.ItoaNum
import Derived.OpenShut
import Derived.Test.YtmahhmdeocnlgaaRows
import Derived.ProofKit
import Derived.ChangeBears2
import Derived.JoinedOf
import Derived.Handed
import Derived.Carry
namespace Go.Proofs.Ytmahhmdeocnlgaa.AM
set_option linter.all false
set_option autoImplicit true
set_option relaxedAutoImplicit true
open Go Go.Proofs
structure PrgOk (P:Program):Prop where
 mix:P.follows .mixedOrders=true
 t0:TyOk P T0
 t1:TyOk P T1
 t2:TyOk P T2
 tF:TyOk P TF
 len64:∀ x:Nat,x<18446744073709551616→CSpec P 82 [.int .u64 (x:Int)] (.int .i64 (blen x:Nat))
 lz64:∀ x:Nat,x<18446744073709551616→CSpec P 89 [.int .u64 (x:Int)] (.int .i64 ((64-blen x:Nat):Int))
 mul64:∀ x y:Nat,x<18446744073709551616→y<18446744073709551616→CSpec P 71 [.int .u64 (x:Int),.int .u64 (y:Int)] (.tup [.int .u64 ((mulh x y:Nat):Int),.int .u64 ((mull x y:Nat):Int)])
 add64:∀ x y c:Nat,x<18446744073709551616→c≤1→CSpec P 73 [.int .u64 (x:Int),.int .u64 (y:Int),.int .u64 (c:Int)] (.tup [.int .u64 ((addl x y c:Nat):Int),.int .u64 ((addh x y c:Nat):Int)])
 sub64:∀ x y c:Nat,x<18446744073709551616→c≤1→CSpec P 95 [.int .u64 (x:Int),.int .u64 (y:Int),.int .u64 (c:Int)] (.tup [.int .u64 ((subd x y c:Nat):Int),.int .u64 ((bor x y c:Nat):Int)])
 f3:P.funcs[(3:Nat)]? = some Try.f3
 f4:P.funcs[(4:Nat)]? = some Try.f4
 f5:P.funcs[(5:Nat)]? = some Try.f5
 f6:P.funcs[(6:Nat)]? = some Try.f6
 f7:P.funcs[(7:Nat)]? = some Try.f7
 f8:P.funcs[(8:Nat)]? = some Try.f8
 f9:P.funcs[(9:Nat)]? = some Try.f9
 f10:P.funcs[(10:Nat)]? = some Try.f10
 f11:P.funcs[(11:Nat)]? = some Try.f11
 f12:P.funcs[(12:Nat)]? = some Try.f12
 f13:P.funcs[(13:Nat)]? = some Try.f13
 f14:P.funcs[(14:Nat)]? = some Try.f14
 f15:P.funcs[(15:Nat)]? = some Try.f15
 f16:P.funcs[(16:Nat)]? = some Try.f16
 f17:P.funcs[(17:Nat)]? = some Try.f17
 f18:P.funcs[(18:Nat)]? = some Try.f18
 f19:P.funcs[(19:Nat)]? = some Try.f19
 f20:P.funcs[(20:Nat)]? = some Try.f20
 f21:P.funcs[(21:Nat)]? = some Try.f21
 f22:P.funcs[(22:Nat)]? = some Try.f22
 f23:P.funcs[(23:Nat)]? = some Try.f23
 f24:P.funcs[(24:Nat)]? = some Try.f24
 f25:P.funcs[(25:Nat)]? = some Try.f25
 f26:P.funcs[(26:Nat)]? = some Try.f26
 f27:P.funcs[(27:Nat)]? = some Try.f27
 f28:P.funcs[(28:Nat)]? = some Try.f28
 f29:P.funcs[(29:Nat)]? = some Try.f29
 f30:P.funcs[(30:Nat)]? = some Try.f30
 f31:P.funcs[(31:Nat)]? = some Try.f31
 f32:P.funcs[(32:Nat)]? = some Try.f32
 f33:P.funcs[(33:Nat)]? = some Try.f33
 f34:P.funcs[(34:Nat)]? = some Try.f34
 f35:P.funcs[(35:Nat)]? = some Try.f35
 f36:P.funcs[(36:Nat)]? = some Try.f36
 f37:P.funcs[(37:Nat)]? = some Try.f37
 f38:P.funcs[(38:Nat)]? = some Try.f38
 f39:P.funcs[(39:Nat)]? = some Try.f39
 f40:P.funcs[(40:Nat)]? = some Try.f40
 f41:P.funcs[(41:Nat)]? = some Try.f41
 f42:P.funcs[(42:Nat)]? = some Try.f42
 f43:P.funcs[(43:Nat)]? = some Try.f43
 f44:P.funcs[(44:Nat)]? = some Try.f44
 f45:P.funcs[(45:Nat)]? = some Try.f45
 f46:P.funcs[(46:Nat)]? = some Try.f46
 f47:P.funcs[(47:Nat)]? = some Try.f47
 f48:P.funcs[(48:Nat)]? = some Try.f48
 f49:P.funcs[(49:Nat)]? = some Try.f49
 f50:P.funcs[(50:Nat)]? = some Try.f50
 f51:P.funcs[(51:Nat)]? = some Try.f51
 f52:P.funcs[(52:Nat)]? = some Try.f52
 f53:P.funcs[(53:Nat)]? = some Try.f53
 f54:P.funcs[(54:Nat)]? = some Try.f54
 f55:P.funcs[(55:Nat)]? = some Try.f55
 f56:P.funcs[(56:Nat)]? = some Try.f56
 f57:P.funcs[(57:Nat)]? = some Try.f57
 f58:P.funcs[(58:Nat)]? = some Try.f58
 f59:P.funcs[(59:Nat)]? = some Try.f59
 f60:P.funcs[(60:Nat)]? = some Try.f60
 f61:P.funcs[(61:Nat)]? = some Try.f61
 f62:P.funcs[(62:Nat)]? = some Try.f62
 f63:P.funcs[(63:Nat)]? = some Try.f63
 f64:P.funcs[(64:Nat)]? = some Try.f64
 f65:P.funcs[(65:Nat)]? = some Try.f65
 f66:P.funcs[(66:Nat)]? = some Try.f66
 f67:P.funcs[(67:Nat)]? = some Try.f67
 f68:P.funcs[(68:Nat)]? = some Try.f68
 f69:P.funcs[(69:Nat)]? = some Try.f69
 f70:P.funcs[(70:Nat)]? = some Try.f70
 f71:P.funcs[(71:Nat)]? = some Try.f71
 f72:P.funcs[(72:Nat)]? = some Try.f72
 f73:P.funcs[(73:Nat)]? = some Try.f73
 f74:P.funcs[(74:Nat)]? = some Try.f74
 f75:P.funcs[(75:Nat)]? = some Try.f75
 f76:P.funcs[(76:Nat)]? = some Try.f76
 f77:P.funcs[(77:Nat)]? = some Try.f77
 f78:P.funcs[(78:Nat)]? = some Try.f78
 f79:P.funcs[(79:Nat)]? = some Try.f79
 f80:P.funcs[(80:Nat)]? = some Try.f80
 f81:P.funcs[(81:Nat)]? = some Try.f81
 f82:P.funcs[(82:Nat)]? = some Try.f82
 f83:P.funcs[(83:Nat)]? = some Try.f83
 f84:P.funcs[(84:Nat)]? = some Try.f84
 f85:P.funcs[(85:Nat)]? = some Try.f85
 f86:P.funcs[(86:Nat)]? = some Try.f86
 f87:P.funcs[(87:Nat)]? = some Try.f87
 f88:P.funcs[(88:Nat)]? = some Try.f88
 f89:P.funcs[(89:Nat)]? = some Try.f89
 f90:P.funcs[(90:Nat)]? = some Try.f90
 f91:P.funcs[(91:Nat)]? = some Try.f91
 f92:P.funcs[(92:Nat)]? = some Try.f92
 f93:P.funcs[(93:Nat)]? = some Try.f93
 f94:P.funcs[(94:Nat)]? = some Try.f94
 f95:P.funcs[(95:Nat)]? = some Try.f95
 f111:P.funcs[(111:Nat)]? = some Try.f111
 f112:P.funcs[(112:Nat)]? = some Try.f112
theorem fn3 {P} (h:PrgOk P):FnOk P 3 Try.f3:=⟨h.f3,by kernel_rfl,by kernel_rfl⟩
theorem nt3:Try.f3.ntmps=303:=rfl
theorem rs3:Try.f3.results.toList=[Go.ResultVar.tmp 0]:=rfl
theorem fn4 {P} (h:PrgOk P):FnOk P 4 Try.f4:=⟨h.f4,by kernel_rfl,by kernel_rfl⟩
theorem nt4:Try.f4.ntmps=13:=rfl
theorem rs4:Try.f4.results.toList=[Go.ResultVar.cell 4 34,Go.ResultVar.tmp 5]:=rfl
theorem fn5 {P} (h:PrgOk P):FnOk P 5 Try.f5:=⟨h.f5,by kernel_rfl,by kernel_rfl⟩
theorem nt5:Try.f5.ntmps=14:=rfl
theorem rs5:Try.f5.results.toList=[Go.ResultVar.cell 6 32]:=rfl
theorem fn6 {P} (h:PrgOk P):FnOk P 6 Try.f6:=⟨h.f6,by kernel_rfl,by kernel_rfl⟩
theorem nt6:Try.f6.ntmps=36:=rfl
theorem rs6:Try.f6.results.toList=[Go.ResultVar.cell 4 34,Go.ResultVar.tmp 5]:=rfl
theorem fn7 {P} (h:PrgOk P):FnOk P 7 Try.f7:=⟨h.f7,by kernel_rfl,by kernel_rfl⟩
theorem nt7:Try.f7.ntmps=121:=rfl
theorem rs7:Try.f7.results.toList=[Go.ResultVar.cell 4 40,Go.ResultVar.tmp 5]:=rfl
theorem fn8 {P} (h:PrgOk P):FnOk P 8 Try.f8:=⟨h.f8,by kernel_rfl,by kernel_rfl⟩
theorem nt8:Try.f8.ntmps=6:=rfl
theorem rs8:Try.f8.results.toList=[Go.ResultVar.cell 2 29]:=rfl
theorem fn9 {P} (h:PrgOk P):FnOk P 9 Try.f9:=⟨h.f9,by kernel_rfl,by kernel_rfl⟩
theorem nt9:Try.f9.ntmps=50:=rfl
theorem rs9:Try.f9.results.toList=[Go.ResultVar.cell 4 34,Go.ResultVar.tmp 5]:=rfl
theorem fn10 {P} (h:PrgOk P):FnOk P 10 Try.f10:=⟨h.f10,by kernel_rfl,by kernel_rfl⟩
theorem nt10:Try.f10.ntmps=23:=rfl
theorem rs10:Try.f10.results.toList=[Go.ResultVar.tmp 4]:=rfl
theorem fn11 {P} (h:PrgOk P):FnOk P 11 Try.f11:=⟨h.f11,by kernel_rfl,by kernel_rfl⟩
theorem nt11:Try.f11.ntmps=5:=rfl
theorem rs11:Try.f11.results.toList=[Go.ResultVar.cell 2 32]:=rfl
theorem fn12 {P} (h:PrgOk P):FnOk P 12 Try.f12:=⟨h.f12,by kernel_rfl,by kernel_rfl⟩
theorem nt12:Try.f12.ntmps=9:=rfl
theorem rs12:Try.f12.results.toList=[Go.ResultVar.cell 2 32]:=rfl
theorem fn13 {P} (h:PrgOk P):FnOk P 13 Try.f13:=⟨h.f13,by kernel_rfl,by kernel_rfl⟩
theorem nt13:Try.f13.ntmps=39:=rfl
theorem rs13:Try.f13.results.toList=[Go.ResultVar.cell 4 29,Go.ResultVar.tmp 5,Go.ResultVar.tmp 6]:=rfl
theorem fn14 {P} (h:PrgOk P):FnOk P 14 Try.f14:=⟨h.f14,by kernel_rfl,by kernel_rfl⟩
theorem nt14:Try.f14.ntmps=49:=rfl
theorem rs14:Try.f14.results.toList=[Go.ResultVar.cell 4 32,Go.ResultVar.tmp 5]:=rfl
theorem fn15 {P} (h:PrgOk P):FnOk P 15 Try.f15:=⟨h.f15,by kernel_rfl,by kernel_rfl⟩
theorem nt15:Try.f15.ntmps=33:=rfl
theorem rs15:Try.f15.results.toList=[Go.ResultVar.cell 4 29,Go.ResultVar.tmp 5]:=rfl
theorem fn16 {P} (h:PrgOk P):FnOk P 16 Try.f16:=⟨h.f16,by kernel_rfl,by kernel_rfl⟩
theorem nt16:Try.f16.ntmps=18:=rfl
theorem rs16:Try.f16.results.toList=[Go.ResultVar.tmp 2]:=rfl
theorem fn17 {P} (h:PrgOk P):FnOk P 17 Try.f17:=⟨h.f17,by kernel_rfl,by kernel_rfl⟩
theorem nt17:Try.f17.ntmps=22:=rfl
theorem rs17:Try.f17.results.toList=[Go.ResultVar.tmp 2]:=rfl
theorem fn18 {P} (h:PrgOk P):FnOk P 18 Try.f18:=⟨h.f18,by kernel_rfl,by kernel_rfl⟩
theorem nt18:Try.f18.ntmps=6:=rfl
theorem rs18:Try.f18.results.toList=[Go.ResultVar.tmp 2]:=rfl
theorem fn19 {P} (h:PrgOk P):FnOk P 19 Try.f19:=⟨h.f19,by kernel_rfl,by kernel_rfl⟩
theorem nt19:Try.f19.ntmps=59:=rfl
theorem rs19:Try.f19.results.toList=[Go.ResultVar.tmp 0]:=rfl
theorem fn20 {P} (h:PrgOk P):FnOk P 20 Try.f20:=⟨h.f20,by kernel_rfl,by kernel_rfl⟩
theorem nt20:Try.f20.ntmps=7:=rfl
theorem rs20:Try.f20.results.toList=[Go.ResultVar.cell 4 32]:=rfl
theorem fn21 {P} (h:PrgOk P):FnOk P 21 Try.f21:=⟨h.f21,by kernel_rfl,by kernel_rfl⟩
theorem nt21:Try.f21.ntmps=12:=rfl
theorem rs21:Try.f21.results.toList=[Go.ResultVar.cell 6 32]:=rfl
theorem fn22 {P} (h:PrgOk P):FnOk P 22 Try.f22:=⟨h.f22,by kernel_rfl,by kernel_rfl⟩
theorem nt22:Try.f22.ntmps=62:=rfl
theorem rs22:Try.f22.results.toList=[Go.ResultVar.cell 2 32]:=rfl
theorem fn23 {P} (h:PrgOk P):FnOk P 23 Try.f23:=⟨h.f23,by kernel_rfl,by kernel_rfl⟩
theorem nt23:Try.f23.ntmps=5:=rfl
theorem rs23:Try.f23.results.toList=[Go.ResultVar.cell 2 32]:=rfl
theorem fn24 {P} (h:PrgOk P):FnOk P 24 Try.f24:=⟨h.f24,by kernel_rfl,by kernel_rfl⟩
theorem nt24:Try.f24.ntmps=26:=rfl
theorem rs24:Try.f24.results.toList=[Go.ResultVar.cell 4 29,Go.ResultVar.tmp 5]:=rfl
theorem fn25 {P} (h:PrgOk P):FnOk P 25 Try.f25:=⟨h.f25,by kernel_rfl,by kernel_rfl⟩
theorem nt25:Try.f25.ntmps=23:=rfl
theorem rs25:Try.f25.results.toList=[Go.ResultVar.cell 4 29]:=rfl
theorem fn26 {P} (h:PrgOk P):FnOk P 26 Try.f26:=⟨h.f26,by kernel_rfl,by kernel_rfl⟩
theorem nt26:Try.f26.ntmps=7:=rfl
theorem rs26:Try.f26.results.toList=[Go.ResultVar.cell 4 32]:=rfl
theorem fn27 {P} (h:PrgOk P):FnOk P 27 Try.f27:=⟨h.f27,by kernel_rfl,by kernel_rfl⟩
theorem nt27:Try.f27.ntmps=6:=rfl
theorem rs27:Try.f27.results.toList=[Go.ResultVar.cell 2 29]:=rfl
theorem fn28 {P} (h:PrgOk P):FnOk P 28 Try.f28:=⟨h.f28,by kernel_rfl,by kernel_rfl⟩
theorem nt28:Try.f28.ntmps=6:=rfl
theorem rs28:Try.f28.results.toList=[Go.ResultVar.cell 2 29]:=rfl
theorem fn29 {P} (h:PrgOk P):FnOk P 29 Try.f29:=⟨h.f29,by kernel_rfl,by kernel_rfl⟩
theorem nt29:Try.f29.ntmps=6:=rfl
theorem rs29:Try.f29.results.toList=[Go.ResultVar.cell 2 29]:=rfl
theorem fn30 {P} (h:PrgOk P):FnOk P 30 Try.f30:=⟨h.f30,by kernel_rfl,by kernel_rfl⟩
theorem nt30:Try.f30.ntmps=5:=rfl
theorem rs30:Try.f30.results.toList=[Go.ResultVar.cell 2 25]:=rfl
theorem fn31 {P} (h:PrgOk P):FnOk P 31 Try.f31:=⟨h.f31,by kernel_rfl,by kernel_rfl⟩
theorem nt31:Try.f31.ntmps=63:=rfl
theorem rs31:Try.f31.results.toList=[Go.ResultVar.cell 4 25,Go.ResultVar.cell 5 25,Go.ResultVar.tmp 6]:=rfl
theorem fn32 {P} (h:PrgOk P):FnOk P 32 Try.f32:=⟨h.f32,by kernel_rfl,by kernel_rfl⟩
theorem nt32:Try.f32.ntmps=7:=rfl
theorem rs32:Try.f32.results.toList=[Go.ResultVar.cell 2 25]:=rfl
theorem fn33 {P} (h:PrgOk P):FnOk P 33 Try.f33:=⟨h.f33,by kernel_rfl,by kernel_rfl⟩
theorem nt33:Try.f33.ntmps=43:=rfl
theorem rs33:Try.f33.results.toList=[Go.ResultVar.cell 4 25]:=rfl
theorem fn34 {P} (h:PrgOk P):FnOk P 34 Try.f34:=⟨h.f34,by kernel_rfl,by kernel_rfl⟩
theorem nt34:Try.f34.ntmps=111:=rfl
theorem rs34:Try.f34.results.toList=[Go.ResultVar.cell 4 25]:=rfl
theorem fn35 {P} (h:PrgOk P):FnOk P 35 Try.f35:=⟨h.f35,by kernel_rfl,by kernel_rfl⟩
theorem nt35:Try.f35.ntmps=16:=rfl
theorem rs35:Try.f35.results.toList=[Go.ResultVar.cell 4 27]:=rfl
theorem fn36 {P} (h:PrgOk P):FnOk P 36 Try.f36:=⟨h.f36,by kernel_rfl,by kernel_rfl⟩
theorem nt36:Try.f36.ntmps=5:=rfl
theorem rs36:Try.f36.results.toList=[Go.ResultVar.cell 2 27]:=rfl
theorem fn37 {P} (h:PrgOk P):FnOk P 37 Try.f37:=⟨h.f37,by kernel_rfl,by kernel_rfl⟩
theorem nt37:Try.f37.ntmps=13:=rfl
theorem rs37:Try.f37.results.toList=[Go.ResultVar.cell 4 27]:=rfl
theorem fn38 {P} (h:PrgOk P):FnOk P 38 Try.f38:=⟨h.f38,by kernel_rfl,by kernel_rfl⟩
theorem nt38:Try.f38.ntmps=17:=rfl
theorem rs38:Try.f38.results.toList=[Go.ResultVar.tmp 2]:=rfl
theorem fn39 {P} (h:PrgOk P):FnOk P 39 Try.f39:=⟨h.f39,by kernel_rfl,by kernel_rfl⟩
theorem nt39:Try.f39.ntmps=11:=rfl
theorem rs39:Try.f39.results.toList=[Go.ResultVar.tmp 2]:=rfl
theorem fn40 {P} (h:PrgOk P):FnOk P 40 Try.f40:=⟨h.f40,by kernel_rfl,by kernel_rfl⟩
theorem nt40:Try.f40.ntmps=9:=rfl
theorem rs40:Try.f40.results.toList=[Go.ResultVar.cell 2 27]:=rfl
theorem fn41 {P} (h:PrgOk P):FnOk P 41 Try.f41:=⟨h.f41,by kernel_rfl,by kernel_rfl⟩
theorem nt41:Try.f41.ntmps=5:=rfl
theorem rs41:Try.f41.results.toList=[Go.ResultVar.cell 2 29]:=rfl
theorem fn42 {P} (h:PrgOk P):FnOk P 42 Try.f42:=⟨h.f42,by kernel_rfl,by kernel_rfl⟩
theorem nt42:Try.f42.ntmps=14:=rfl
theorem rs42:Try.f42.results.toList=[Go.ResultVar.cell 2 27]:=rfl
theorem fn43 {P} (h:PrgOk P):FnOk P 43 Try.f43:=⟨h.f43,by kernel_rfl,by kernel_rfl⟩
theorem nt43:Try.f43.ntmps=5:=rfl
theorem rs43:Try.f43.results.toList=[Go.ResultVar.cell 2 32]:=rfl
theorem fn44 {P} (h:PrgOk P):FnOk P 44 Try.f44:=⟨h.f44,by kernel_rfl,by kernel_rfl⟩
theorem nt44:Try.f44.ntmps=7:=rfl
theorem rs44:Try.f44.results.toList=[Go.ResultVar.cell 4 32]:=rfl
theorem fn45 {P} (h:PrgOk P):FnOk P 45 Try.f45:=⟨h.f45,by kernel_rfl,by kernel_rfl⟩
theorem nt45:Try.f45.ntmps=7:=rfl
theorem rs45:Try.f45.results.toList=[Go.ResultVar.cell 4 32]:=rfl
theorem fn46 {P} (h:PrgOk P):FnOk P 46 Try.f46:=⟨h.f46,by kernel_rfl,by kernel_rfl⟩
theorem nt46:Try.f46.ntmps=5:=rfl
theorem rs46:Try.f46.results.toList=[Go.ResultVar.cell 2 29]:=rfl
theorem fn47 {P} (h:PrgOk P):FnOk P 47 Try.f47:=⟨h.f47,by kernel_rfl,by kernel_rfl⟩
theorem nt47:Try.f47.ntmps=27:=rfl
theorem rs47:Try.f47.results.toList=[Go.ResultVar.tmp 4]:=rfl
theorem fn48 {P} (h:PrgOk P):FnOk P 48 Try.f48:=⟨h.f48,by kernel_rfl,by kernel_rfl⟩
theorem nt48:Try.f48.ntmps=12:=rfl
theorem rs48:Try.f48.results.toList=[Go.ResultVar.cell 4 29]:=rfl
theorem fn49 {P} (h:PrgOk P):FnOk P 49 Try.f49:=⟨h.f49,by kernel_rfl,by kernel_rfl⟩
theorem nt49:Try.f49.ntmps=9:=rfl
theorem rs49:Try.f49.results.toList=[Go.ResultVar.cell 2 29]:=rfl
theorem fn50 {P} (h:PrgOk P):FnOk P 50 Try.f50:=⟨h.f50,by kernel_rfl,by kernel_rfl⟩
theorem nt50:Try.f50.ntmps=12:=rfl
theorem rs50:Try.f50.results.toList=[Go.ResultVar.cell 4 32]:=rfl
theorem fn51 {P} (h:PrgOk P):FnOk P 51 Try.f51:=⟨h.f51,by kernel_rfl,by kernel_rfl⟩
theorem nt51:Try.f51.ntmps=24:=rfl
theorem rs51:Try.f51.results.toList=[Go.ResultVar.tmp 2]:=rfl
theorem fn52 {P} (h:PrgOk P):FnOk P 52 Try.f52:=⟨h.f52,by kernel_rfl,by kernel_rfl⟩
theorem nt52:Try.f52.ntmps=12:=rfl
theorem rs52:Try.f52.results.toList=[Go.ResultVar.tmp 2]:=rfl
theorem fn53 {P} (h:PrgOk P):FnOk P 53 Try.f53:=⟨h.f53,by kernel_rfl,by kernel_rfl⟩
theorem nt53:Try.f53.ntmps=85:=rfl
theorem rs53:Try.f53.results.toList=[Go.ResultVar.tmp 2]:=rfl
theorem fn54 {P} (h:PrgOk P):FnOk P 54 Try.f54:=⟨h.f54,by kernel_rfl,by kernel_rfl⟩
theorem nt54:Try.f54.ntmps=15:=rfl
theorem rs54:Try.f54.results.toList=[Go.ResultVar.cell 2 32]:=rfl
theorem fn55 {P} (h:PrgOk P):FnOk P 55 Try.f55:=⟨h.f55,by kernel_rfl,by kernel_rfl⟩
theorem nt55:Try.f55.ntmps=14:=rfl
theorem rs55:Try.f55.results.toList=[Go.ResultVar.cell 4 29]:=rfl
theorem fn56 {P} (h:PrgOk P):FnOk P 56 Try.f56:=⟨h.f56,by kernel_rfl,by kernel_rfl⟩
theorem nt56:Try.f56.ntmps=8:=rfl
theorem rs56:Try.f56.results.toList=[Go.ResultVar.cell 4 29]:=rfl
theorem fn57 {P} (h:PrgOk P):FnOk P 57 Try.f57:=⟨h.f57,by kernel_rfl,by kernel_rfl⟩
theorem nt57:Try.f57.ntmps=9:=rfl
theorem rs57:Try.f57.results.toList=[Go.ResultVar.cell 3 29]:=rfl
theorem fn58 {P} (h:PrgOk P):FnOk P 58 Try.f58:=⟨h.f58,by kernel_rfl,by kernel_rfl⟩
theorem nt58:Try.f58.ntmps=9:=rfl
theorem rs58:Try.f58.results.toList=[Go.ResultVar.cell 3 29]:=rfl
theorem fn59 {P} (h:PrgOk P):FnOk P 59 Try.f59:=⟨h.f59,by kernel_rfl,by kernel_rfl⟩
theorem nt59:Try.f59.ntmps=42:=rfl
theorem rs59:Try.f59.results.toList=[Go.ResultVar.cell 4 29]:=rfl
theorem fn60 {P} (h:PrgOk P):FnOk P 60 Try.f60:=⟨h.f60,by kernel_rfl,by kernel_rfl⟩
theorem nt60:Try.f60.ntmps=9:=rfl
theorem rs60:Try.f60.results.toList=[Go.ResultVar.cell 4 27]:=rfl
theorem fn61 {P} (h:PrgOk P):FnOk P 61 Try.f61:=⟨h.f61,by kernel_rfl,by kernel_rfl⟩
theorem nt61:Try.f61.ntmps=5:=rfl
theorem rs61:Try.f61.results.toList=[Go.ResultVar.cell 2 25]:=rfl
theorem fn62 {P} (h:PrgOk P):FnOk P 62 Try.f62:=⟨h.f62,by kernel_rfl,by kernel_rfl⟩
theorem nt62:Try.f62.ntmps=8:=rfl
theorem rs62:Try.f62.results.toList=[Go.ResultVar.cell 4 29]:=rfl
theorem fn63 {P} (h:PrgOk P):FnOk P 63 Try.f63:=⟨h.f63,by kernel_rfl,by kernel_rfl⟩
theorem nt63:Try.f63.ntmps=26:=rfl
theorem rs63:Try.f63.results.toList=[Go.ResultVar.cell 4 29]:=rfl
theorem fn64 {P} (h:PrgOk P):FnOk P 64 Try.f64:=⟨h.f64,by kernel_rfl,by kernel_rfl⟩
theorem nt64:Try.f64.ntmps=11:=rfl
theorem rs64:Try.f64.results.toList=[Go.ResultVar.cell 4 29]:=rfl
theorem fn65 {P} (h:PrgOk P):FnOk P 65 Try.f65:=⟨h.f65,by kernel_rfl,by kernel_rfl⟩
theorem nt65:Try.f65.ntmps=49:=rfl
theorem rs65:Try.f65.results.toList=[Go.ResultVar.tmp 4]:=rfl
theorem fn66 {P} (h:PrgOk P):FnOk P 66 Try.f66:=⟨h.f66,by kernel_rfl,by kernel_rfl⟩
theorem nt66:Try.f66.ntmps=28:=rfl
theorem rs66:Try.f66.results.toList=[Go.ResultVar.tmp 4]:=rfl
theorem fn67 {P} (h:PrgOk P):FnOk P 67 Try.f67:=⟨h.f67,by kernel_rfl,by kernel_rfl⟩
theorem nt67:Try.f67.ntmps=33:=rfl
theorem rs67:Try.f67.results.toList=[Go.ResultVar.cell 2 25]:=rfl
theorem fn68 {P} (h:PrgOk P):FnOk P 68 Try.f68:=⟨h.f68,by kernel_rfl,by kernel_rfl⟩
theorem nt68:Try.f68.ntmps=100:=rfl
theorem rs68:Try.f68.results.toList=[Go.ResultVar.cell 4 25,Go.ResultVar.cell 5 25]:=rfl
theorem fn69 {P} (h:PrgOk P):FnOk P 69 Try.f69:=⟨h.f69,by kernel_rfl,by kernel_rfl⟩
theorem nt69:Try.f69.ntmps=86:=rfl
theorem rs69:Try.f69.results.toList=[Go.ResultVar.cell 4 25]:=rfl
theorem fn70 {P} (h:PrgOk P):FnOk P 70 Try.f70:=⟨h.f70,by kernel_rfl,by kernel_rfl⟩
theorem nt70:Try.f70.ntmps=2:=rfl
theorem rs70:Try.f70.results.toList=[Go.ResultVar.cell 0 25]:=rfl
theorem nt71:Try.f71.ntmps=51:=rfl
theorem rs71:Try.f71.results.toList=[Go.ResultVar.tmp 4,Go.ResultVar.tmp 5]:=rfl
theorem fn72 {P} (h:PrgOk P):FnOk P 72 Try.f72:=⟨h.f72,by kernel_rfl,by kernel_rfl⟩
theorem nt72:Try.f72.ntmps=14:=rfl
theorem rs72:Try.f72.results.toList=[Go.ResultVar.tmp 2]:=rfl
theorem fn74 {P} (h:PrgOk P):FnOk P 74 Try.f74:=⟨h.f74,by kernel_rfl,by kernel_rfl⟩
theorem nt74:Try.f74.ntmps=13:=rfl
theorem rs74:Try.f74.results.toList=[]:=rfl
theorem fn75 {P} (h:PrgOk P):FnOk P 75 Try.f75:=⟨h.f75,by kernel_rfl,by kernel_rfl⟩
theorem nt75:Try.f75.ntmps=11:=rfl
theorem rs75:Try.f75.results.toList=[]:=rfl
theorem fn76 {P} (h:PrgOk P):FnOk P 76 Try.f76:=⟨h.f76,by kernel_rfl,by kernel_rfl⟩
theorem nt76:Try.f76.ntmps=38:=rfl
theorem rs76:Try.f76.results.toList=[]:=rfl
theorem fn77 {P} (h:PrgOk P):FnOk P 77 Try.f77:=⟨h.f77,by kernel_rfl,by kernel_rfl⟩
theorem nt77:Try.f77.ntmps=9:=rfl
theorem rs77:Try.f77.results.toList=[Go.ResultVar.cell 2 32]:=rfl
theorem fn78 {P} (h:PrgOk P):FnOk P 78 Try.f78:=⟨h.f78,by kernel_rfl,by kernel_rfl⟩
theorem nt78:Try.f78.ntmps=32:=rfl
theorem rs78:Try.f78.results.toList=[Go.ResultVar.cell 4 29]:=rfl
theorem fn79 {P} (h:PrgOk P):FnOk P 79 Try.f79:=⟨h.f79,by kernel_rfl,by kernel_rfl⟩
theorem nt79:Try.f79.ntmps=14:=rfl
theorem rs79:Try.f79.results.toList=[Go.ResultVar.cell 4 29]:=rfl
theorem fn80 {P} (h:PrgOk P):FnOk P 80 Try.f80:=⟨h.f80,by kernel_rfl,by kernel_rfl⟩
theorem nt80:Try.f80.ntmps=7:=rfl
theorem rs80:Try.f80.results.toList=[Go.ResultVar.tmp 2]:=rfl
theorem fn81 {P} (h:PrgOk P):FnOk P 81 Try.f81:=⟨h.f81,by kernel_rfl,by kernel_rfl⟩
theorem nt81:Try.f81.ntmps=28:=rfl
theorem rs81:Try.f81.results.toList=[Go.ResultVar.tmp 4]:=rfl
theorem nt82:Try.f82.ntmps=25:=rfl
theorem rs82:Try.f82.results.toList=[Go.ResultVar.tmp 2]:=rfl
theorem fn83 {P} (h:PrgOk P):FnOk P 83 Try.f83:=⟨h.f83,by kernel_rfl,by kernel_rfl⟩
theorem nt83:Try.f83.ntmps=44:=rfl
theorem rs83:Try.f83.results.toList=[Go.ResultVar.cell 6 29]:=rfl
theorem fn84 {P} (h:PrgOk P):FnOk P 84 Try.f84:=⟨h.f84,by kernel_rfl,by kernel_rfl⟩
theorem nt84:Try.f84.ntmps=9:=rfl
theorem rs84:Try.f84.results.toList=[Go.ResultVar.cell 4 27]:=rfl
theorem fn85 {P} (h:PrgOk P):FnOk P 85 Try.f85:=⟨h.f85,by kernel_rfl,by kernel_rfl⟩
theorem nt85:Try.f85.ntmps=15:=rfl
theorem rs85:Try.f85.results.toList=[Go.ResultVar.cell 3 25]:=rfl
theorem fn86 {P} (h:PrgOk P):FnOk P 86 Try.f86:=⟨h.f86,by kernel_rfl,by kernel_rfl⟩
theorem nt86:Try.f86.ntmps=66:=rfl
theorem rs86:Try.f86.results.toList=[Go.ResultVar.cell 4 25,Go.ResultVar.tmp 5]:=rfl
theorem fn87 {P} (h:PrgOk P):FnOk P 87 Try.f87:=⟨h.f87,by kernel_rfl,by kernel_rfl⟩
theorem nt87:Try.f87.ntmps=40:=rfl
theorem rs87:Try.f87.results.toList=[Go.ResultVar.cell 4 27]:=rfl
theorem fn88 {P} (h:PrgOk P):FnOk P 88 Try.f88:=⟨h.f88,by kernel_rfl,by kernel_rfl⟩
theorem nt88:Try.f88.ntmps=135:=rfl
theorem rs88:Try.f88.results.toList=[Go.ResultVar.tmp 6,Go.ResultVar.tmp 7]:=rfl
theorem nt89:Try.f89.ntmps=6:=rfl
theorem rs89:Try.f89.results.toList=[Go.ResultVar.tmp 2]:=rfl
theorem fn90 {P} (h:PrgOk P):FnOk P 90 Try.f90:=⟨h.f90,by kernel_rfl,by kernel_rfl⟩
theorem nt90:Try.f90.ntmps=57:=rfl
theorem rs90:Try.f90.results.toList=[Go.ResultVar.tmp 6]:=rfl
theorem fn91 {P} (h:PrgOk P):FnOk P 91 Try.f91:=⟨h.f91,by kernel_rfl,by kernel_rfl⟩
theorem nt91:Try.f91.ntmps=67:=rfl
theorem rs91:Try.f91.results.toList=[Go.ResultVar.tmp 10]:=rfl
theorem fn92 {P} (h:PrgOk P):FnOk P 92 Try.f92:=⟨h.f92,by kernel_rfl,by kernel_rfl⟩
theorem nt92:Try.f92.ntmps=56:=rfl
theorem rs92:Try.f92.results.toList=[Go.ResultVar.tmp 6]:=rfl
theorem fn93 {P} (h:PrgOk P):FnOk P 93 Try.f93:=⟨h.f93,by kernel_rfl,by kernel_rfl⟩
theorem nt93:Try.f93.ntmps=34:=rfl
theorem rs93:Try.f93.results.toList=[]:=rfl
theorem fn94 {P} (h:PrgOk P):FnOk P 94 Try.f94:=⟨h.f94,by kernel_rfl,by kernel_rfl⟩
theorem nt94:Try.f94.ntmps=50:=rfl
theorem rs94:Try.f94.results.toList=[Go.ResultVar.cell 4 25]:=rfl
attribute [go_sem] nt3 rs3 nt4 rs4 nt5 rs5 nt6 rs6 nt7 rs7 nt8 rs8 nt9 rs9 nt10 rs10 nt11 rs11 nt12 rs12 nt13 rs13 nt14 rs14 nt15 rs15 nt16 rs16 nt17 rs17 nt18 rs18 nt19 rs19 nt20 rs20 nt21 rs21 nt22 rs22 nt23 rs23 nt24 rs24 nt25 rs25 nt26 rs26 nt27 rs27 nt28 rs28 nt29 rs29 nt30 rs30 nt31 rs31 nt32 rs32 nt33 rs33 nt34 rs34 nt35 rs35 nt36 rs36 nt37 rs37 nt38 rs38 nt39 rs39 nt40 rs40 nt41 rs41 nt42 rs42 nt43 rs43 nt44 rs44 nt45 rs45 nt46 rs46 nt47 rs47 nt48 rs48 nt49 rs49 nt50 rs50 nt51 rs51 nt52 rs52 nt53 rs53 nt54 rs54 nt55 rs55 nt56 rs56 nt57 rs57 nt58 rs58 nt59 rs59 nt60 rs60 nt61 rs61 nt62 rs62 nt63 rs63 nt64 rs64 nt65 rs65 nt66 rs66 nt67 rs67 nt68 rs68 nt69 rs69 nt70 rs70 nt71 rs71 nt72 rs72 nt74 rs74 nt75 rs75 nt76 rs76 nt77 rs77 nt78 rs78 nt79 rs79 nt80 rs80 nt81 rs81 nt82 rs82 nt83 rs83 nt84 rs84 nt85 rs85 nt86 rs86 nt87 rs87 nt88 rs88 nt89 rs89 nt90 rs90 nt91 rs91 nt92 rs92 nt93 rs93 nt94 rs94
end Go.Proofs.Ytmahhmdeocnlgaa.AM
/- The library's functions that the program calls; the program has all that was asked of it. -/
namespace Go.Proofs.Ytmahhmdeocnlgaa.AM
set_option linter.all false
set_option autoImplicit true
set_option relaxedAutoImplicit true
open Go Go.Proofs Go.Shelf
set_option maxRecDepth 100000
def shl134_ren:Go.Shelf.Ren:=⟨fun|134=>89|129=>82|n=>n,fun|53=>22|3=>3|4=>4|46=>110|5=>5|9=>9|n=>n,fun|n=>n⟩
theorem shl134:Go.Proofs.Lays.n134 Try.prog shl134_ren:={
 mixed:=by kernel_rfl
 f129:=Try.func82.trans (congrArg some (by kernel_rfl))
 f134:=Try.func89.trans (congrArg some (by kernel_rfl))
 t3:=Try.underlying3
 a3:=Try.isAgg3
 z3:=Try.sizeOf3
 v3:=Try.zeroValue3
 t4:=Try.underlying4
 a4:=Try.isAgg4
 z4:=Try.sizeOf4
 v4:=Try.zeroValue4
 t5:=Try.underlying5
 a5:=Try.isAgg5
 z5:=Try.sizeOf5
 v5:=Try.zeroValue5
 t9:=Try.underlying9
 a9:=Try.isAgg9
 z9:=Try.sizeOf9
 v9:=Try.zeroValue9
 t46:=Try.underlying110
 a46:=Try.isAgg110
 z46:=Try.sizeOf110
 v46:=Try.zeroValue110
 t53:=Try.underlying22
 a53:=Try.isAgg22
 z53:=Try.sizeOf22
 v53:=Try.zeroValue22 }
theorem sh_LeadingZeros64 (x:Int) (w:World) (h0:0≤x) (h1:x≤18446744073709551615) :
 Calls Try.prog 89 #[.int .u64 x] w fun e w'=>e = .returned (.int .i64 (64-(Lib.bitLen x.toNat:Int)))∧w'=w:=Any.bits_LeadingZeros64 shl134 x w h0 h1
def shl129_ren:Go.Shelf.Ren:=⟨fun|129=>82|n=>n,fun|53=>22|3=>3|4=>4|46=>110|5=>5|9=>9|n=>n,fun|n=>n⟩
theorem shl129:Go.Proofs.Lays.n129 Try.prog shl129_ren:={
 mixed:=by kernel_rfl
 f129:=Try.func82.trans (congrArg some (by kernel_rfl))
 t3:=Try.underlying3
 a3:=Try.isAgg3
 z3:=Try.sizeOf3
 v3:=Try.zeroValue3
 t4:=Try.underlying4
 a4:=Try.isAgg4
 z4:=Try.sizeOf4
 v4:=Try.zeroValue4
 t5:=Try.underlying5
 a5:=Try.isAgg5
 z5:=Try.sizeOf5
 v5:=Try.zeroValue5
 t9:=Try.underlying9
 a9:=Try.isAgg9
 z9:=Try.sizeOf9
 v9:=Try.zeroValue9
 t46:=Try.underlying110
 a46:=Try.isAgg110
 z46:=Try.sizeOf110
 v46:=Try.zeroValue110
 t53:=Try.underlying22
 a53:=Try.isAgg22
 z53:=Try.sizeOf22
 v53:=Try.zeroValue22 }
theorem sh_Len64 (x:Int) (w:World) (h0:0≤x) (h1:x≤18446744073709551615) :
 Calls Try.prog 82 #[.int .u64 x] w fun e w'=>e = .returned (.int .i64 (Lib.bitLen x.toNat))∧w'=w:=Any.bits_Len64 shl129 x w h0 h1
def shl264_ren:Go.Shelf.Ren:=⟨fun|264=>71|n=>n,fun|53=>22|46=>110|n=>n,fun|n=>n⟩
theorem shl264:Go.Proofs.Lays.n264 Try.prog shl264_ren:={
 mixed:=by kernel_rfl
 f264:=Try.func71.trans (congrArg some (by kernel_rfl))
 t46:=Try.underlying110
 a46:=Try.isAgg110
 z46:=Try.sizeOf110
 v46:=Try.zeroValue110
 t53:=Try.underlying22
 a53:=Try.isAgg22
 z53:=Try.sizeOf22
 v53:=Try.zeroValue22 }
open Go.RowKit Go.Lib in
theorem sh_Mul64 (x y:Nat) (hx:x<18446744073709551616) (hy:y<18446744073709551616) (w:World) :
 Calls Try.prog 71 #[.int .u64 x,.int .u64 y] w fun e w'=>e = .returned (.tuple #[.int .u64 ((x*y / 18446744073709551616:Nat):Int),.int .u64 ((x*y % 18446744073709551616:Nat):Int)])∧w'=w:=Any.bits_Mul64 shl264 x y hx hy w
theorem enter_of {P:Program} {f fn c} (hf:P.funcs[f]? = some fn) (hb:fn.body=some c) (hn:(fn.name == "runtime.NumGoroutine")=false) {vs w R} (h:Calls P f vs w fun e w'=>∃ v,e = .returned v∧R v w'):Invk P f vs w R:=by
 unfold Invk; rw [callFunc_enter hf hb hn]; exact h
theorem blen_eq (x:Nat) (h:x<18446744073709551616):Lib.bitLen x=blen x:=by
 unfold blen
 split
 · rename_i e; subst e; exact Lib.bitLenAux_zero _
 · rename_i e
   obtain ⟨h1,h2,h3⟩:=Lib.bitLenAux_bounds 64 x (by simpa using h) e
   have k1:=Nat.log2_self_le e
   have k2:x<2^(x.log2+1):=Nat.lt_log2_self
   have a1:Lib.bitLen x-1<x.log2+1:=(Nat.pow_lt_pow_iff_right (by decide:1<2)).1 (Nat.lt_of_le_of_lt h2 k2)
   have a2:x.log2<Lib.bitLen x:=(Nat.pow_lt_pow_iff_right (by decide:1<2)).1 (Nat.lt_of_le_of_lt k1 h3)
   unfold Lib.bitLen at *
   omega
theorem blen_le (x:Nat) (h:x<18446744073709551616):blen x≤64:=by
 unfold blen; split
 · omega
 · rename_i e
   have:x.log2<64:=(Nat.log2_lt e).2 (by simpa using h)
   omega
theorem Below.rfl' {w:World}:RowKit.Below w.heap.size w w:=RowKit.Below.refl _ _
theorem sh_len64 (x:Nat) (h:x<18446744073709551616):CSpec Try.prog 82 [.int .u64 (x:Int)] (.int .i64 (blen x:Nat)):=by
 intro X φ w vs _ hr
 obtain ⟨v,vs',rfl,h1,h2⟩:=hr.uncons rfl
 obtain rfl:=h1.int_inv
 obtain rfl:=h2.nil_of
 refine enter_of Try.func82 rfl rfl ((sh_Len64 x w (by omega) (by omega)).mono fun e w' he=>⟨_,he.1,?_⟩)
 obtain ⟨_,rfl⟩:=he
 rw [Int.toNat_natCast,blen_eq x h]
 exact ⟨.int _ _ .nil,Below.rfl'⟩
theorem sh_lz64 (x:Nat) (h:x<18446744073709551616):CSpec Try.prog 89 [.int .u64 (x:Int)] (.int .i64 ((64-blen x:Nat):Int)):=by
 intro X φ w vs _ hr
 obtain ⟨v,vs',rfl,h1,h2⟩:=hr.uncons rfl
 obtain rfl:=h1.int_inv
 obtain rfl:=h2.nil_of
 refine enter_of Try.func89 rfl rfl ((sh_LeadingZeros64 x w (by omega) (by omega)).mono fun e w' he=>⟨_,he.1,?_⟩)
 obtain ⟨_,rfl⟩:=he
 have:=blen_le x h
 rw [Int.toNat_natCast,blen_eq x h,show (64:Int)-(blen x:Int)=((64-blen x:Nat):Int) by omega]
 exact ⟨.int _ _ .nil,Below.rfl'⟩
theorem sh_mul64 (x y:Nat) (hx:x<18446744073709551616) (hy:y<18446744073709551616):CSpec Try.prog 71 [.int .u64 (x:Int),.int .u64 (y:Int)] (.tup [.int .u64 ((mulh x y:Nat):Int),.int .u64 ((mull x y:Nat):Int)]):=by
 rw [mulh_eq,mull_eq]
 intro X φ w vs _ hr
 obtain ⟨v,vs',rfl,h1,h2⟩:=hr.uncons rfl
 obtain rfl:=h1.int_inv
 obtain ⟨v,vs',rfl,h1,h3⟩:=h2.uncons rfl
 obtain rfl:=h1.int_inv
 obtain rfl:=h3.nil_of
 refine enter_of Try.func71 rfl rfl ((sh_Mul64 x y hx hy w).mono fun e w' he=>⟨_,he.1,?_⟩)
 obtain ⟨_,rfl⟩:=he
 exact ⟨.tup (.int _ _ (.int _ _ .nil)) .nil,Below.rfl'⟩
theorem sh_add64 (x y c:Nat) (_:x<18446744073709551616) (hc:c≤1):CSpec Try.prog 73 [.int .u64 (x:Int),.int .u64 (y:Int),.int .u64 (c:Int)] (.tup [.int .u64 ((addl x y c:Nat):Int),.int .u64 ((addh x y c:Nat):Int)]):=by
 rw [addl_eq,addh_eq]
 intro X φ w vs _ hr
 obtain ⟨v,vs',rfl,h1,h2⟩:=hr.uncons rfl
 obtain rfl:=h1.int_inv
 obtain ⟨v,vs',rfl,h1,h3⟩:=h2.uncons rfl
 obtain rfl:=h1.int_inv
 obtain ⟨v,vs',rfl,h1,h4⟩:=h3.uncons rfl
 obtain rfl:=h1.int_inv
 obtain rfl:=h4.nil_of
 unfold Invk
 rw [run_callFunc_extern Try.func73 (by kernel_rfl) (by kernel_rfl) (by kernel_rfl) (e:=add64Entry) (by kernel_rfl),run_add64 x y c (by omega) (by omega) (by omega) (by omega)]
 simp only [Result.andThen]
 rw [show ((x:Int)+y+c) % 18446744073709551616=(((x+y+c) % 18446744073709551616:Nat):Int) by omega,show ((x:Int)+y+c) / 18446744073709551616=(((x+y+c) / 18446744073709551616:Nat):Int) by omega]
 exact ⟨.tup (.int _ _ (.int _ _ .nil)) .nil,Below.rfl'⟩
theorem sh_sub64 (x y c:Nat) (_:x<18446744073709551616) (hc:c≤1):CSpec Try.prog 95 [.int .u64 (x:Int),.int .u64 (y:Int),.int .u64 (c:Int)] (.tup [.int .u64 ((subd x y c:Nat):Int),.int .u64 ((bor x y c:Nat):Int)]):=by
 intro X φ w vs _ hr
 obtain ⟨v,vs',rfl,h1,h2⟩:=hr.uncons rfl
 obtain rfl:=h1.int_inv
 obtain ⟨v,vs',rfl,h1,h3⟩:=h2.uncons rfl
 obtain rfl:=h1.int_inv
 obtain ⟨v,vs',rfl,h1,h4⟩:=h3.uncons rfl
 obtain rfl:=h1.int_inv
 obtain rfl:=h4.nil_of
 unfold Invk
 rw [run_callFunc_extern Try.func95 (by kernel_rfl) (by kernel_rfl) (by kernel_rfl) (e:=(Extern.find Try.f95).getD fun _=>pure (.bool true)) (by kernel_rfl)]
 have key:(((Extern.find Try.f95).getD fun _=>pure (.bool true)) #[.int .u64 x,.int .u64 y,.int .u64 c]).run Try.prog w =
  .ok (.tuple #[.int .u64 (((x+18446744073709551616-y-c) % 18446744073709551616:Nat):Int),.int .u64 ((if x<y+c then 1 else 0:Nat):Int)]) w:=by
  have:c=0∨c=1:=by omega
  rcases this with rfl|rfl
  · refine of_eq_true (eq_true ?_); rfl
  · rfl
 rw [show ([Value.int .u64 (x:Int),Value.int .u64 (y:Int),Value.int .u64 (c:Int)].toArray)=#[.int .u64 (x:Int),.int .u64 (y:Int),.int .u64 (c:Int)] from rfl,key]
 rw [subd_eq,bor_eq]
 exact ⟨.tup (.int _ _ (.int _ _ .nil)) .nil,Below.rfl'⟩
theorem prg_ok:PrgOk Try.prog:={ mix:=by kernel_rfl,t0:=T0_ok,t1:=T1_ok,t2:=T2_ok,tF:=TF_ok,len64:=sh_len64,lz64:=sh_lz64,mul64:=sh_mul64,add64:=sh_add64,sub64:=sh_sub64,f3:=Try.func3,f4:=Try.func4,f5:=Try.func5,f6:=Try.func6,f7:=Try.func7,f8:=Try.func8,f9:=Try.func9,f10:=Try.func10,f11:=Try.func11,f12:=Try.func12,f13:=Try.func13,f14:=Try.func14,f15:=Try.func15,f16:=Try.func16,f17:=Try.func17,f18:=Try.func18,f19:=Try.func19,f20:=Try.func20,f21:=Try.func21,f22:=Try.func22,f23:=Try.func23,f24:=Try.func24,f25:=Try.func25,f26:=Try.func26,f27:=Try.func27,f28:=Try.func28,f29:=Try.func29,f30:=Try.func30,f31:=Try.func31,f32:=Try.func32,f33:=Try.func33,f34:=Try.func34,f35:=Try.func35,f36:=Try.func36,f37:=Try.func37,f38:=Try.func38,f39:=Try.func39,f40:=Try.func40,f41:=Try.func41,f42:=Try.func42,f43:=Try.func43,f44:=Try.func44,f45:=Try.func45,f46:=Try.func46,f47:=Try.func47,f48:=Try.func48,f49:=Try.func49,f50:=Try.func50,f51:=Try.func51,f52:=Try.func52,f53:=Try.func53,f54:=Try.func54,f55:=Try.func55,f56:=Try.func56,f57:=Try.func57,f58:=Try.func58,f59:=Try.func59,f60:=Try.func60,f61:=Try.func61,f62:=Try.func62,f63:=Try.func63,f64:=Try.func64,f65:=Try.func65,f66:=Try.func66,f67:=Try.func67,f68:=Try.func68,f69:=Try.func69,f70:=Try.func70,f71:=Try.func71,f72:=Try.func72,f73:=Try.func73,f74:=Try.func74,f75:=Try.func75,f76:=Try.func76,f77:=Try.func77,f78:=Try.func78,f79:=Try.func79,f80:=Try.func80,f81:=Try.func81,f82:=Try.func82,f83:=Try.func83,f84:=Try.func84,f85:=Try.func85,f86:=Try.func86,f87:=Try.func87,f88:=Try.func88,f89:=Try.func89,f90:=Try.func90,f91:=Try.func91,f92:=Try.func92,f93:=Try.func93,f94:=Try.func94,f95:=Try.func95,f111:=Try.func111,f112:=Try.func112 }
end Go.Proofs.Ytmahhmdeocnlgaa.AM
/- What is handed in az data,az the machine sees it. -/
namespace Go.Proofs.Ytmahhmdeocnlgaa.AM
set_option linter.all false
set_option autoImplicit true
set_option relaxedAutoImplicit true
open Go
inductive Sha where
 | bool
 | int (k:IntKind)
 | str
 | slice (e:Sha)
 | row (l:List Sha)
mutual
def Sha.width:Sha→Nat
 | .row l=>widthL l
 | _=>1
def widthL:List Sha→Nat
 | []=>0
 | s::l=>s.width+widthL l
end
mutual
def Sha.chk (P:Program):Sha→TypeId→Bool
 | .bool,t=>match P.underlying t with
   | some .bool=>true
   | _=>false
 | .int k,t=>match P.underlying t with
   | some (.int k')=>decide (k'=k)
   | _=>false
 | .str,t=>match P.underlying t with
   | some .string=>true
   | _=>false
 | .slice e,t=>match P.underlying t with
   | some (.slice u)=>e.chk P u && P.cellsOf u == e.width && Nat.blt 0 e.width
   | _=>false
 | .row l,t=>P.cellsOf t == widthL l && match P.underlying t with
   | some (.struct fs)=>chkF P l fs.toList 0
   | some (.array n u)=>l.length == n && chkA P l u (P.cellsOf u)
   | _=>false
def chkF (P:Program):List Sha→List Field→Nat→Bool
 | [],[],_=>true
 | s::l,f::fs,o=>f.offset == o && P.cellsOf f.type == s.width && s.chk P f.type && chkF P l fs (o+s.width)
 | _,_,_=>false
def chkA (P:Program):List Sha→TypeId→Nat→Bool
 | [],_,_=>true
 | s::l,u,c=>c == s.width && s.chk P u && chkA P l u c
end
mutual
def Sha.Ok:Sha→List AV→Prop
 | .bool,az=>∃ b,az=[.bool b]
 | .int k,az=>∃ n,(Lit.int k n).wf=true∧az=[.int k n]
 | .str,az=>∃ s:ByteArray,s.size≤maxLen∧az=[.str s]
 | .slice e,az=>az=[.nils]∨∃ l:List (List AV),l.length≤maxLen∧(∀ x ∈ l,e.Ok x)∧az=[.imm l.length l.flatten]
 | .row l,az=>okL l az
def okL:List Sha→List AV→Prop
 | [],az=>az=[]
 | s::l,az=>∃ a b,s.Ok a∧okL l b∧az=a++b
end
section
variable {H:Type} {enc:TypeId × Value→H} {P:Program} {w:World}
abbrev RL0 (w:World):=RL (fun _=>False) (fun _=>none) w
theorem cut_app {vs:List Value} {o k:Nat} (h:o+k≤vs.length):vs.drop o=(vs.drop o).take k++vs.drop (o+k):=by
 rw [← List.drop_drop,List.take_append_drop]
theorem rl_slice {e:Sha} {k n:Nat} {a:Addr} {len:Nat} {elems:List (DataW H × List MemPlace)} {u:TypeId} (hk:0<k) (hl:elems.length=len)
 (ih:∀ fuel cs x,DataW.trod enc P w 0 (fun _=>true) true fuel u cs=some x→∃ az,RL0 w cs az∧e.Ok az)
 (hel:∀ i,i<len→(w.cells? 0 (a.add (i*k)) k).bind (DataW.trod enc P w 0 (fun _=>true) true n u)=elems[i]?) (hlen:0<len) :
 a.spot=none∧∀ m,m≤len→∃ (us:List Value) (l:List (List AV)),l.length=m∧us.length=m*k∧(∀ j v,us[j]? = some v→w.cell? ⟨a.block,a.off+j,none⟩=some v)∧RL0 w us l.flatten∧∀ x ∈ l,e.Ok x:=by
 have get:∀ i,i<len→∃ cs x,w.cells? 0 (a.add (i*k)) k=some cs∧DataW.trod enc P w 0 (fun _=>true) true n u cs=some x:=fun i hi=>by
  have:=hel i hi
  rw [List.getElem?_eq_getElem (by omega),Option.bind_eq_some_iff] at this
  obtain ⟨cs,h1,h2⟩:=this
  exact ⟨cs,_,h1,h2⟩
 have hs:a.spot=none:=by
  obtain ⟨cs,x,h1,_⟩:=get 0 hlen
  obtain ⟨_,h2,h3⟩:=World.cells?_some h1
  have:=h3 0 hk
  rw [List.getElem?_eq_getElem (by omega)] at this
  have h4:=World.cell?_spot this
  rw [Nat.zero_mul] at h4
  simpa [Addr.add] using h4
 refine ⟨hs,fun m=>?_⟩
 induction m with
 | zero=>exact fun _=>⟨[],[],rfl,by simp,by simp,.nil,by simp⟩
 | succ m im =>
   intro hm
   obtain ⟨us,l,h1,h2,h3,h4,h5⟩:=im (by omega)
   obtain ⟨cs,x,g1,g2⟩:=get m (by omega)
   obtain ⟨az,g3,g4⟩:=ih _ _ _ g2
   obtain ⟨_,g5,g6⟩:=World.cells?_some g1
   refine ⟨us++cs,l++[az],by simp [h1],by rw [List.length_append,h2,g5,Nat.succ_mul],?_,?_,?_⟩
   · intro j v hj
     rcases Nat.lt_or_ge j us.length with hlt|hge
     · rw [List.getElem?_append_left hlt] at hj; exact h3 j v hj
     · rw [List.getElem?_append_right hge] at hj
       have hlt:j-us.length<k:=by have:=(List.getElem?_eq_some_iff.1 hj).1; omega
       have g7:=g6 _ hlt
       rw [hj] at g7
       obtain ⟨b,o,sp⟩:=a
       simp only at hs
       subst hs
       rw [Go.WideShapes.add_plain,Go.WideShapes.add_plain] at g7
       rw [← g7]
       have e3:o+j=o+m*k+(j-us.length):=by rw [← h2,Nat.add_assoc,Nat.add_sub_cancel' hge]
       simp only [e3]
   · rw [List.flatten_append]; simpa using h4.app g3
   · intro y hy
     rcases List.mem_append.1 hy with h|h
     · exact h5 y h
     · simp at h; exact h ▸ g4
mutual
theorem Sha.rl:∀ (sp:Sha) (t:TypeId),sp.chk P t=true→∀ fuel cs x,DataW.trod enc P w 0 (fun _=>true) true fuel t cs=some x→∃ az,RL0 w cs az∧sp.Ok az
 | .bool,t,hc,fuel,cs,x,h=>by
   have ht:P.underlying t=some .bool:=by simp only [Sha.chk] at hc; split at hc<;>simp_all
   cases fuel with
   | zero=>simp [DataW.trod] at h
   | succ n =>
     unfold DataW.trod at h
     rw [ht] at h
     split at h<;>simp_all
     exact ⟨_,.bool _ .nil,_,rfl⟩
 | .int k,t,hc,fuel,cs,x,h=>by
   have ht:P.underlying t=some (.int k):=by simp only [Sha.chk] at hc; split at hc<;>simp_all
   cases fuel with
   | zero=>simp [DataW.trod] at h
   | succ n =>
     unfold DataW.trod at h
     rw [ht] at h
     split at h<;>simp_all
     obtain ⟨⟨rfl,hw⟩,_⟩:=h
     exact ⟨_,.int _ _ .nil,_,hw,rfl⟩
 | .str,t,hc,fuel,cs,x,h=>by
   have ht:P.underlying t=some .string:=by simp only [Sha.chk] at hc; split at hc<;>simp_all
   cases fuel with
   | zero=>simp [DataW.trod] at h
   | succ n =>
     unfold DataW.trod at h
     rw [ht] at h
     split at h<;>simp_all
     exact ⟨_,.str _ .nil,_,h.1,rfl⟩
 | .slice e,t,hc,fuel,cs,x,h=>by
   obtain ⟨u,ht,h1,h2,h3⟩:∃ u,P.underlying t=some (.slice u)∧e.chk P u=true∧P.cellsOf u=e.width∧0<e.width:=by
    simp only [Sha.chk] at hc
    split at hc
    · rename_i u hu
      simp only [Bool.and_eq_true,beq_iff_eq] at hc
      exact ⟨u,hu,hc.1.1,hc.1.2,Nat.le_of_ble_eq_true hc.2⟩
    · simp at hc
   have ih:=Sha.rl e u h1
   rcases DataW.trod_slice ht h with ⟨rfl,_⟩|⟨a,len,cap,elems,rest,n,_,rfl,_,_,hlc,hm,hlen,hel,_,_⟩
   · exact ⟨[.nils],.nils .nil,.inl rfl⟩
   · rw [h2] at hel
     rcases Nat.eq_zero_or_pos len with h0|h0
     · subst h0; exact ⟨[.imm 0 []],.imm0 _ _ .nil,.inr ⟨[],by simp [maxLen],by simp,rfl⟩⟩
     · obtain ⟨hs,hall⟩:=rl_slice h3 hlen ih hel h0
       obtain ⟨us,l,g1,g2,g3,g4,g5⟩:=hall len (Nat.le_refl _)
       obtain ⟨b,o,sp⟩:=a
       simp only at hs
       subst hs
       exact ⟨[.imm len l.flatten],.imm hlc (fun _ h=>h) g3 g4 .nil,.inr ⟨l,by omega,g5,by rw [g1]⟩⟩
 | .row l,t,hc,fuel,cs,x,h=>by
   simp only [Sha.chk,Bool.and_eq_true,beq_iff_eq] at hc
   obtain ⟨hw,hc⟩:=hc
   split at hc
   · rename_i fs hu
     obtain ⟨xs,n,_,_,hl,hx,hall⟩:=DataW.trod_struct hu h
     have:=rlF l fs.toList 0 hc n cs (fun i f hf=>by
      have:=hall i f (by simpa using hf)
      rw [this]
      have:i<fs.size:=by have:=(List.getElem?_eq_some_iff.1 hf).1; simpa using this
      exact ⟨xs[i]'(by omega),List.getElem?_eq_getElem _⟩) (by rw [hl,hw]; omega)
     simpa [Sha.Ok] using this
   · rename_i n u hu
     simp only [Bool.and_eq_true,beq_iff_eq] at hc
     obtain ⟨xs,m,_,_,hl,hx,hall⟩:=DataW.trod_array hu h
     have:=rlA l u (P.cellsOf u) hc.2 m cs 0 0 (Nat.zero_mul _).symm (fun i hi=>by
      rw [Nat.zero_add,hall i (by omega)]
      exact ⟨xs[i]'(by omega),List.getElem?_eq_getElem _⟩) (by rw [hl,hw]; omega)
     simpa [Sha.Ok] using this
   · simp at hc
theorem rlF:∀ (l:List Sha) (fs:List Field) (o:Nat),chkF P l fs o=true→∀ (n:Nat) (cs:List Value),(∀ (i:Nat) (f:Field),fs[i]? = some f→∃ y,DataW.trod enc P w 0 (fun _=>true) true n f.type ((cs.drop f.offset).take (P.cellsOf f.type))=some y)→cs.length=o+widthL l→∃ az,RL0 w (cs.drop o) az∧okL l az
 | [],[],o,_,n,cs,_,hl=>⟨[],by rw [List.drop_of_length_le (by simp [widthL] at hl; omega)]; exact .nil,rfl⟩
 | [],_::_,_,hc,_,_,_,_=>by simp [chkF] at hc
 | _::_,[],_,hc,_,_,_,_=>by simp [chkF] at hc
 | s::l,f::fs,o,hc,n,cs,hall,hl=>by
   simp only [chkF,Bool.and_eq_true,beq_iff_eq] at hc
   obtain ⟨⟨⟨h1,h2⟩,h3⟩,h4⟩:=hc
   simp only [widthL] at hl
   obtain ⟨y,hy⟩:=hall 0 f rfl
   obtain ⟨a,ha,oa⟩:=Sha.rl s f.type h3 _ _ _ hy
   obtain ⟨b,hb,ob⟩:=rlF l fs (o+s.width) h4 n cs (fun i g hg=>hall (i+1) g (by simpa using hg)) (by omega)
   refine ⟨a++b,?_,a,b,oa,ob,rfl⟩
   rw [cut_app (k:=s.width) (by omega)]
   rw [h1,h2] at ha
   exact ha.app hb
theorem rlA:∀ (l:List Sha) (u:TypeId) (c:Nat),chkA P l u c=true→∀ (n:Nat) (cs:List Value) (j o:Nat),o=j*c→(∀ i,i<l.length→∃ y,DataW.trod enc P w 0 (fun _=>true) true n u ((cs.drop ((j+i)*c)).take c)=some y)→cs.length=o+widthL l→∃ az,RL0 w (cs.drop o) az∧okL l az
 | [],_,_,_,_,cs,_,o,_,_,hl=>⟨[],by rw [List.drop_of_length_le (by simp [widthL] at hl; omega)]; exact .nil,rfl⟩
 | s::l,u,c,hc,n,cs,j,o,ho,hall,hl=>by
   simp only [chkA,Bool.and_eq_true,beq_iff_eq] at hc
   obtain ⟨⟨h1,h2⟩,h3⟩:=hc
   simp only [widthL] at hl
   obtain ⟨y,hy⟩:=hall 0 (by simp)
   obtain ⟨a,ha,oa⟩:=Sha.rl s u h2 _ _ _ hy
   obtain ⟨b,hb,ob⟩:=rlA l u c h3 n cs (j+1) (o+c) (by rw [ho,Nat.succ_mul]) (fun i hi=>by
    have:=hall (i+1) (by simp; omega)
    rwa [show j+(i+1)=j+1+i by omega] at this) (by omega)
   refine ⟨a++b,?_,a,b,oa,ob,rfl⟩
   rw [cut_app (k:=c) (by omega)]
   rw [Nat.add_zero,← ho] at ha
   exact ha.app hb
end
end
end Go.Proofs.Ytmahhmdeocnlgaa.AM
/- What all rows share: a call by its specification; arguments that are data. -/
namespace Go.Proofs.Ytmahhmdeocnlgaa
set_option linter.all false
set_option autoImplicit true
set_option relaxedAutoImplicit true
open Go Go.Proofs Go.ChangeShapes Go.WideShapes Go.ChangeAt Go.RowKit
theorem CSpec.calls {P:Program} {f:Nat} {fn:Func} {c:Code} {args:List AM.AV} {b:Bool} (h:AM.CSpec P f args (.bool b)) (hf:P.funcs[f]? = some fn) (hb:fn.body=some c) (hn:(fn.name == "runtime.NumGoroutine")=false) {vs:List Value} {w:World}
 (hr:AM.RL (fun _=>False) (fun _=>none) w vs args):Calls P f vs.toArray w fun e w'=>e = .returned (.bool b)∧Below w.heap.size w w':=by
 have:=h (fun _=>False) (fun _=>none) w vs (fun _ h=>h.elim) hr
 unfold AM.Invk at this
 rw [AM.callFunc_enter hf hb hn] at this
 simp only [] at this
 refine this.mono fun e w' ⟨v,he,hv,hB⟩=>?_
 rw [he,hv.bool_inv]; exact ⟨rfl,hB⟩
theorem Try.own:ownKnob Try.prog.godebug=none:=by kernel_rfl
end Go.Proofs.Ytmahhmdeocnlgaa
/- Package nat: making numbers,their digits. -/
namespace Go.Proofs.Ytmahhmdeocnlgaa.AM
set_option linter.all false
set_option autoImplicit true
set_option relaxedAutoImplicit true
open Go Go.Proofs
set_option maxRecDepth 100000
set_option maxHeartbeats 4000000
set_option linter.unusedSimpArgs false
variable {P:Program}
theorem Of_spec (hP:PrgOk P) (n:Nat) (hn:n<18446744073709551616):CSpec P 30 [.int .u64 n] (.agg [.opq (.nat (n)),.pad]):=by
 have HE:=EnvOk.no hP.t0
 refine CSpec_go (E:=⟨T0,noS⟩) (fn30 hP) HE hP.mix ?_
 simp only [go_sem]
 exact Conv.nat1 hn
theorem cut_spec (hP:PrgOk P) (l:List Nat) (hd:∀ d ∈ l,d<18446744073709551616) (hn:l.length<4611686018427387904):CSpec P 67 [.imm l.length (List.map (fun d:Nat=>AV.int .u64 (d:Int)) (l))] (.agg [.opq (.nat (dOf 18446744073709551616 l)),.pad]):=by
 have HE:=EnvOk.no hP.t0
 refine CSpec_go (E:=⟨T0,noS⟩) (fn67 hP) HE hP.mix ?_
 simp only [go_sem]
 refine trX_loop HE hP.mix [0] (fun k:Nat=>⟨upd (upd (upd (fun _=>.junk) 0 (.imm l.length (List.map (fun d:Nat=>AV.int .u64 (d:Int)) (l)))) 2 (.ref 0 0)) 3 (.int .i64 (k:Int)),upd (fun _=>.unused) 0 (.live [.int .u64 0,.nils]),33⟩) (fun k=>k≤l.length∧dOf 18446744073709551616 (l.take k)=dOf 18446744073709551616 l) (fun k=>k) l.length 1
  Has.z (Kept.of rfl KT.z (KM.one rfl rfl)) ⟨Nat.le_refl _,by simp⟩ 33 (by kernel_rfl) ?_
 intro k ⟨hk,he⟩
 cases k with
 | zero =>
   simp only [go_sem]
   have:dOf 18446744073709551616 l=0:=by rw [← he]; rfl
   rw [this]; exact Conv.nat1 (a:=0) (by decide)
 | succ k =>
   have h2:=wi_nat k (by omega)
   have hk':k<l.length:=by omega
   have hk2:k≤l.length:=by omega
   have htk:=take_snoc hk'
   simp only [go_sem,h2,gU' hk',hk',hk2]
   refine if_split (fun hz=>?_) (fun hz=>?_)
   · simp only [go_sem,h2]
     have hz:=eq_of_beq hz
     refine ⟨k,Kept.of rfl KT.z (KM.one rfl rfl),⟨by omega,?_⟩,by omega⟩
     rw [← he,htk,hz,dOf_append]; simp [dOf]
   · have hz:l.getD k 0 ≠ 0:=by simpa using hz
     simp only [go_sem]
     have hcan:Canon (l.take (k+1)):=by
      intro h; rw [List.getLast_eq_getElem]
      have:(l.take (k+1)).length-1=k:=by simp; omega
      simp only [this]
      simpa [hk'] using hz
     refine if_split (fun hk1=>?_) (fun hk1=>?_)
     · obtain rfl:=eq_of_beq hk1
       have hd0:dOf 18446744073709551616 l=l.getD 0 0:=by rw [← he,htk]; simp [dOf]
       simp only [go_sem,gU' hk',gU hk',hk']
       rw [hd0]
       exact Conv.nat1 (hd _ (getD_mem hk'))
     · simp only [go_sem,hk]
       rw [← he]
       have hk3:k ≠ 0:=fun e=>by rw [e] at hk1; simp at hk1
       exact Conv.natL (fun d hd'=>hd d (List.mem_of_mem_take hd')) hcan (by simp; omega) (by simp; omega)
def cutS:List AV→Option (Prop × AV)
 | [.imm n cs]=>some (cs=(List.map (fun d:Nat=>AV.int .u64 (d:Int)) (cs.map ud))∧n=cs.length∧(∀ d ∈ cs.map ud,d<18446744073709551616)∧n<4611686018427387904,(.agg [.opq (.nat (dOf 18446744073709551616 (cs.map ud))),.pad]))
 | _=>none
theorem cutS_ok (hP:PrgOk P) (args p r) (h:cutS args=some (p,r)) (hp:p):CSpec P 67 args r:=by
 unfold cutS at h
 split at h
 · simp only [Option.some.injEq,Prod.mk.injEq] at h
   obtain ⟨rfl,rfl⟩:=h
   obtain ⟨h1,h2,h3,h4⟩:=hp
   have:=cut_spec hP _ h3 (by simp; omega)
   rw [← h1,List.length_map,← h2] at this
   exact this
 · simp at h
theorem digits_spec (hP:PrgOk P) (a:Nat):CSpec P 72 [(.agg [.opq (.nat (a)),.pad])] (sv (digs 18446744073709551616 a)):=by
 have HE:=EnvOk.no hP.t0
 refine CSpec.cv ?_ (CvL.natIn a .nil)
 by_cases ha:a<18446744073709551616
 · rw [natC_small ha]
   refine CSpec_go (E:=⟨T0,noS⟩) (fn72 hP) HE hP.mix ?_
   simp only [go_sem]
   refine if_split (fun h=>?_) (fun h=>?_)
   · rw [eq_of_beq h,digs_zero,sv_nil]
     simp only [go_sem]
     exact .refl _
   · have h:a ≠ 0:=by simpa using h
     rw [digs_small _ _ (by decide) ha h,sv_ne (by simp)]
     simp only [go_sem]
     exact .refl _
 · have h:a ≠ 0:=by omega
   rw [natC_great ha,sv_ne (by rw [digs_eq _ _ (by decide) h]; simp)]
   refine CSpec_go (E:=⟨T0,noS⟩) (fn72 hP) HE hP.mix ?_
   simp only [go_sem]
   exact ⟨by have:=digs_length_gt 18446744073709551616 a 1 (by decide) (by omega); omega,.refl _⟩
def digitsS:List AV→Option (Prop × AV):=on1 fun a=>(True,sv (digs 18446744073709551616 a))
theorem digitsS_ok (hP:PrgOk P) (args p r):digitsS args=some (p,r)→p→CSpec P 72 args r:=on1_ok (fun a _=>digits_spec hP a) args p r
def OfS:List AV→Option (Prop × AV)
 | [.int .u64 n]=>some (0≤n∧n<18446744073709551616,(.agg [.opq (.nat (n.toNat)),.pad]))
 | _=>none
theorem OfS_ok (hP:PrgOk P) (args p r) (h:OfS args=some (p,r)) (hp:p):CSpec P 30 args r:=by
 unfold OfS at h
 split at h
 · simp only [Option.some.injEq,Prod.mk.injEq] at h
   obtain ⟨rfl,rfl⟩:=h
   obtain ⟨n',e⟩:=Int.eq_ofNat_of_zero_le hp.1
   subst e
   have:=Of_spec hP n' (by omega)
   exact this
 · simp at h
attribute [go_sem] cutS digitsS OfS
def len64S:List AV→Option (Prop × AV)
 | [.int .u64 x]=>some (0≤x∧x.toNat<18446744073709551616,.int .i64 (blen x.toNat:Nat))
 | _=>none
theorem len64S_ok (hP:PrgOk P) (args p r) (h:len64S args=some (p,r)) (hp:p):CSpec P 82 args r:=by
 unfold len64S at h
 split at h
 · simp only [Option.some.injEq,Prod.mk.injEq] at h
   obtain ⟨rfl,rfl⟩:=h
   exact (by have:=hP.len64 _ hp.2; rw [nn hp.1] at this; exact this)
 · simp at h
def lz64S:List AV→Option (Prop × AV)
 | [.int .u64 x]=>some (0≤x∧x.toNat<18446744073709551616,.int .i64 ((64-blen x.toNat:Nat):Int))
 | _=>none
theorem lz64S_ok (hP:PrgOk P) (args p r) (h:lz64S args=some (p,r)) (hp:p):CSpec P 89 args r:=by
 unfold lz64S at h
 split at h
 · simp only [Option.some.injEq,Prod.mk.injEq] at h
   obtain ⟨rfl,rfl⟩:=h
   exact (by have:=hP.lz64 _ hp.2; rw [nn hp.1] at this; exact this)
 · simp at h
noncomputable def mul64S:List AV→Option (Prop × AV)
 | [.int .u64 x,.int .u64 y]=>some ((0≤x∧0≤y)∧x.toNat<18446744073709551616∧y.toNat<18446744073709551616,.tup [.int .u64 ((mulh x.toNat y.toNat:Nat):Int),.int .u64 ((mull x.toNat y.toNat:Nat):Int)])
 | _=>none
theorem mul64S_ok (hP:PrgOk P) (args p r) (h:mul64S args=some (p,r)) (hp:p):CSpec P 71 args r:=by
 unfold mul64S at h
 split at h
 · simp only [Option.some.injEq,Prod.mk.injEq] at h
   obtain ⟨rfl,rfl⟩:=h
   exact (by have:=hP.mul64 _ _ hp.2.1 hp.2.2; rw [nn hp.1.1,nn hp.1.2] at this; exact this)
 · simp at h
noncomputable def add64S:List AV→Option (Prop × AV)
 | [.int .u64 x,.int .u64 y,.int .u64 c]=>some ((0≤x∧0≤y∧0≤c)∧x.toNat<18446744073709551616∧c.toNat≤1,.tup [.int .u64 ((addl x.toNat y.toNat c.toNat:Nat):Int),.int .u64 ((addh x.toNat y.toNat c.toNat:Nat):Int)])
 | _=>none
theorem add64S_ok (hP:PrgOk P) (args p r) (h:add64S args=some (p,r)) (hp:p):CSpec P 73 args r:=by
 unfold add64S at h
 split at h
 · simp only [Option.some.injEq,Prod.mk.injEq] at h
   obtain ⟨rfl,rfl⟩:=h
   exact (by rename_i x y c; have:=hP.add64 x.toNat y.toNat c.toNat hp.2.1 hp.2.2; rw [nn hp.1.1,nn hp.1.2.1,nn hp.1.2.2] at this; exact this)
 · simp at h
noncomputable def sub64S:List AV→Option (Prop × AV)
 | [.int .u64 x,.int .u64 y,.int .u64 c]=>some ((0≤x∧0≤y∧0≤c)∧x.toNat<18446744073709551616∧c.toNat≤1,.tup [.int .u64 ((subd x.toNat y.toNat c.toNat:Nat):Int),.int .u64 ((bor x.toNat y.toNat c.toNat:Nat):Int)])
 | _=>none
theorem sub64S_ok (hP:PrgOk P) (args p r) (h:sub64S args=some (p,r)) (hp:p):CSpec P 95 args r:=by
 unfold sub64S at h
 split at h
 · simp only [Option.some.injEq,Prod.mk.injEq] at h
   obtain ⟨rfl,rfl⟩:=h
   exact (by rename_i x y c; have:=hP.sub64 x.toNat y.toNat c.toNat hp.2.1 hp.2.2; rw [nn hp.1.1,nn hp.1.2.1,nn hp.1.2.2] at this; exact this)
 · simp at h
attribute [go_sem] len64S lz64S mul64S add64S sub64S
noncomputable def Sa:Nat→List AV→Option (Prop × AV):=addS (addS (addS (addS (addS (addS (addS (addS noS 67 cutS) 72 digitsS) 30 OfS) 82 len64S) 89 lz64S) 71 mul64S) 73 add64S) 95 sub64S
theorem Sa_ok (hP:PrgOk P):EnvOk P ⟨T0,Sa⟩:=(((((((((EnvOk.no hP.t0).add (cutS_ok hP)).add (digitsS_ok hP)).add (OfS_ok hP)).add (len64S_ok hP)).add (lz64S_ok hP)).add (mul64S_ok hP)).add (add64S_ok hP)).add (sub64S_ok hP))
theorem Sa_at (f a):Sa f a=(addS (addS (addS (addS (addS (addS (addS (addS noS 67 cutS) 72 digitsS) 30 OfS) 82 len64S) 89 lz64S) 71 mul64S) 73 add64S) 95 sub64S) f a:=rfl
attribute [go_sem] Sa_at
theorem Bits_spec (hP:PrgOk P) (a:Nat) (hb:blen a≤68719476736):CSpec P 51 [(.agg [.opq (.nat (a)),.pad])] (.int .i64 (blen a:Nat)):=by
 have HE:=Sa_ok hP
 refine CSpec.cv ?_ (CvL.natIn a .nil)
 by_cases ha:a<18446744073709551616
 · rw [natC_small ha]
   refine CSpec_go (E:=⟨T0,Sa⟩) (fn51 hP) HE hP.mix ?_
   simp only [go_sem,ha]
   exact .refl _
 · have h:a ≠ 0:=by omega
   have hl:=digs_length_gt 18446744073709551616 a 1 (by decide) (by omega)
   have hl2:=digs_len_blen a
   have he:=blen_digs a h
   have hd:∀ d ∈ digs 18446744073709551616 a,d<18446744073709551616:=digs_lt 18446744073709551616 a (by decide)
   obtain ⟨k,hk⟩:∃ k,(digs 18446744073709551616 a).length=k+1:=⟨(digs 18446744073709551616 a).length-1,by omega⟩
   rw [hk,Nat.add_sub_cancel] at he
   have hkl:k<(digs 18446744073709551616 a).length:=by omega
   rw [natC_great ha,hk]
   refine CSpec_go (E:=⟨T0,Sa⟩) (fn51 hP) HE hP.mix ?_
   have h2:=wi_nat k (by omega)
   have h3:IntKind.i64.wrap (64*(k:Int))=((64*k:Nat):Int):=by rw [IntKind.wrap_i64]; omega
   have h4:IntKind.i64.wrap (((64*k:Nat):Int)+((blen ((digs 18446744073709551616 a).getD k 0):Nat):Int))=((blen a:Nat):Int):=by rw [IntKind.wrap_i64]; omega
   have hd1:=hd _ (getD_mem hkl)
   have hd2:k≤(digs 18446744073709551616 a).length:=by omega
   have hd3:k<k+1:=by omega
   simp only [go_sem,h2,h3,h4,gU' hkl,hkl,hd1,hd2,hd3]
   exact ⟨by omega,.refl _⟩
def BitsS:List AV→Option (Prop × AV):=on1 fun a=>(blen a≤68719476736,.int .i64 (blen a:Nat))
theorem BitsS_ok (hP:PrgOk P) (args p r):BitsS args=some (p,r)→p→CSpec P 51 args r:=on1_ok (fun a h=>Bits_spec hP a h) args p r
theorem Cmp_spec (hP:PrgOk P) (a b:Nat) (ha:blen a≤68719476736) (hb:blen b≤68719476736):CSpec P 65 [(.agg [.opq (.nat (a)),.pad]),(.agg [.opq (.nat (b)),.pad])] (.int .i64 (cmpI a b)):=by
 have HE:=Sa_ok hP
 have hxd:∀ d ∈ digs 18446744073709551616 a,d<18446744073709551616:=digs_lt 18446744073709551616 a (by decide)
 have hyd:∀ d ∈ digs 18446744073709551616 b,d<18446744073709551616:=digs_lt 18446744073709551616 b (by decide)
 have hx:=dOf_digs 18446744073709551616 a (by decide)
 have hy:=dOf_digs 18446744073709551616 b (by decide)
 have hlx:=digs_len_blen a
 have hly:=digs_len_blen b
 have hlt:=digs_len_lt 18446744073709551616 a b (by decide)
 have hgt:=digs_len_lt 18446744073709551616 b a (by decide)
 refine CSpec_go (E:=⟨T0,Sa⟩) (fn65 hP) HE hP.mix ?_
 simp only [go_sem]
 generalize digs 18446744073709551616 a=x at *
 generalize digs 18446744073709551616 b=y at *
 refine if_split (fun h=>?_) (fun h=>?_)
 · simp only [go_sem]
   refine if_split (fun h=>?_) (fun h'=>?_)
   · simp only [go_sem]
     rw [cmpI_lt (hlt (of_decide_eq_true h))]; exact .refl _
   · simp only [go_sem]
     have h':=of_decide_eq_false h'
     have h:x.length ≠ y.length:=by simpa using h
     rw [cmpI_gt (hgt (by omega))]; exact .refl _
 · have hxy:y.length=x.length:=by simpa using Eq.symm (by simpa using h)
   have hw:=wi_pred' x.length (by omega)
   simp only [go_sem,hw]
   refine trX_loop HE hP.mix [0,1] (fun k:Nat=>⟨upd (upd (upd (upd (fun _=>.junk) 4 (.int .i64 0)) 5 (sv x)) 6 (sv y)) 7 (.int .i64 ((k:Int)-1)),upd (upd (fun _=>.unused) 0 (.live [.opq (.nat a),.pad])) 1 (.live [.opq (.nat b),.pad]),49⟩) (fun k=>k≤x.length∧x.drop k=y.drop k) (fun k=>k) x.length 2
    Has.z (Kept.of rfl KT.z (KM.two rfl rfl rfl rfl rfl)) ⟨Nat.le_refl _,by rw [List.drop_length,← hxy,List.drop_length]⟩ 49 (by kernel_rfl) ?_
   intro k ⟨hk,he⟩
   cases k with
   | zero =>
     have h0:((0:Int)≤((0:Nat):Int)-1)=False:=by simp
     simp only [go_sem,h0]
     have:a=b:=by rw [← hx,← hy]; simp at he; rw [he]
     rw [this,cmpI_eq]; exact .refl _
   | succ k =>
     have k1:k<x.length:=by omega
     have k2:k<y.length:=by omega
     have k3:k≤x.length:=by omega
     have k4:k≤y.length:=by omega
     have e1:x ≠ []:=by intro e; rw [e] at k1; simp at k1
     have e2:y ≠ []:=by intro e; rw [e] at k2; simp at k2
     simp only [go_sem,sv_ia e1,sv_ia e2,k1,k2,k3,k4,gU' k1,gU' k2]
     refine if_split (fun h=>?_) (fun h=>?_)
     · simp only [go_sem]
       have:=dOf_cmp 18446744073709551616 x y hxd k k1 k2 he (of_decide_eq_true h)
       rw [cmpI_lt (by omega)]; exact .refl _
     · simp only [go_sem,sv_ia e1,sv_ia e2,k1,k2,k3,k4,gU' k1,gU' k2]
       refine if_split (fun h'=>?_) (fun h'=>?_)
       · simp only [go_sem]
         have:=dOf_cmp 18446744073709551616 y x hyd k k2 k1 he.symm (of_decide_eq_true h')
         rw [cmpI_gt (by omega)]; exact .refl _
       · have hw:=wi_pred' k (by omega)
         simp only [go_sem,hw]
         refine ⟨k,Kept.of rfl KT.z (KM.two rfl rfl rfl rfl rfl),⟨by omega,?_⟩,by omega⟩
         have e1:=List.drop_eq_getElem_cons k1
         have e2:=List.drop_eq_getElem_cons k2
         have h:=of_decide_eq_false h
         have h':=of_decide_eq_false h'
         rw [getD_get k1,getD_get k2] at h
         rw [getD_get k1,getD_get k2] at h'
         rw [e1,e2,he,show x[k]=y[k] by omega]
def CmpS:List AV→Option (Prop × AV):=on2 fun a b=>(blen a≤68719476736∧blen b≤68719476736,.int .i64 (cmpI a b))
theorem CmpS_ok (hP:PrgOk P) (args p r):CmpS args=some (p,r)→p→CSpec P 65 args r:=on2_ok (fun a b h=>by exact Cmp_spec hP a b h.1 h.2) args p r
attribute [go_sem] BitsS CmpS
end Go.Proofs.Ytmahhmdeocnlgaa.AM
/- Package nat: sums. -/
namespace Go.Proofs.Ytmahhmdeocnlgaa.AM
set_option linter.all false
set_option autoImplicit true
set_option relaxedAutoImplicit true
open Go Go.Proofs
set_option maxRecDepth 100000
set_option maxHeartbeats 8000000
set_option linter.unusedSimpArgs false
variable {P:Program}
noncomputable def Sb:Nat→List AV→Option (Prop × AV):=addS (addS Sa 51 BitsS) 65 CmpS
theorem Sb_ok (hP:PrgOk P):EnvOk P ⟨T0,Sb⟩:=(((Sa_ok hP).add (BitsS_ok hP)).add (CmpS_ok hP))
theorem Sb_at (f a):Sb f a=(addS (addS Sa 51 BitsS) 65 CmpS) f a:=rfl
attribute [go_sem] Sb_at
theorem Add_small (hP:PrgOk P) (a b:Nat) (ha:a<18446744073709551616) (hb:b<18446744073709551616):CSpec P 69 [.agg [.int .u64 (a:Int),.nils],.agg [.int .u64 (b:Int),.nils]] (.agg [.opq (.nat (a+b)),.pad]):=by
 have HE:=Sb_ok hP
 refine CSpec_go (E:=⟨T0,Sb⟩) (fn69 hP) HE hP.mix ?_
 simp only [go_sem,ha]
 have h2:=add_all a b 0
 have h3:=addl_lt a b 0
 have h4:=addh_le ha hb (c:=0) (by decide)
 refine if_split (fun h=>?_) (fun h=>?_)
 · simp only [go_sem]
   have h:=eq_of_beq h
   have e:addl a b 0=a+b:=by omega
   rw [e]; exact Conv.nat1 (by omega)
 · simp only [go_sem]
   have h:addh a b 0 ≠ 0:=by simpa using h
   have e:dOf 18446744073709551616 [addl a b 0,addh a b 0]=a+b:=by simp only [dOf]; omega
   have:=Conv.natL (l:=[addl a b 0,addh a b 0]) (n:=2) ?_ ?_ (by simp) rfl
   · rw [e] at this; exact this
   · intro d hd
     simp only [List.mem_cons,List.not_mem_nil,or_false] at hd
     rcases hd with rfl|rfl<;>omega
   · intro _; simpa using h
theorem Add_great (hP:PrgOk P) (a b:Nat) (ha:blen a≤68719476736) (hb:blen b≤68719476736) (hg:¬ (a<18446744073709551616∧b<18446744073709551616)):CSpec P 69 [.agg (natC a),.agg (natC b)] (.agg [.opq (.nat (a+b)),.pad]):=by
 have HE:=Sb_ok hP
 have hxd:∀ d ∈ digs 18446744073709551616 a,d<18446744073709551616:=digs_lt 18446744073709551616 a (by decide)
 have hyd:∀ d ∈ digs 18446744073709551616 b,d<18446744073709551616:=digs_lt 18446744073709551616 b (by decide)
 have hx:=dOf_digs 18446744073709551616 a (by decide)
 have hy:=dOf_digs 18446744073709551616 b (by decide)
 have hlx:=digs_len_blen a
 have hly:=digs_len_blen b
 have hlt:=digs_len_lt 18446744073709551616 a b (by decide)
 have hgt:=digs_len_lt 18446744073709551616 b a (by decide)
 by_cases h1:a<18446744073709551616
 · rw [natC_small h1,natC_great (by omega)]
   have hl:=digs_length_gt 18446744073709551616 b 1 (by decide) (by omega)
   have hl1:=digs_length_le 18446744073709551616 a 1 (by decide) (by omega)
   have hl':(digs 18446744073709551616 a).length<(digs 18446744073709551616 b).length:=by omega
   have hl2:2≤(digs 18446744073709551616 b).length:=by omega
   have hl3:((digs 18446744073709551616 b).length ≠ 0)=True:=eq_true (by omega)
   refine CSpec_go (E:=⟨T0,Sb⟩) (fn69 hP) HE hP.mix ?_
   simp only [go_sem,h1,hl',hl2,hl3]
   generalize digs 18446744073709551616 a=x at *
   generalize digs 18446744073709551616 b=y at *
   have hi:=wi_add1 y.length (by omega)
   have hi2:y.length+1≤1099511627776:=by omega
   have hi3:y.length≤y.length+1:=by omega
   simp only [go_sem,hi,hi2,hi3]
   have hyx:x.length≤y.length:=by omega
   refine trX_loop HE hP.mix [29,2,1,0] (fun q:Nat × List Nat × Nat=>⟨upd (upd (upd (upd (upd (upd (fun _=>.junk) 4 (.ref 2 0)) 8 (sv x)) 9 (.sl 29 0 (y.length+1) 1)) 10 (.int .u64 (q.2.2:Int))) 56 (.int .i64 ((y.length+1:Nat):Int))) 57 (.int .i64 (q.1:Int)),upd (upd (upd (upd (fun _=>.unused) 0 (.live [.int .u64 (a:Int),.nils])) 1 (.live [.int .u64 0,.imm y.length (List.map (fun d:Nat=>AV.int .u64 (d:Int)) (y))])) 2 (.live [.int .u64 0,.nils])) 29 (.live (List.map (fun d:Nat=>AV.int .u64 (d:Int)) (q.2.1))),86⟩)
    (fun q=>q.1≤y.length+1∧q.2.1.length=y.length+1∧(∀ d ∈ q.2.1,d<18446744073709551616)∧q.2.2≤1∧dOf 18446744073709551616 q.2.1+18446744073709551616^q.1*q.2.2=dOf 18446744073709551616 y+dOf 18446744073709551616 (x.take q.1)) (fun q=>y.length+1-q.1) (0,y++[0],0) 40
    Has.z (Kept.of rfl KT.z KM.z) ⟨by simp,by simp,by intro d hd; rcases List.mem_append.1 hd with hd|hd; exact (hyd d hd); simp at hd; omega,by simp,by simp [dOf_append,dOf]⟩ 86 (by kernel_rfl) ?_
   rintro ⟨k,z,c⟩ ⟨q1,q2,q3,q4,q5⟩
   simp only [] at q1 q2 q3 q4 q5
   have fin:dOf 18446744073709551616 z=a+b→CSpec P 67 [.imm z.length (List.map (fun d:Nat=>AV.int .u64 (d:Int)) (z))] (.agg [.opq (.nat (a+b)),.pad]):=fun h=>h ▸ cut_spec hP z q3 (by omega)
   have htk:z.take (y.length+1)=z:=List.take_of_length_le (by omega)
   have hsl:y.length+1<4611686018427387904:=by omega
   have hz3:(∀ d ∈ z,d<18446744073709551616)=True:=eq_true q3
   have hall:=hyd
   by_cases hk:k<y.length+1
   · have hkz:k<z.length:=by omega
     have hzd:=q3 _ (getD_mem hkz)
     have hw:=wi_add1 k (by omega)
     have hset:=dOf_set 18446744073709551616 z k
     by_cases hky:k<x.length
     · have e1:x ≠ []:=by intro e; rw [e] at hky; simp at hky
       have hky':k≤x.length:=by omega
       simp only [go_sem,hk,hky,hky',hkz,gU hkz,gU' hky,q4,hzd,hw,sv_ia e1]
       have hs:=hset (addl (z.getD k 0) (x.getD k 0) c) hkz
       have hst:=add_step (18446744073709551616^k) (z.getD k 0) (x.getD k 0) c _ _ _ q5 hs
       have hyk:=hxd _ (getD_mem hky)
       refine ⟨(k+1,z.set k (addl (z.getD k 0) (x.getD k 0) c),addh (z.getD k 0) (x.getD k 0) c),Kept.of rfl KT.z KM.z,⟨by simp only []; omega,by simp only [List.length_set]; omega,?_,addh_le hzd hyk q4,?_⟩,by simp only []; omega⟩
       · intro d hd
         rcases List.mem_or_eq_of_mem_set hd with hd|rfl
         · exact q3 d hd
         · exact addl_lt _ _ _
       · simp only []
         rw [dOf_take_succ 18446744073709551616 x k hky,Nat.pow_succ]; exact hst
     · have htke:x.take k=x:=List.take_of_length_le (by omega)
       have htke1:x.take (k+1)=x:=List.take_of_length_le (by omega)
       by_cases hc:c=0
       · have hc':(c == 0)=true:=by rw [hc]; rfl
         simp only [go_sem,hk,hky,hc',htk,q2,hz3,hsl]
         rw [hc,htke,hy,hx] at q5
         have e:dOf 18446744073709551616 z=a+b:=by simp only [Nat.mul_zero,Nat.add_zero] at q5; omega
         rw [e]; exact .refl _
       · have hc':(c == 0)=false:=by simpa using hc
         simp only [go_sem,hk,hky,hc',hkz,gU hkz,q4,hzd,hw]
         have hs:=hset (addl (z.getD k 0) 0 c) hkz
         have hst:=add_step (18446744073709551616^k) (z.getD k 0) 0 c _ _ _ q5 hs
         refine ⟨(k+1,z.set k (addl (z.getD k 0) 0 c),addh (z.getD k 0) 0 c),Kept.of rfl KT.z KM.z,⟨by simp only []; omega,by simp only [List.length_set]; omega,?_,addh_le hzd (by decide) q4,?_⟩,by simp only []; omega⟩
         · intro d hd
           rcases List.mem_or_eq_of_mem_set hd with hd|rfl
           · exact q3 d hd
           · exact addl_lt _ _ _
         · simp only []
           rw [htke] at hst
           rw [htke1,Nat.pow_succ]; exact hst
   · simp only [go_sem,hk,htk,q2,hz3,hsl]
     have hkn:k=y.length+1:=by omega
     have htke:x.take k=x:=List.take_of_length_le (by omega)
     rw [htke] at q5
     have l1:=dOf_lt 18446744073709551616 y hyd
     have l2:=dOf_lt 18446744073709551616 x hxd
     have l3:=Nat.pow_le_pow_right (by decide:0<18446744073709551616) hyx
     have l4:18446744073709551616^k=18446744073709551616^y.length*18446744073709551616:=by rw [hkn,Nat.pow_succ]
     have hc:c=0:=by
      rcases Nat.eq_zero_or_pos c with h|h
      · exact h
      · obtain rfl:c=1:=by omega
        omega
     have e:dOf 18446744073709551616 z=a+b:=by rw [hc,hy,hx] at q5; simp only [Nat.mul_zero,Nat.add_zero] at q5; omega
     rw [e]; exact .refl _
 · have hl:=digs_length_gt 18446744073709551616 a 1 (by decide) (by omega)
   have hl2:2≤(digs 18446744073709551616 a).length:=by omega
   have hl3:((digs 18446744073709551616 a).length ≠ 0)=True:=eq_true (by omega)
   by_cases h2:b<18446744073709551616
   · rw [natC_great h1,natC_small h2]
     have hl1:=digs_length_le 18446744073709551616 b 1 (by decide) (by omega)
     have hl':¬ (digs 18446744073709551616 a).length<(digs 18446744073709551616 b).length:=by omega
     refine CSpec_go (E:=⟨T0,Sb⟩) (fn69 hP) HE hP.mix ?_
     simp only [go_sem,h2,hl',hl2,hl3]
     generalize digs 18446744073709551616 a=x at *
     generalize digs 18446744073709551616 b=y at *
     have hi:=wi_add1 x.length (by omega)
     have hi2:x.length+1≤1099511627776:=by omega
     have hi3:x.length≤x.length+1:=by omega
     simp only [go_sem,hi,hi2,hi3]
     have hyx:y.length≤x.length:=by omega
     refine trX_loop HE hP.mix [22,2,1,0] (fun q:Nat × List Nat × Nat=>⟨upd (upd (upd (upd (upd (upd (fun _=>.junk) 4 (.ref 2 0)) 8 (sv y)) 9 (.sl 22 0 (x.length+1) 1)) 10 (.int .u64 (q.2.2:Int))) 56 (.int .i64 ((x.length+1:Nat):Int))) 57 (.int .i64 (q.1:Int)),upd (upd (upd (upd (fun _=>.unused) 0 (.live [.int .u64 0,.imm x.length (List.map (fun d:Nat=>AV.int .u64 (d:Int)) (x))])) 1 (.live [.int .u64 (b:Int),.nils])) 2 (.live [.int .u64 0,.nils])) 22 (.live (List.map (fun d:Nat=>AV.int .u64 (d:Int)) (q.2.1))),86⟩)
      (fun q=>q.1≤x.length+1∧q.2.1.length=x.length+1∧(∀ d ∈ q.2.1,d<18446744073709551616)∧q.2.2≤1∧dOf 18446744073709551616 q.2.1+18446744073709551616^q.1*q.2.2=dOf 18446744073709551616 x+dOf 18446744073709551616 (y.take q.1)) (fun q=>x.length+1-q.1) (0,x++[0],0) 40
      Has.z (Kept.of rfl KT.z KM.z) ⟨by simp,by simp,by intro d hd; rcases List.mem_append.1 hd with hd|hd; exact (hxd d hd); simp at hd; omega,by simp,by simp [dOf_append,dOf]⟩ 86 (by kernel_rfl) ?_
     rintro ⟨k,z,c⟩ ⟨q1,q2,q3,q4,q5⟩
     simp only [] at q1 q2 q3 q4 q5
     have fin:dOf 18446744073709551616 z=a+b→CSpec P 67 [.imm z.length (List.map (fun d:Nat=>AV.int .u64 (d:Int)) (z))] (.agg [.opq (.nat (a+b)),.pad]):=fun h=>h ▸ cut_spec hP z q3 (by omega)
     have htk:z.take (x.length+1)=z:=List.take_of_length_le (by omega)
     have hsl:x.length+1<4611686018427387904:=by omega
     have hz3:(∀ d ∈ z,d<18446744073709551616)=True:=eq_true q3
     have hall:=hxd
     by_cases hk:k<x.length+1
     · have hkz:k<z.length:=by omega
       have hzd:=q3 _ (getD_mem hkz)
       have hw:=wi_add1 k (by omega)
       have hset:=dOf_set 18446744073709551616 z k
       by_cases hky:k<y.length
       · have e1:y ≠ []:=by intro e; rw [e] at hky; simp at hky
         have hky':k≤y.length:=by omega
         simp only [go_sem,hk,hky,hky',hkz,gU hkz,gU' hky,q4,hzd,hw,sv_ia e1]
         have hs:=hset (addl (z.getD k 0) (y.getD k 0) c) hkz
         have hst:=add_step (18446744073709551616^k) (z.getD k 0) (y.getD k 0) c _ _ _ q5 hs
         have hyk:=hyd _ (getD_mem hky)
         refine ⟨(k+1,z.set k (addl (z.getD k 0) (y.getD k 0) c),addh (z.getD k 0) (y.getD k 0) c),Kept.of rfl KT.z KM.z,⟨by simp only []; omega,by simp only [List.length_set]; omega,?_,addh_le hzd hyk q4,?_⟩,by simp only []; omega⟩
         · intro d hd
           rcases List.mem_or_eq_of_mem_set hd with hd|rfl
           · exact q3 d hd
           · exact addl_lt _ _ _
         · simp only []
           rw [dOf_take_succ 18446744073709551616 y k hky,Nat.pow_succ]; exact hst
       · have htke:y.take k=y:=List.take_of_length_le (by omega)
         have htke1:y.take (k+1)=y:=List.take_of_length_le (by omega)
         by_cases hc:c=0
         · have hc':(c == 0)=true:=by rw [hc]; rfl
           simp only [go_sem,hk,hky,hc',htk,q2,hz3,hsl]
           rw [hc,htke,hx,hy] at q5
           have e:dOf 18446744073709551616 z=a+b:=by simp only [Nat.mul_zero,Nat.add_zero] at q5; omega
           rw [e]; exact .refl _
         · have hc':(c == 0)=false:=by simpa using hc
           simp only [go_sem,hk,hky,hc',hkz,gU hkz,q4,hzd,hw]
           have hs:=hset (addl (z.getD k 0) 0 c) hkz
           have hst:=add_step (18446744073709551616^k) (z.getD k 0) 0 c _ _ _ q5 hs
           refine ⟨(k+1,z.set k (addl (z.getD k 0) 0 c),addh (z.getD k 0) 0 c),Kept.of rfl KT.z KM.z,⟨by simp only []; omega,by simp only [List.length_set]; omega,?_,addh_le hzd (by decide) q4,?_⟩,by simp only []; omega⟩
           · intro d hd
             rcases List.mem_or_eq_of_mem_set hd with hd|rfl
             · exact q3 d hd
             · exact addl_lt _ _ _
           · simp only []
             rw [htke] at hst
             rw [htke1,Nat.pow_succ]; exact hst
     · simp only [go_sem,hk,htk,q2,hz3,hsl]
       have hkn:k=x.length+1:=by omega
       have htke:y.take k=y:=List.take_of_length_le (by omega)
       rw [htke] at q5
       have l1:=dOf_lt 18446744073709551616 x hxd
       have l2:=dOf_lt 18446744073709551616 y hyd
       have l3:=Nat.pow_le_pow_right (by decide:0<18446744073709551616) hyx
       have l4:18446744073709551616^k=18446744073709551616^x.length*18446744073709551616:=by rw [hkn,Nat.pow_succ]
       have hc:c=0:=by
        rcases Nat.eq_zero_or_pos c with h|h
        · exact h
        · obtain rfl:c=1:=by omega
          omega
       have e:dOf 18446744073709551616 z=a+b:=by rw [hc,hx,hy] at q5; simp only [Nat.mul_zero,Nat.add_zero] at q5; omega
       rw [e]; exact .refl _
   · rw [natC_great h1,natC_great h2]
     have hl4:=digs_length_gt 18446744073709551616 b 1 (by decide) (by omega)
     have hl5:2≤(digs 18446744073709551616 b).length:=by omega
     have hl6:((digs 18446744073709551616 b).length ≠ 0)=True:=eq_true (by omega)
     by_cases hl':(digs 18446744073709551616 a).length<(digs 18446744073709551616 b).length
     · refine CSpec_go (E:=⟨T0,Sb⟩) (fn69 hP) HE hP.mix ?_
       simp only [go_sem,hl',hl2,hl3,hl5,hl6]
       generalize digs 18446744073709551616 a=x at *
       generalize digs 18446744073709551616 b=y at *
       have hi:=wi_add1 y.length (by omega)
       have hi2:y.length+1≤1099511627776:=by omega
       have hi3:y.length≤y.length+1:=by omega
       simp only [go_sem,hi,hi2,hi3]
       have hyx:x.length≤y.length:=by omega
       refine trX_loop HE hP.mix [26,2,1,0] (fun q:Nat × List Nat × Nat=>⟨upd (upd (upd (upd (upd (upd (fun _=>.junk) 4 (.ref 2 0)) 8 (sv x)) 9 (.sl 26 0 (y.length+1) 1)) 10 (.int .u64 (q.2.2:Int))) 56 (.int .i64 ((y.length+1:Nat):Int))) 57 (.int .i64 (q.1:Int)),upd (upd (upd (upd (fun _=>.unused) 0 (.live [.int .u64 0,.imm x.length (List.map (fun d:Nat=>AV.int .u64 (d:Int)) (x))])) 1 (.live [.int .u64 0,.imm y.length (List.map (fun d:Nat=>AV.int .u64 (d:Int)) (y))])) 2 (.live [.int .u64 0,.nils])) 26 (.live (List.map (fun d:Nat=>AV.int .u64 (d:Int)) (q.2.1))),86⟩)
        (fun q=>q.1≤y.length+1∧q.2.1.length=y.length+1∧(∀ d ∈ q.2.1,d<18446744073709551616)∧q.2.2≤1∧dOf 18446744073709551616 q.2.1+18446744073709551616^q.1*q.2.2=dOf 18446744073709551616 y+dOf 18446744073709551616 (x.take q.1)) (fun q=>y.length+1-q.1) (0,y++[0],0) 40
        Has.z (Kept.of rfl KT.z KM.z) ⟨by simp,by simp,by intro d hd; rcases List.mem_append.1 hd with hd|hd; exact (hyd d hd); simp at hd; omega,by simp,by simp [dOf_append,dOf]⟩ 86 (by kernel_rfl) ?_
       rintro ⟨k,z,c⟩ ⟨q1,q2,q3,q4,q5⟩
       simp only [] at q1 q2 q3 q4 q5
       have fin:dOf 18446744073709551616 z=a+b→CSpec P 67 [.imm z.length (List.map (fun d:Nat=>AV.int .u64 (d:Int)) (z))] (.agg [.opq (.nat (a+b)),.pad]):=fun h=>h ▸ cut_spec hP z q3 (by omega)
       have htk:z.take (y.length+1)=z:=List.take_of_length_le (by omega)
       have hsl:y.length+1<4611686018427387904:=by omega
       have hz3:(∀ d ∈ z,d<18446744073709551616)=True:=eq_true q3
       have hall:=hyd
       by_cases hk:k<y.length+1
       · have hkz:k<z.length:=by omega
         have hzd:=q3 _ (getD_mem hkz)
         have hw:=wi_add1 k (by omega)
         have hset:=dOf_set 18446744073709551616 z k
         by_cases hky:k<x.length
         · have e1:x ≠ []:=by intro e; rw [e] at hky; simp at hky
           have hky':k≤x.length:=by omega
           simp only [go_sem,hk,hky,hky',hkz,gU hkz,gU' hky,q4,hzd,hw,sv_ia e1]
           have hs:=hset (addl (z.getD k 0) (x.getD k 0) c) hkz
           have hst:=add_step (18446744073709551616^k) (z.getD k 0) (x.getD k 0) c _ _ _ q5 hs
           have hyk:=hxd _ (getD_mem hky)
           refine ⟨(k+1,z.set k (addl (z.getD k 0) (x.getD k 0) c),addh (z.getD k 0) (x.getD k 0) c),Kept.of rfl KT.z KM.z,⟨by simp only []; omega,by simp only [List.length_set]; omega,?_,addh_le hzd hyk q4,?_⟩,by simp only []; omega⟩
           · intro d hd
             rcases List.mem_or_eq_of_mem_set hd with hd|rfl
             · exact q3 d hd
             · exact addl_lt _ _ _
           · simp only []
             rw [dOf_take_succ 18446744073709551616 x k hky,Nat.pow_succ]; exact hst
         · have htke:x.take k=x:=List.take_of_length_le (by omega)
           have htke1:x.take (k+1)=x:=List.take_of_length_le (by omega)
           by_cases hc:c=0
           · have hc':(c == 0)=true:=by rw [hc]; rfl
             simp only [go_sem,hk,hky,hc',htk,q2,hz3,hsl]
             rw [hc,htke,hy,hx] at q5
             have e:dOf 18446744073709551616 z=a+b:=by simp only [Nat.mul_zero,Nat.add_zero] at q5; omega
             rw [e]; exact .refl _
           · have hc':(c == 0)=false:=by simpa using hc
             simp only [go_sem,hk,hky,hc',hkz,gU hkz,q4,hzd,hw]
             have hs:=hset (addl (z.getD k 0) 0 c) hkz
             have hst:=add_step (18446744073709551616^k) (z.getD k 0) 0 c _ _ _ q5 hs
             refine ⟨(k+1,z.set k (addl (z.getD k 0) 0 c),addh (z.getD k 0) 0 c),Kept.of rfl KT.z KM.z,⟨by simp only []; omega,by simp only [List.length_set]; omega,?_,addh_le hzd (by decide) q4,?_⟩,by simp only []; omega⟩
             · intro d hd
               rcases List.mem_or_eq_of_mem_set hd with hd|rfl
               · exact q3 d hd
               · exact addl_lt _ _ _
             · simp only []
               rw [htke] at hst
               rw [htke1,Nat.pow_succ]; exact hst
       · simp only [go_sem,hk,htk,q2,hz3,hsl]
         have hkn:k=y.length+1:=by omega
         have htke:x.take k=x:=List.take_of_length_le (by omega)
         rw [htke] at q5
         have l1:=dOf_lt 18446744073709551616 y hyd
         have l2:=dOf_lt 18446744073709551616 x hxd
         have l3:=Nat.pow_le_pow_right (by decide:0<18446744073709551616) hyx
         have l4:18446744073709551616^k=18446744073709551616^y.length*18446744073709551616:=by rw [hkn,Nat.pow_succ]
         have hc:c=0:=by
          rcases Nat.eq_zero_or_pos c with h|h
          · exact h
          · obtain rfl:c=1:=by omega
            omega
         have e:dOf 18446744073709551616 z=a+b:=by rw [hc,hy,hx] at q5; simp only [Nat.mul_zero,Nat.add_zero] at q5; omega
         rw [e]; exact .refl _
     · refine CSpec_go (E:=⟨T0,Sb⟩) (fn69 hP) HE hP.mix ?_
       simp only [go_sem,hl',hl2,hl3,hl5,hl6]
       generalize digs 18446744073709551616 a=x at *
       generalize digs 18446744073709551616 b=y at *
       have hi:=wi_add1 x.length (by omega)
       have hi2:x.length+1≤1099511627776:=by omega
       have hi3:x.length≤x.length+1:=by omega
       simp only [go_sem,hi,hi2,hi3]
       have hyx:y.length≤x.length:=by omega
       refine trX_loop HE hP.mix [22,2,1,0] (fun q:Nat × List Nat × Nat=>⟨upd (upd (upd (upd (upd (upd (fun _=>.junk) 4 (.ref 2 0)) 8 (sv y)) 9 (.sl 22 0 (x.length+1) 1)) 10 (.int .u64 (q.2.2:Int))) 56 (.int .i64 ((x.length+1:Nat):Int))) 57 (.int .i64 (q.1:Int)),upd (upd (upd (upd (fun _=>.unused) 0 (.live [.int .u64 0,.imm x.length (List.map (fun d:Nat=>AV.int .u64 (d:Int)) (x))])) 1 (.live [.int .u64 0,.imm y.length (List.map (fun d:Nat=>AV.int .u64 (d:Int)) (y))])) 2 (.live [.int .u64 0,.nils])) 22 (.live (List.map (fun d:Nat=>AV.int .u64 (d:Int)) (q.2.1))),86⟩)
        (fun q=>q.1≤x.length+1∧q.2.1.length=x.length+1∧(∀ d ∈ q.2.1,d<18446744073709551616)∧q.2.2≤1∧dOf 18446744073709551616 q.2.1+18446744073709551616^q.1*q.2.2=dOf 18446744073709551616 x+dOf 18446744073709551616 (y.take q.1)) (fun q=>x.length+1-q.1) (0,x++[0],0) 40
        Has.z (Kept.of rfl KT.z KM.z) ⟨by simp,by simp,by intro d hd; rcases List.mem_append.1 hd with hd|hd; exact (hxd d hd); simp at hd; omega,by simp,by simp [dOf_append,dOf]⟩ 86 (by kernel_rfl) ?_
       rintro ⟨k,z,c⟩ ⟨q1,q2,q3,q4,q5⟩
       simp only [] at q1 q2 q3 q4 q5
       have fin:dOf 18446744073709551616 z=a+b→CSpec P 67 [.imm z.length (List.map (fun d:Nat=>AV.int .u64 (d:Int)) (z))] (.agg [.opq (.nat (a+b)),.pad]):=fun h=>h ▸ cut_spec hP z q3 (by omega)
       have htk:z.take (x.length+1)=z:=List.take_of_length_le (by omega)
       have hsl:x.length+1<4611686018427387904:=by omega
       have hz3:(∀ d ∈ z,d<18446744073709551616)=True:=eq_true q3
       have hall:=hxd
       by_cases hk:k<x.length+1
       · have hkz:k<z.length:=by omega
         have hzd:=q3 _ (getD_mem hkz)
         have hw:=wi_add1 k (by omega)
         have hset:=dOf_set 18446744073709551616 z k
         by_cases hky:k<y.length
         · have e1:y ≠ []:=by intro e; rw [e] at hky; simp at hky
           have hky':k≤y.length:=by omega
           simp only [go_sem,hk,hky,hky',hkz,gU hkz,gU' hky,q4,hzd,hw,sv_ia e1]
           have hs:=hset (addl (z.getD k 0) (y.getD k 0) c) hkz
           have hst:=add_step (18446744073709551616^k) (z.getD k 0) (y.getD k 0) c _ _ _ q5 hs
           have hyk:=hyd _ (getD_mem hky)
           refine ⟨(k+1,z.set k (addl (z.getD k 0) (y.getD k 0) c),addh (z.getD k 0) (y.getD k 0) c),Kept.of rfl KT.z KM.z,⟨by simp only []; omega,by simp only [List.length_set]; omega,?_,addh_le hzd hyk q4,?_⟩,by simp only []; omega⟩
           · intro d hd
             rcases List.mem_or_eq_of_mem_set hd with hd|rfl
             · exact q3 d hd
             · exact addl_lt _ _ _
           · simp only []
             rw [dOf_take_succ 18446744073709551616 y k hky,Nat.pow_succ]; exact hst
         · have htke:y.take k=y:=List.take_of_length_le (by omega)
           have htke1:y.take (k+1)=y:=List.take_of_length_le (by omega)
           by_cases hc:c=0
           · have hc':(c == 0)=true:=by rw [hc]; rfl
             simp only [go_sem,hk,hky,hc',htk,q2,hz3,hsl]
             rw [hc,htke,hx,hy] at q5
             have e:dOf 18446744073709551616 z=a+b:=by simp only [Nat.mul_zero,Nat.add_zero] at q5; omega
             rw [e]; exact .refl _
           · have hc':(c == 0)=false:=by simpa using hc
             simp only [go_sem,hk,hky,hc',hkz,gU hkz,q4,hzd,hw]
             have hs:=hset (addl (z.getD k 0) 0 c) hkz
             have hst:=add_step (18446744073709551616^k) (z.getD k 0) 0 c _ _ _ q5 hs
             refine ⟨(k+1,z.set k (addl (z.getD k 0) 0 c),addh (z.getD k 0) 0 c),Kept.of rfl KT.z KM.z,⟨by simp only []; omega,by simp only [List.length_set]; omega,?_,addh_le hzd (by decide) q4,?_⟩,by simp only []; omega⟩
             · intro d hd
               rcases List.mem_or_eq_of_mem_set hd with hd|rfl
               · exact q3 d hd
               · exact addl_lt _ _ _
             · simp only []
               rw [htke] at hst
               rw [htke1,Nat.pow_succ]; exact hst
       · simp only [go_sem,hk,htk,q2,hz3,hsl]
         have hkn:k=x.length+1:=by omega
         have htke:y.take k=y:=List.take_of_length_le (by omega)
         rw [htke] at q5
         have l1:=dOf_lt 18446744073709551616 x hxd
         have l2:=dOf_lt 18446744073709551616 y hyd
         have l3:=Nat.pow_le_pow_right (by decide:0<18446744073709551616) hyx
         have l4:18446744073709551616^k=18446744073709551616^x.length*18446744073709551616:=by rw [hkn,Nat.pow_succ]
         have hc:c=0:=by
          rcases Nat.eq_zero_or_pos c with h|h
          · exact h
          · obtain rfl:c=1:=by omega
            omega
         have e:dOf 18446744073709551616 z=a+b:=by rw [hc,hx,hy] at q5; simp only [Nat.mul_zero,Nat.add_zero] at q5; omega
         rw [e]; exact .refl _
theorem Add_spec (hP:PrgOk P) (a b:Nat) (ha:blen a≤68719476736) (hb:blen b≤68719476736):CSpec P 69 [(.agg [.opq (.nat (a)),.pad]),(.agg [.opq (.nat (b)),.pad])] (.agg [.opq (.nat (a+b)),.pad]):=by
 refine CSpec.cv ?_ (CvL.natIn a (CvL.natIn b .nil))
 by_cases h:a<18446744073709551616∧b<18446744073709551616
 · rw [natC_small h.1,natC_small h.2]; exact Add_small hP a b h.1 h.2
 · exact Add_great hP a b ha hb h
def AddS:List AV→Option (Prop × AV):=on2 fun a b=>(blen a≤68719476736∧blen b≤68719476736,(.agg [.opq (.nat (a+b)),.pad]))
theorem AddS_ok (hP:PrgOk P) (args p r):AddS args=some (p,r)→p→CSpec P 69 args r:=on2_ok (fun a b h=>by exact Add_spec hP a b h.1 h.2) args p r
attribute [go_sem] AddS
theorem Sub_less (hP:PrgOk P) (a b:Nat) (ha:blen a≤68719476736) (hb:blen b≤68719476736) (h:a<b):CSpec P 86 [(.agg [.opq (.nat (a)),.pad]),(.agg [.opq (.nat (b)),.pad])] (.tup [(.agg [.opq (.nat (0)),.pad]),.int .i64 10]):=by
 have HE:=Sb_ok hP
 refine CSpec_go (E:=⟨T0,Sb⟩) (fn86 hP) HE hP.mix ?_
 have hc:decide (cmpI a b<0)=true:=by rw [cmpI_lt h]; rfl
 simp only [go_sem,ha,hb,hc]
 exact CvL.conv (CvL.tup (by have:=CvL.natOut 0 (xs:=[.int .i64 10]) (CvL.refl _); rw [natC_small (by decide)] at this; exact this) .nil)
theorem Sub_ok (hP:PrgOk P) (a b:Nat) (ha:blen a≤68719476736) (hb:blen b≤68719476736) (h:b≤a):CSpec P 86 [(.agg [.opq (.nat (a)),.pad]),(.agg [.opq (.nat (b)),.pad])] (.tup [(.agg [.opq (.nat (a-b)),.pad]),.int .i64 0]):=by
 have HE:=Sb_ok hP
 have hc:decide (cmpI a b<0)=false:=by
  rcases Nat.lt_or_ge b a with h'|h'
  · rw [cmpI_gt h']; rfl
  · rw [Nat.le_antisymm h h',cmpI_eq]; rfl
 refine CSpec.cv ?_ (CvL.natIn a (CvL.natIn b .nil))
 by_cases h1:a<18446744073709551616
 · have h2:b<18446744073709551616:=by omega
   rw [natC_small h1,natC_small h2]
   have hs:=wu_sub a b h h1
   refine CSpec_go (E:=⟨T0,Sb⟩) (fn86 hP) HE hP.mix ?_
   simp only [go_sem,ha,hb,hc,h1,h2,hs]
   exact CvL.conv (CvL.tup (by have:=CvL.natOut (a-b) (xs:=[.int .i64 0]) (CvL.refl _); rw [natC_small (by omega)] at this; exact this) .nil)
 · rw [natC_great h1]
   have hxd:∀ d ∈ digs 18446744073709551616 a,d<18446744073709551616:=digs_lt 18446744073709551616 a (by decide)
   have hyd:∀ d ∈ digs 18446744073709551616 b,d<18446744073709551616:=digs_lt 18446744073709551616 b (by decide)
   have hx:=dOf_digs 18446744073709551616 a (by decide)
   have hy:=dOf_digs 18446744073709551616 b (by decide)
   have hlx:=digs_len_blen a
   have hgt:=digs_len_lt 18446744073709551616 a b (by decide)
   have hyx:(digs 18446744073709551616 b).length≤(digs 18446744073709551616 a).length:=by omega
   have hl:=digs_length_gt 18446744073709551616 a 1 (by decide) (by omega)
   have hl2:2≤(digs 18446744073709551616 a).length:=by omega
   have hl3:((digs 18446744073709551616 a).length ≠ 0)=True:=eq_true (by omega)
   have hl4:(digs 18446744073709551616 a).length≤1099511627776:=by omega
   by_cases h2:b<18446744073709551616
   · rw [natC_small h2]
     refine CSpec_go (E:=⟨T0,Sb⟩) (fn86 hP) HE hP.mix ?_
     simp only [go_sem,ha,hb,hc,h2,hl2,hl3,hl4]
     generalize digs 18446744073709551616 a=x at *
     generalize digs 18446744073709551616 b=y at *
     refine trX_loop HE hP.mix [14,2,1,0] (fun q:Nat × List Nat × Nat=>⟨upd (upd (upd (upd (upd (upd (fun _=>.junk) 4 (.ref 2 0)) 7 (sv y)) 6 (.sl 14 0 x.length 1)) 8 (.int .u64 (q.2.2:Int))) 36 (.int .i64 (x.length:Int))) 37 (.int .i64 (q.1:Int)),upd (upd (upd (upd (fun _=>.unused) 0 (.live [.int .u64 0,.imm x.length (List.map (fun d:Nat=>AV.int .u64 (d:Int)) (x))])) 1 (.live [.int .u64 (b:Int),.nils])) 2 (.live [.int .u64 0,.nils])) 14 (.live (List.map (fun d:Nat=>AV.int .u64 (d:Int)) (q.2.1))),66⟩)
      (fun q=>q.1≤x.length∧q.2.1.length=x.length∧(∀ d ∈ q.2.1,d<18446744073709551616)∧q.2.2≤1∧dOf 18446744073709551616 q.2.1+dOf 18446744073709551616 (y.take q.1)=dOf 18446744073709551616 x+18446744073709551616^q.1*q.2.2) (fun q=>x.length-q.1) (0,x,0) 40
      Has.z (Kept.of rfl KT.z KM.z) ⟨by simp,by simp,hxd,by simp,by simp [dOf]⟩ 66 (by kernel_rfl) ?_
     rintro ⟨k,z,c⟩ ⟨q1,q2,q3,q4,q5⟩
     simp only [] at q1 q2 q3 q4 q5
     have htk:z.take x.length=z:=List.take_of_length_le (by omega)
     have hsl:x.length<4611686018427387904:=by omega
     have hz3:(∀ d ∈ z,d<18446744073709551616)=True:=eq_true q3
     by_cases hk:k<x.length
     · have hkz:k<z.length:=by omega
       have hzd:=q3 _ (getD_mem hkz)
       have hw:=wi_add1 k (by omega)
       have hset:=dOf_set 18446744073709551616 z k
       by_cases hky:k<y.length
       · have e1:y ≠ []:=by intro e; rw [e] at hky; simp at hky
         have hky':k≤y.length:=by omega
         have hyk:=hyd _ (getD_mem hky)
         simp only [go_sem,hk,hky,hky',hkz,gU hkz,gU' hky,q4,hzd,hw,sv_ia e1]
         have hs:=hset (subd (z.getD k 0) (y.getD k 0) c) hkz
         have hst:=sub_step (18446744073709551616^k) (z.getD k 0) (y.getD k 0) c _ _ _ hzd hyk q4 q5 hs
         refine ⟨(k+1,z.set k (subd (z.getD k 0) (y.getD k 0) c),bor (z.getD k 0) (y.getD k 0) c),Kept.of rfl KT.z KM.z,⟨by simp only []; omega,by simp only [List.length_set]; omega,?_,bor_le _ _ _,?_⟩,by simp only []; omega⟩
         · intro d hd
           rcases List.mem_or_eq_of_mem_set hd with hd|rfl
           · exact q3 d hd
           · exact subd_lt _ _ _
         · simp only []
           rw [dOf_take_succ 18446744073709551616 y k hky,Nat.pow_succ]; exact hst
       · have htke:y.take k=y:=List.take_of_length_le (by omega)
         have htke1:y.take (k+1)=y:=List.take_of_length_le (by omega)
         by_cases hc0:c=0
         · have hc':(c == 0)=true:=by rw [hc0]; rfl
           simp only [go_sem,hk,hky,hc',htk,q2,hz3,hsl]
           rw [hc0,htke,hx,hy] at q5
           have e:dOf 18446744073709551616 z=a-b:=by simp only [Nat.mul_zero,Nat.add_zero] at q5; omega
           rw [e]; exact .refl _
         · have hc':(c == 0)=false:=by simpa using hc0
           simp only [go_sem,hk,hky,hc',hkz,gU hkz,q4,hzd,hw]
           have hs:=hset (subd (z.getD k 0) 0 c) hkz
           have hst:=sub_step (18446744073709551616^k) (z.getD k 0) 0 c _ _ _ hzd (by decide) q4 q5 hs
           refine ⟨(k+1,z.set k (subd (z.getD k 0) 0 c),bor (z.getD k 0) 0 c),Kept.of rfl KT.z KM.z,⟨by simp only []; omega,by simp only [List.length_set]; omega,?_,bor_le _ _ _,?_⟩,by simp only []; omega⟩
           · intro d hd
             rcases List.mem_or_eq_of_mem_set hd with hd|rfl
             · exact q3 d hd
             · exact subd_lt _ _ _
           · simp only []
             rw [htke] at hst
             rw [htke1,Nat.pow_succ]; exact hst
     · simp only [go_sem,hk,htk,q2,hz3,hsl]
       have hkn:k=x.length:=by omega
       have htke:y.take k=y:=List.take_of_length_le (by omega)
       rw [htke] at q5
       have l1:=dOf_lt 18446744073709551616 z q3
       rw [q2,← hkn] at l1
       have hc0:c=0:=by
        rcases Nat.eq_zero_or_pos c with h|h
        · exact h
        · obtain rfl:c=1:=by omega
          omega
       have e:dOf 18446744073709551616 z=a-b:=by rw [hc0,hx,hy] at q5; simp only [Nat.mul_zero,Nat.add_zero] at q5; omega
       rw [e]; exact .refl _
   · rw [natC_great h2]
     have hl4':=digs_length_gt 18446744073709551616 b 1 (by decide) (by omega)
     have hl5:2≤(digs 18446744073709551616 b).length:=by omega
     have hl6:((digs 18446744073709551616 b).length ≠ 0)=True:=eq_true (by omega)
     refine CSpec_go (E:=⟨T0,Sb⟩) (fn86 hP) HE hP.mix ?_
     simp only [go_sem,ha,hb,hc,hl2,hl3,hl4,hl5,hl6]
     generalize digs 18446744073709551616 a=x at *
     generalize digs 18446744073709551616 b=y at *
     refine trX_loop HE hP.mix [14,2,1,0] (fun q:Nat × List Nat × Nat=>⟨upd (upd (upd (upd (upd (upd (fun _=>.junk) 4 (.ref 2 0)) 7 (sv y)) 6 (.sl 14 0 x.length 1)) 8 (.int .u64 (q.2.2:Int))) 36 (.int .i64 (x.length:Int))) 37 (.int .i64 (q.1:Int)),upd (upd (upd (upd (fun _=>.unused) 0 (.live [.int .u64 0,.imm x.length (List.map (fun d:Nat=>AV.int .u64 (d:Int)) (x))])) 1 (.live [.int .u64 0,.imm y.length (List.map (fun d:Nat=>AV.int .u64 (d:Int)) (y))])) 2 (.live [.int .u64 0,.nils])) 14 (.live (List.map (fun d:Nat=>AV.int .u64 (d:Int)) (q.2.1))),66⟩)
      (fun q=>q.1≤x.length∧q.2.1.length=x.length∧(∀ d ∈ q.2.1,d<18446744073709551616)∧q.2.2≤1∧dOf 18446744073709551616 q.2.1+dOf 18446744073709551616 (y.take q.1)=dOf 18446744073709551616 x+18446744073709551616^q.1*q.2.2) (fun q=>x.length-q.1) (0,x,0) 40
      Has.z (Kept.of rfl KT.z KM.z) ⟨by simp,by simp,hxd,by simp,by simp [dOf]⟩ 66 (by kernel_rfl) ?_
     rintro ⟨k,z,c⟩ ⟨q1,q2,q3,q4,q5⟩
     simp only [] at q1 q2 q3 q4 q5
     have htk:z.take x.length=z:=List.take_of_length_le (by omega)
     have hsl:x.length<4611686018427387904:=by omega
     have hz3:(∀ d ∈ z,d<18446744073709551616)=True:=eq_true q3
     by_cases hk:k<x.length
     · have hkz:k<z.length:=by omega
       have hzd:=q3 _ (getD_mem hkz)
       have hw:=wi_add1 k (by omega)
       have hset:=dOf_set 18446744073709551616 z k
       by_cases hky:k<y.length
       · have e1:y ≠ []:=by intro e; rw [e] at hky; simp at hky
         have hky':k≤y.length:=by omega
         have hyk:=hyd _ (getD_mem hky)
         simp only [go_sem,hk,hky,hky',hkz,gU hkz,gU' hky,q4,hzd,hw,sv_ia e1]
         have hs:=hset (subd (z.getD k 0) (y.getD k 0) c) hkz
         have hst:=sub_step (18446744073709551616^k) (z.getD k 0) (y.getD k 0) c _ _ _ hzd hyk q4 q5 hs
         refine ⟨(k+1,z.set k (subd (z.getD k 0) (y.getD k 0) c),bor (z.getD k 0) (y.getD k 0) c),Kept.of rfl KT.z KM.z,⟨by simp only []; omega,by simp only [List.length_set]; omega,?_,bor_le _ _ _,?_⟩,by simp only []; omega⟩
         · intro d hd
           rcases List.mem_or_eq_of_mem_set hd with hd|rfl
           · exact q3 d hd
           · exact subd_lt _ _ _
         · simp only []
           rw [dOf_take_succ 18446744073709551616 y k hky,Nat.pow_succ]; exact hst
       · have htke:y.take k=y:=List.take_of_length_le (by omega)
         have htke1:y.take (k+1)=y:=List.take_of_length_le (by omega)
         by_cases hc0:c=0
         · have hc':(c == 0)=true:=by rw [hc0]; rfl
           simp only [go_sem,hk,hky,hc',htk,q2,hz3,hsl]
           rw [hc0,htke,hx,hy] at q5
           have e:dOf 18446744073709551616 z=a-b:=by simp only [Nat.mul_zero,Nat.add_zero] at q5; omega
           rw [e]; exact .refl _
         · have hc':(c == 0)=false:=by simpa using hc0
           simp only [go_sem,hk,hky,hc',hkz,gU hkz,q4,hzd,hw]
           have hs:=hset (subd (z.getD k 0) 0 c) hkz
           have hst:=sub_step (18446744073709551616^k) (z.getD k 0) 0 c _ _ _ hzd (by decide) q4 q5 hs
           refine ⟨(k+1,z.set k (subd (z.getD k 0) 0 c),bor (z.getD k 0) 0 c),Kept.of rfl KT.z KM.z,⟨by simp only []; omega,by simp only [List.length_set]; omega,?_,bor_le _ _ _,?_⟩,by simp only []; omega⟩
           · intro d hd
             rcases List.mem_or_eq_of_mem_set hd with hd|rfl
             · exact q3 d hd
             · exact subd_lt _ _ _
           · simp only []
             rw [htke] at hst
             rw [htke1,Nat.pow_succ]; exact hst
     · simp only [go_sem,hk,htk,q2,hz3,hsl]
       have hkn:k=x.length:=by omega
       have htke:y.take k=y:=List.take_of_length_le (by omega)
       rw [htke] at q5
       have l1:=dOf_lt 18446744073709551616 z q3
       rw [q2,← hkn] at l1
       have hc0:c=0:=by
        rcases Nat.eq_zero_or_pos c with h|h
        · exact h
        · obtain rfl:c=1:=by omega
          omega
       have e:dOf 18446744073709551616 z=a-b:=by rw [hc0,hx,hy] at q5; simp only [Nat.mul_zero,Nat.add_zero] at q5; omega
       rw [e]; exact .refl _
def SubS:List AV→Option (Prop × AV):=on2 fun a b=>(blen a≤68719476736∧blen b≤68719476736,if a<b then .tup [(.agg [.opq (.nat (0)),.pad]),.int .i64 10] else .tup [(.agg [.opq (.nat (a-b)),.pad]),.int .i64 0])
theorem SubS_ok (hP:PrgOk P) (args p r):SubS args=some (p,r)→p→CSpec P 86 args r:=on2_ok (fun a b h=>by
 by_cases hlt:a<b
 · simp only [if_pos hlt]; exact Sub_less hP a b h.1 h.2 hlt
 · simp only [if_neg hlt]; exact Sub_ok hP a b h.1 h.2 (by omega)) args p r
attribute [go_sem] SubS
theorem Mul_small (hP:PrgOk P) (a b:Nat) (ha:a<18446744073709551616) (hb:b<18446744073709551616):CSpec P 34 [.agg [.int .u64 (a:Int),.nils],.agg [.int .u64 (b:Int),.nils]] (.agg [.opq (.nat (a*b)),.pad]):=by
 have HE:=Sb_ok hP
 refine CSpec_go (E:=⟨T0,Sb⟩) (fn34 hP) HE hP.mix ?_
 simp only [go_sem,ha,hb]
 have h2:=mul_all a b
 have h3:=mull_lt a b
 have h4:=mulh_lt ha hb
 refine if_split (fun h=>?_) (fun h=>?_)
 · simp only [go_sem]
   have h:=eq_of_beq h
   have e:mull a b=a*b:=by rw [h] at h2; omega
   rw [e]; exact Conv.nat1 (by omega)
 · simp only [go_sem]
   have h:mulh a b ≠ 0:=by simpa using h
   have e:dOf 18446744073709551616 [mull a b,mulh a b]=a*b:=by simp only [dOf]; omega
   have:=Conv.natL (l:=[mull a b,mulh a b]) (n:=2) ?_ ?_ (by simp) rfl
   · rw [e] at this; exact this
   · intro d hd
     simp only [List.mem_cons,List.not_mem_nil,or_false] at hd
     rcases hd with rfl|rfl<;>omega
   · intro _; simpa using h
theorem Mul_great (hP:PrgOk P) (a b:Nat) (ha:blen a≤68719476736) (hb:blen b≤68719476736) (hg:¬ (a<18446744073709551616∧b<18446744073709551616)):CSpec P 34 [.agg (natC a),.agg (natC b)] (.agg [.opq (.nat (a*b)),.pad]):=by
 have HE:=Sb_ok hP
 have hxd:∀ d ∈ digs 18446744073709551616 a,d<18446744073709551616:=digs_lt 18446744073709551616 a (by decide)
 have hyd:∀ d ∈ digs 18446744073709551616 b,d<18446744073709551616:=digs_lt 18446744073709551616 b (by decide)
 have hx:=dOf_digs 18446744073709551616 a (by decide)
 have hy:=dOf_digs 18446744073709551616 b (by decide)
 have hlx:=digs_len_blen a
 have hly:=digs_len_blen b
 by_cases h1:a<18446744073709551616
 · rw [natC_small h1,natC_great (by omega)]
   have hl:=digs_length_gt 18446744073709551616 b 1 (by decide) (by omega)
   have hl2:2≤(digs 18446744073709551616 b).length:=by omega
   have hl3:((digs 18446744073709551616 b).length ≠ 0)=True:=eq_true (by omega)
   refine CSpec_go (E:=⟨T0,Sb⟩) (fn34 hP) HE hP.mix ?_
   simp only [go_sem,h1,hl2,hl3]
   generalize digs 18446744073709551616 a=x at *
   generalize digs 18446744073709551616 b=y at *
   have hi:=wi_add x.length y.length (by omega)
   have hi2:x.length+y.length≤1099511627776:=by omega
   simp only [go_sem,hi,hi2]
   refine trX_loop HE hP.mix [22,2,1,0] (fun q:Nat × List Nat=>⟨upd (upd (upd (upd (upd (upd (fun _=>.junk) 4 (.ref 2 0)) 7 (sv x)) 8 (sv y)) 9 (.sl 22 0 (x.length+y.length) 1)) 51 (.int .i64 (x.length:Int))) 52 (.int .i64 (q.1:Int)),upd (upd (upd (upd (fun _=>.unused) 0 (.live [.int .u64 (a:Int),.nils])) 1 (.live [.int .u64 0,.imm y.length (List.map (fun d:Nat=>AV.int .u64 (d:Int)) (y))])) 2 (.live [.int .u64 0,.nils])) 22 (.live (List.map (fun d:Nat=>AV.int .u64 (d:Int)) (q.2))),111⟩)
    (fun q=>q.1≤x.length∧q.2.length=x.length+y.length∧(∀ d ∈ q.2,d<18446744073709551616)∧(∀ j,q.1+y.length≤j→q.2.getD j 0=0)∧dOf 18446744073709551616 q.2=dOf 18446744073709551616 (x.take q.1)*dOf 18446744073709551616 y) (fun q=>x.length-q.1) (0,List.replicate (x.length+y.length) 0) 60
    Has.z (Kept.of rfl KT.z KM.z) ⟨by simp,by simp,by intro d hd; rw [List.eq_of_mem_replicate hd]; decide,by intro j _; simp [List.getD_eq_getElem?_getD,List.getElem?_replicate]; split<;>rfl,by simp [dOf,dOf_zeros]⟩ 111 (by kernel_rfl) ?_
   rintro ⟨i,z⟩ ⟨q1,q2,q3,q4,q5⟩
   simp only [] at q1 q2 q3 q4 q5
   by_cases hk:i<x.length
   · have hxi:=hxd _ (getD_mem hk)
     simp only [go_sem,hk]
     refine trX_loop HE hP.mix [22,2,1,0] (fun q:Nat × List Nat × Nat=>⟨upd (upd (upd (upd (upd (upd (upd (upd (upd (upd (fun _=>.junk) 4 (.ref 2 0)) 7 (sv x)) 8 (sv y)) 9 (.sl 22 0 (x.length+y.length) 1)) 51 (.int .i64 (x.length:Int))) 52 (.int .i64 (i:Int))) 10 (.int .i64 (i:Int))) 11 (.int .u64 (q.2.2:Int))) 56 (.int .i64 (y.length:Int))) 57 (.int .i64 (q.1:Int)),upd (upd (upd (upd (fun _=>.unused) 0 (.live [.int .u64 (a:Int),.nils])) 1 (.live [.int .u64 0,.imm y.length (List.map (fun d:Nat=>AV.int .u64 (d:Int)) (y))])) 2 (.live [.int .u64 0,.nils])) 22 (.live (List.map (fun d:Nat=>AV.int .u64 (d:Int)) (q.2.1))),111⟩)
      (fun q=>q.1≤y.length∧q.2.1.length=x.length+y.length∧(∀ d ∈ q.2.1,d<18446744073709551616)∧q.2.2<18446744073709551616∧(∀ j,i+y.length≤j→q.2.1.getD j 0=0)∧dOf 18446744073709551616 q.2.1+18446744073709551616^(i+q.1)*q.2.2=dOf 18446744073709551616 z+18446744073709551616^i*x.getD i 0*dOf 18446744073709551616 (y.take q.1)) (fun q=>y.length-q.1) (0,z,0) 60
      Has.z (Kept.of rfl KT.z KM.z) ⟨by simp,q2,q3,by simp,q4,by simp [dOf]⟩ 111 (by kernel_rfl) ?_
     rintro ⟨j,z',c⟩ ⟨r1,r2,r3,r4,r5,r6⟩
     simp only [] at r1 r2 r3 r4 r5 r6
     by_cases hj:j<y.length
     · have e1:x ≠ []:=by intro e; rw [e] at hk; simp at hk
       have e2:y ≠ []:=by intro e; rw [e] at hj; simp at hj
       have hyj:=hyd _ (getD_mem hj)
       have hij:i+j<x.length+y.length:=by omega
       have hz:i+j<z'.length:=by omega
       have hzd:=r3 _ (getD_mem hz)
       have hm:=mull_lt (x.getD i 0) (y.getD j 0)
       have hal:=addl_lt (mull (x.getD i 0) (y.getD j 0)) c 0
       have hcar:=mul_carry hxi hyj r4 hzd
       have hw1:=wu_add' (mulh (x.getD i 0) (y.getD j 0)) (addh (mull (x.getD i 0) (y.getD j 0)) c 0) (by omega)
       have hw2:=wu_add' (mulh (x.getD i 0) (y.getD j 0)+addh (mull (x.getD i 0) (y.getD j 0)) c 0) (addh (z'.getD (i+j) 0) (addl (mull (x.getD i 0) (y.getD j 0)) c 0) 0) hcar
       have hw3:=wi_add i j (by omega)
       have hw4:=wi_add1 j (by omega)
       have hki:i≤x.length:=by omega
       have hkj:j≤y.length:=by omega
       simp only [go_sem,hj,hk,hki,hkj,sv_ia e1,sv_ia e2,gU' hk,gU' hj,hxi,hyj,hm,hal,hw1,hw2,hw3,hw4,hij,hz,gU hz,hzd]
       have hs:=dOf_set 18446744073709551616 z' (i+j) (addl (z'.getD (i+j) 0) (addl (mull (x.getD i 0) (y.getD j 0)) c 0) 0) hz
       have hst:=mul_step (18446744073709551616^(i+j)) (x.getD i 0) (y.getD j 0) c (z'.getD (i+j) 0) _ _ _ r6 hs
       refine ⟨(j+1,z'.set (i+j) (addl (z'.getD (i+j) 0) (addl (mull (x.getD i 0) (y.getD j 0)) c 0) 0),mulh (x.getD i 0) (y.getD j 0)+addh (mull (x.getD i 0) (y.getD j 0)) c 0+addh (z'.getD (i+j) 0) (addl (mull (x.getD i 0) (y.getD j 0)) c 0) 0),Kept.of rfl KT.z KM.z,⟨by simp only []; omega,by simp only [List.length_set]; omega,?_,hcar,?_,?_⟩,by simp only []; omega⟩
       · intro d hd
         rcases List.mem_or_eq_of_mem_set hd with hd|rfl
         · exact r3 d hd
         · exact addl_lt _ _ _
       · intro j' hj'
         simp only []
         rw [getD_set_ne _ _ _ _ (by omega)]; exact r5 j' hj'
       · simp only []
         rw [dOf_take_succ 18446744073709551616 y j hj,← Nat.add_assoc,Nat.pow_succ]
         refine hst.trans ?_
         rw [Nat.mul_add (18446744073709551616^i*x.getD i 0)]
         congr 2
         rw [Nat.pow_add]
         generalize x.getD i 0=u; generalize y.getD j 0=v; generalize 18446744073709551616^i=p1; generalize 18446744073709551616^j=p2
         simp only [Nat.mul_assoc]; congr 1; rw [← Nat.mul_assoc,← Nat.mul_assoc,Nat.mul_comm p2 u]
     · have hw1:=wi_add i y.length (by omega)
       have hz:i+y.length<z'.length:=by omega
       have hij:i+y.length<x.length+y.length:=by omega
       have hw2:=wi_add1 i (by omega)
       simp only [go_sem,hj,hw1,hw2,hz,hij,gU hz]
       have htj:y.take j=y:=List.take_of_length_le (by omega)
       have hjl:j=y.length:=by omega
       rw [htj,hjl] at r6
       refine ⟨(i+1,z'.set (i+y.length) c),Kept.of rfl KT.z KM.z,⟨by simp only []; omega,by simp only [List.length_set]; omega,?_,?_,?_⟩,by simp only []; omega⟩
       · intro d hd
         rcases List.mem_or_eq_of_mem_set hd with hd|rfl
         · exact r3 d hd
         · exact r4
       · intro j' hj'
         simp only [] at hj' ⊢
         rw [getD_set_ne _ _ _ _ (by omega)]; exact r5 j' (by omega)
       · simp only []
         have hs:=dOf_set 18446744073709551616 z' (i+y.length) c hz
         rw [r5 _ (Nat.le_refl _),Nat.mul_zero,Nat.add_zero] at hs
         rw [hs,r6,q5,dOf_take_succ 18446744073709551616 x i hk,Nat.add_mul]
   · have htk:z.take (x.length+y.length)=z:=List.take_of_length_le (by omega)
     have hsl:x.length+y.length<4611686018427387904:=by omega
     have hz3:(∀ d ∈ z,d<18446744073709551616)=True:=eq_true q3
     have hti:x.take i=x:=List.take_of_length_le (by omega)
     simp only [go_sem,hk,htk,q2,hz3,hsl]
     rw [q5,hti,hx,hy]; exact .refl _
 · have hl:=digs_length_gt 18446744073709551616 a 1 (by decide) (by omega)
   have hl2:2≤(digs 18446744073709551616 a).length:=by omega
   have hl3:((digs 18446744073709551616 a).length ≠ 0)=True:=eq_true (by omega)
   by_cases h2:b<18446744073709551616
   · rw [natC_great h1,natC_small h2]
     refine CSpec_go (E:=⟨T0,Sb⟩) (fn34 hP) HE hP.mix ?_
     simp only [go_sem,h2,hl2,hl3]
     generalize digs 18446744073709551616 a=x at *
     generalize digs 18446744073709551616 b=y at *
     have hi:=wi_add x.length y.length (by omega)
     have hi2:x.length+y.length≤1099511627776:=by omega
     simp only [go_sem,hi,hi2]
     refine trX_loop HE hP.mix [19,2,1,0] (fun q:Nat × List Nat=>⟨upd (upd (upd (upd (upd (upd (fun _=>.junk) 4 (.ref 2 0)) 7 (sv x)) 8 (sv y)) 9 (.sl 19 0 (x.length+y.length) 1)) 51 (.int .i64 (x.length:Int))) 52 (.int .i64 (q.1:Int)),upd (upd (upd (upd (fun _=>.unused) 0 (.live [.int .u64 0,.imm x.length (List.map (fun d:Nat=>AV.int .u64 (d:Int)) (x))])) 1 (.live [.int .u64 (b:Int),.nils])) 2 (.live [.int .u64 0,.nils])) 19 (.live (List.map (fun d:Nat=>AV.int .u64 (d:Int)) (q.2))),111⟩)
      (fun q=>q.1≤x.length∧q.2.length=x.length+y.length∧(∀ d ∈ q.2,d<18446744073709551616)∧(∀ j,q.1+y.length≤j→q.2.getD j 0=0)∧dOf 18446744073709551616 q.2=dOf 18446744073709551616 (x.take q.1)*dOf 18446744073709551616 y) (fun q=>x.length-q.1) (0,List.replicate (x.length+y.length) 0) 60
      Has.z (Kept.of rfl KT.z KM.z) ⟨by simp,by simp,by intro d hd; rw [List.eq_of_mem_replicate hd]; decide,by intro j _; simp [List.getD_eq_getElem?_getD,List.getElem?_replicate]; split<;>rfl,by simp [dOf,dOf_zeros]⟩ 111 (by kernel_rfl) ?_
     rintro ⟨i,z⟩ ⟨q1,q2,q3,q4,q5⟩
     simp only [] at q1 q2 q3 q4 q5
     by_cases hk:i<x.length
     · have hxi:=hxd _ (getD_mem hk)
       simp only [go_sem,hk]
       refine trX_loop HE hP.mix [19,2,1,0] (fun q:Nat × List Nat × Nat=>⟨upd (upd (upd (upd (upd (upd (upd (upd (upd (upd (fun _=>.junk) 4 (.ref 2 0)) 7 (sv x)) 8 (sv y)) 9 (.sl 19 0 (x.length+y.length) 1)) 51 (.int .i64 (x.length:Int))) 52 (.int .i64 (i:Int))) 10 (.int .i64 (i:Int))) 11 (.int .u64 (q.2.2:Int))) 56 (.int .i64 (y.length:Int))) 57 (.int .i64 (q.1:Int)),upd (upd (upd (upd (fun _=>.unused) 0 (.live [.int .u64 0,.imm x.length (List.map (fun d:Nat=>AV.int .u64 (d:Int)) (x))])) 1 (.live [.int .u64 (b:Int),.nils])) 2 (.live [.int .u64 0,.nils])) 19 (.live (List.map (fun d:Nat=>AV.int .u64 (d:Int)) (q.2.1))),111⟩)
        (fun q=>q.1≤y.length∧q.2.1.length=x.length+y.length∧(∀ d ∈ q.2.1,d<18446744073709551616)∧q.2.2<18446744073709551616∧(∀ j,i+y.length≤j→q.2.1.getD j 0=0)∧dOf 18446744073709551616 q.2.1+18446744073709551616^(i+q.1)*q.2.2=dOf 18446744073709551616 z+18446744073709551616^i*x.getD i 0*dOf 18446744073709551616 (y.take q.1)) (fun q=>y.length-q.1) (0,z,0) 60
        Has.z (Kept.of rfl KT.z KM.z) ⟨by simp,q2,q3,by simp,q4,by simp [dOf]⟩ 111 (by kernel_rfl) ?_
       rintro ⟨j,z',c⟩ ⟨r1,r2,r3,r4,r5,r6⟩
       simp only [] at r1 r2 r3 r4 r5 r6
       by_cases hj:j<y.length
       · have e1:x ≠ []:=by intro e; rw [e] at hk; simp at hk
         have e2:y ≠ []:=by intro e; rw [e] at hj; simp at hj
         have hyj:=hyd _ (getD_mem hj)
         have hij:i+j<x.length+y.length:=by omega
         have hz:i+j<z'.length:=by omega
         have hzd:=r3 _ (getD_mem hz)
         have hm:=mull_lt (x.getD i 0) (y.getD j 0)
         have hal:=addl_lt (mull (x.getD i 0) (y.getD j 0)) c 0
         have hcar:=mul_carry hxi hyj r4 hzd
         have hw1:=wu_add' (mulh (x.getD i 0) (y.getD j 0)) (addh (mull (x.getD i 0) (y.getD j 0)) c 0) (by omega)
         have hw2:=wu_add' (mulh (x.getD i 0) (y.getD j 0)+addh (mull (x.getD i 0) (y.getD j 0)) c 0) (addh (z'.getD (i+j) 0) (addl (mull (x.getD i 0) (y.getD j 0)) c 0) 0) hcar
         have hw3:=wi_add i j (by omega)
         have hw4:=wi_add1 j (by omega)
         have hki:i≤x.length:=by omega
         have hkj:j≤y.length:=by omega
         simp only [go_sem,hj,hk,hki,hkj,sv_ia e1,sv_ia e2,gU' hk,gU' hj,hxi,hyj,hm,hal,hw1,hw2,hw3,hw4,hij,hz,gU hz,hzd]
         have hs:=dOf_set 18446744073709551616 z' (i+j) (addl (z'.getD (i+j) 0) (addl (mull (x.getD i 0) (y.getD j 0)) c 0) 0) hz
         have hst:=mul_step (18446744073709551616^(i+j)) (x.getD i 0) (y.getD j 0) c (z'.getD (i+j) 0) _ _ _ r6 hs
         refine ⟨(j+1,z'.set (i+j) (addl (z'.getD (i+j) 0) (addl (mull (x.getD i 0) (y.getD j 0)) c 0) 0),mulh (x.getD i 0) (y.getD j 0)+addh (mull (x.getD i 0) (y.getD j 0)) c 0+addh (z'.getD (i+j) 0) (addl (mull (x.getD i 0) (y.getD j 0)) c 0) 0),Kept.of rfl KT.z KM.z,⟨by simp only []; omega,by simp only [List.length_set]; omega,?_,hcar,?_,?_⟩,by simp only []; omega⟩
         · intro d hd
           rcases List.mem_or_eq_of_mem_set hd with hd|rfl
           · exact r3 d hd
           · exact addl_lt _ _ _
         · intro j' hj'
           simp only []
           rw [getD_set_ne _ _ _ _ (by omega)]; exact r5 j' hj'
         · simp only []
           rw [dOf_take_succ 18446744073709551616 y j hj,← Nat.add_assoc,Nat.pow_succ]
           refine hst.trans ?_
           rw [Nat.mul_add (18446744073709551616^i*x.getD i 0)]
           congr 2
           rw [Nat.pow_add]
           generalize x.getD i 0=u; generalize y.getD j 0=v; generalize 18446744073709551616^i=p1; generalize 18446744073709551616^j=p2
           simp only [Nat.mul_assoc]; congr 1; rw [← Nat.mul_assoc,← Nat.mul_assoc,Nat.mul_comm p2 u]
       · have hw1:=wi_add i y.length (by omega)
         have hz:i+y.length<z'.length:=by omega
         have hij:i+y.length<x.length+y.length:=by omega
         have hw2:=wi_add1 i (by omega)
         simp only [go_sem,hj,hw1,hw2,hz,hij,gU hz]
         have htj:y.take j=y:=List.take_of_length_le (by omega)
         have hjl:j=y.length:=by omega
         rw [htj,hjl] at r6
         refine ⟨(i+1,z'.set (i+y.length) c),Kept.of rfl KT.z KM.z,⟨by simp only []; omega,by simp only [List.length_set]; omega,?_,?_,?_⟩,by simp only []; omega⟩
         · intro d hd
           rcases List.mem_or_eq_of_mem_set hd with hd|rfl
           · exact r3 d hd
           · exact r4
         · intro j' hj'
           simp only [] at hj' ⊢
           rw [getD_set_ne _ _ _ _ (by omega)]; exact r5 j' (by omega)
         · simp only []
           have hs:=dOf_set 18446744073709551616 z' (i+y.length) c hz
           rw [r5 _ (Nat.le_refl _),Nat.mul_zero,Nat.add_zero] at hs
           rw [hs,r6,q5,dOf_take_succ 18446744073709551616 x i hk,Nat.add_mul]
     · have htk:z.take (x.length+y.length)=z:=List.take_of_length_le (by omega)
       have hsl:x.length+y.length<4611686018427387904:=by omega
       have hz3:(∀ d ∈ z,d<18446744073709551616)=True:=eq_true q3
       have hti:x.take i=x:=List.take_of_length_le (by omega)
       simp only [go_sem,hk,htk,q2,hz3,hsl]
       rw [q5,hti,hx,hy]; exact .refl _
   · rw [natC_great h1,natC_great h2]
     have hl4:=digs_length_gt 18446744073709551616 b 1 (by decide) (by omega)
     have hl5:2≤(digs 18446744073709551616 b).length:=by omega
     have hl6:((digs 18446744073709551616 b).length ≠ 0)=True:=eq_true (by omega)
     refine CSpec_go (E:=⟨T0,Sb⟩) (fn34 hP) HE hP.mix ?_
     simp only [go_sem,hl2,hl3,hl5,hl6]
     generalize digs 18446744073709551616 a=x at *
     generalize digs 18446744073709551616 b=y at *
     have hi:=wi_add x.length y.length (by omega)
     have hi2:x.length+y.length≤1099511627776:=by omega
     simp only [go_sem,hi,hi2]
     refine trX_loop HE hP.mix [19,2,1,0] (fun q:Nat × List Nat=>⟨upd (upd (upd (upd (upd (upd (fun _=>.junk) 4 (.ref 2 0)) 7 (sv x)) 8 (sv y)) 9 (.sl 19 0 (x.length+y.length) 1)) 51 (.int .i64 (x.length:Int))) 52 (.int .i64 (q.1:Int)),upd (upd (upd (upd (fun _=>.unused) 0 (.live [.int .u64 0,.imm x.length (List.map (fun d:Nat=>AV.int .u64 (d:Int)) (x))])) 1 (.live [.int .u64 0,.imm y.length (List.map (fun d:Nat=>AV.int .u64 (d:Int)) (y))])) 2 (.live [.int .u64 0,.nils])) 19 (.live (List.map (fun d:Nat=>AV.int .u64 (d:Int)) (q.2))),111⟩)
      (fun q=>q.1≤x.length∧q.2.length=x.length+y.length∧(∀ d ∈ q.2,d<18446744073709551616)∧(∀ j,q.1+y.length≤j→q.2.getD j 0=0)∧dOf 18446744073709551616 q.2=dOf 18446744073709551616 (x.take q.1)*dOf 18446744073709551616 y) (fun q=>x.length-q.1) (0,List.replicate (x.length+y.length) 0) 60
      Has.z (Kept.of rfl KT.z KM.z) ⟨by simp,by simp,by intro d hd; rw [List.eq_of_mem_replicate hd]; decide,by intro j _; simp [List.getD_eq_getElem?_getD,List.getElem?_replicate]; split<;>rfl,by simp [dOf,dOf_zeros]⟩ 111 (by kernel_rfl) ?_
     rintro ⟨i,z⟩ ⟨q1,q2,q3,q4,q5⟩
     simp only [] at q1 q2 q3 q4 q5
     by_cases hk:i<x.length
     · have hxi:=hxd _ (getD_mem hk)
       simp only [go_sem,hk]
       refine trX_loop HE hP.mix [19,2,1,0] (fun q:Nat × List Nat × Nat=>⟨upd (upd (upd (upd (upd (upd (upd (upd (upd (upd (fun _=>.junk) 4 (.ref 2 0)) 7 (sv x)) 8 (sv y)) 9 (.sl 19 0 (x.length+y.length) 1)) 51 (.int .i64 (x.length:Int))) 52 (.int .i64 (i:Int))) 10 (.int .i64 (i:Int))) 11 (.int .u64 (q.2.2:Int))) 56 (.int .i64 (y.length:Int))) 57 (.int .i64 (q.1:Int)),upd (upd (upd (upd (fun _=>.unused) 0 (.live [.int .u64 0,.imm x.length (List.map (fun d:Nat=>AV.int .u64 (d:Int)) (x))])) 1 (.live [.int .u64 0,.imm y.length (List.map (fun d:Nat=>AV.int .u64 (d:Int)) (y))])) 2 (.live [.int .u64 0,.nils])) 19 (.live (List.map (fun d:Nat=>AV.int .u64 (d:Int)) (q.2.1))),111⟩)
        (fun q=>q.1≤y.length∧q.2.1.length=x.length+y.length∧(∀ d ∈ q.2.1,d<18446744073709551616)∧q.2.2<18446744073709551616∧(∀ j,i+y.length≤j→q.2.1.getD j 0=0)∧dOf 18446744073709551616 q.2.1+18446744073709551616^(i+q.1)*q.2.2=dOf 18446744073709551616 z+18446744073709551616^i*x.getD i 0*dOf 18446744073709551616 (y.take q.1)) (fun q=>y.length-q.1) (0,z,0) 60
        Has.z (Kept.of rfl KT.z KM.z) ⟨by simp,q2,q3,by simp,q4,by simp [dOf]⟩ 111 (by kernel_rfl) ?_
       rintro ⟨j,z',c⟩ ⟨r1,r2,r3,r4,r5,r6⟩
       simp only [] at r1 r2 r3 r4 r5 r6
       by_cases hj:j<y.length
       · have e1:x ≠ []:=by intro e; rw [e] at hk; simp at hk
         have e2:y ≠ []:=by intro e; rw [e] at hj; simp at hj
         have hyj:=hyd _ (getD_mem hj)
         have hij:i+j<x.length+y.length:=by omega
         have hz:i+j<z'.length:=by omega
         have hzd:=r3 _ (getD_mem hz)
         have hm:=mull_lt (x.getD i 0) (y.getD j 0)
         have hal:=addl_lt (mull (x.getD i 0) (y.getD j 0)) c 0
         have hcar:=mul_carry hxi hyj r4 hzd
         have hw1:=wu_add' (mulh (x.getD i 0) (y.getD j 0)) (addh (mull (x.getD i 0) (y.getD j 0)) c 0) (by omega)
         have hw2:=wu_add' (mulh (x.getD i 0) (y.getD j 0)+addh (mull (x.getD i 0) (y.getD j 0)) c 0) (addh (z'.getD (i+j) 0) (addl (mull (x.getD i 0) (y.getD j 0)) c 0) 0) hcar
         have hw3:=wi_add i j (by omega)
         have hw4:=wi_add1 j (by omega)
         have hki:i≤x.length:=by omega
         have hkj:j≤y.length:=by omega
         simp only [go_sem,hj,hk,hki,hkj,sv_ia e1,sv_ia e2,gU' hk,gU' hj,hxi,hyj,hm,hal,hw1,hw2,hw3,hw4,hij,hz,gU hz,hzd]
         have hs:=dOf_set 18446744073709551616 z' (i+j) (addl (z'.getD (i+j) 0) (addl (mull (x.getD i 0) (y.getD j 0)) c 0) 0) hz
         have hst:=mul_step (18446744073709551616^(i+j)) (x.getD i 0) (y.getD j 0) c (z'.getD (i+j) 0) _ _ _ r6 hs
         refine ⟨(j+1,z'.set (i+j) (addl (z'.getD (i+j) 0) (addl (mull (x.getD i 0) (y.getD j 0)) c 0) 0),mulh (x.getD i 0) (y.getD j 0)+addh (mull (x.getD i 0) (y.getD j 0)) c 0+addh (z'.getD (i+j) 0) (addl (mull (x.getD i 0) (y.getD j 0)) c 0) 0),Kept.of rfl KT.z KM.z,⟨by simp only []; omega,by simp only [List.length_set]; omega,?_,hcar,?_,?_⟩,by simp only []; omega⟩
         · intro d hd
           rcases List.mem_or_eq_of_mem_set hd with hd|rfl
           · exact r3 d hd
           · exact addl_lt _ _ _
         · intro j' hj'
           simp only []
           rw [getD_set_ne _ _ _ _ (by omega)]; exact r5 j' hj'
         · simp only []
           rw [dOf_take_succ 18446744073709551616 y j hj,← Nat.add_assoc,Nat.pow_succ]
           refine hst.trans ?_
           rw [Nat.mul_add (18446744073709551616^i*x.getD i 0)]
           congr 2
           rw [Nat.pow_add]
           generalize x.getD i 0=u; generalize y.getD j 0=v; generalize 18446744073709551616^i=p1; generalize 18446744073709551616^j=p2
           simp only [Nat.mul_assoc]; congr 1; rw [← Nat.mul_assoc,← Nat.mul_assoc,Nat.mul_comm p2 u]
       · have hw1:=wi_add i y.length (by omega)
         have hz:i+y.length<z'.length:=by omega
         have hij:i+y.length<x.length+y.length:=by omega
         have hw2:=wi_add1 i (by omega)
         simp only [go_sem,hj,hw1,hw2,hz,hij,gU hz]
         have htj:y.take j=y:=List.take_of_length_le (by omega)
         have hjl:j=y.length:=by omega
         rw [htj,hjl] at r6
         refine ⟨(i+1,z'.set (i+y.length) c),Kept.of rfl KT.z KM.z,⟨by simp only []; omega,by simp only [List.length_set]; omega,?_,?_,?_⟩,by simp only []; omega⟩
         · intro d hd
           rcases List.mem_or_eq_of_mem_set hd with hd|rfl
           · exact r3 d hd
           · exact r4
         · intro j' hj'
           simp only [] at hj' ⊢
           rw [getD_set_ne _ _ _ _ (by omega)]; exact r5 j' (by omega)
         · simp only []
           have hs:=dOf_set 18446744073709551616 z' (i+y.length) c hz
           rw [r5 _ (Nat.le_refl _),Nat.mul_zero,Nat.add_zero] at hs
           rw [hs,r6,q5,dOf_take_succ 18446744073709551616 x i hk,Nat.add_mul]
     · have htk:z.take (x.length+y.length)=z:=List.take_of_length_le (by omega)
       have hsl:x.length+y.length<4611686018427387904:=by omega
       have hz3:(∀ d ∈ z,d<18446744073709551616)=True:=eq_true q3
       have hti:x.take i=x:=List.take_of_length_le (by omega)
       simp only [go_sem,hk,htk,q2,hz3,hsl]
       rw [q5,hti,hx,hy]; exact .refl _
theorem Mul_spec (hP:PrgOk P) (a b:Nat) (ha:blen a≤68719476736) (hb:blen b≤68719476736):CSpec P 34 [(.agg [.opq (.nat (a)),.pad]),(.agg [.opq (.nat (b)),.pad])] (.agg [.opq (.nat (a*b)),.pad]):=by
 refine CSpec.cv ?_ (CvL.natIn a (CvL.natIn b .nil))
 by_cases h:a<18446744073709551616∧b<18446744073709551616
 · rw [natC_small h.1,natC_small h.2]; exact Mul_small hP a b h.1 h.2
 · exact Mul_great hP a b ha hb h
def MulS:List AV→Option (Prop × AV):=on2 fun a b=>(blen a≤68719476736∧blen b≤68719476736,(.agg [.opq (.nat (a*b)),.pad]))
theorem MulS_ok (hP:PrgOk P) (args p r):MulS args=some (p,r)→p→CSpec P 34 args r:=on2_ok (fun a b h=>by exact Mul_spec hP a b h.1 h.2) args p r
attribute [go_sem] MulS
end Go.Proofs.Ytmahhmdeocnlgaa.AM
